/- The document's log: New. -/
import Derived.Test.YtpjpknndfhablaaRlogD
namespace Go.Proofs.Ytpjpknndfhablaa
open Go.RowKit
/-- How the document's New ends. -/
def RNewEnds (y : Nat) (w : World) (o : Option Wal.LS) (d' : DS) (ub : Option Nat) (r : Int) (e : Ending) (w' : World) : Prop :=
  ∃ v, e = .returned (.tuple #[v, .int .i64 r]) ∧ (∀ l, o = some l → ∃ x, v = .pointer (some ⟨x, 0, none⟩) ∧ w.heap.size ≤ x ∧ RlogAt w' x y l) ∧ (o = none → v = .pointer none) ∧
    ∃ ub', RefAt w' y d' ub' ∧ Newer w ub ub' ∧ Touch (· = y) w w'
theorem RNewEnds.refused {y : Nat} {w w' : World} {d : DS} {ub ub' : Option Nat} {r : Int} (h : RefAt w' y d ub') (hn : Newer w ub ub') (ht : Touch (· = y) w w') : RNewEnds y w none d ub r (.returned (.tuple #[.pointer none, .int .i64 r])) w' :=
  ⟨_, rfl, (fun _ h => by cases h), fun _ => rfl, ub', h, hn, ht⟩
set_option maxHeartbeats 4000000 in
set_option maxRecDepth 100000 in
theorem rnewL_any (y : Nat) (w : World) (d : DS) (ub : Option Nat) (h : RefAt w y d ub) :
    Calls Try.prog 41 #[.pointer (some ⟨y, 0, none⟩)] w (RNewEnds y w (Wal.new d).1 (Wal.new d).2.1 ub (Wal.new d).2.2) := by
  have HD := Lib.hid h
  obtain ⟨hok, us, hr, _⟩ := h
  obtain ⟨_, _, _, _, _, c5, _, _⟩ := hr.cells
  clear hok hr
  cases hdd : d.dead with
  | true =>
    rw [hdd] at c5
    have HX : Hid (Wal.new d = (none, d, 2)) := Lib.hid (by unfold Wal.new; rw [if_pos hdd])
    go_enter Try.func41, Try.ntmps41
    go_wp2_with fail
    refine bodyPost_ret (results_tmp2 rfl _ _ _) rfl ?_
    rw [HX.out]
    exact RNewEnds.refused HD.out (Newer.refl _ _) (Touch.refl _ _)
  | false =>
    rw [hdd] at c5
    have HDD := Lib.hid hdd
    clear hdd
    obtain ⟨z0, hz0⟩ : ∃ z, d.size false = z := ⟨_, rfl⟩
    obtain ⟨z1, hz1⟩ : ∃ z, d.size true = z := ⟨_, rfl⟩
    have HZ0 := Lib.hid hz0
    have HZ1 := Lib.hid hz1
    clear hz0 hz1
    go_enter Try.func41, Try.ntmps41
    go_wp2_with fail
    refine (rsize_at y _ d ub false HD.out).mono ?_
    rw [HZ0.out]
    rintro e w1 ⟨rfl, rfl⟩
    by_cases h0 : 0 < z0
    · have HX : Hid (Wal.new d = (none, d, 100)) := Lib.hid (by unfold Wal.new; rw [if_neg (by simp [HDD.out]), HZ0.out, if_pos (by omega)])
      go_wp2_with fail
      refine bodyPost_ret (results_tmp2 rfl _ _ _) rfl ?_
      rw [HX.out]
      exact RNewEnds.refused HD.out (Newer.refl _ _) (Touch.refl _ _)
    · go_wp2_with fail
      refine (rsize_at y _ d ub true HD.out).mono ?_
      rw [HZ1.out]
      rintro e w1 ⟨rfl, rfl⟩
      by_cases h1 : 0 < z1
      · have HX : Hid (Wal.new d = (none, d, 100)) := Lib.hid (by unfold Wal.new; rw [if_neg (by simp [HDD.out]), HZ0.out, HZ1.out, if_pos (by omega)])
        go_wp2_with fail
        refine bodyPost_ret (results_tmp2 rfl _ _ _) rfl ?_
        rw [HX.out]
        exact RNewEnds.refused HD.out (Newer.refl _ _) (Touch.refl _ _)
      · obtain ⟨A, hA⟩ : ∃ A, Sha.big 1 8 = A := ⟨_, rfl⟩
        have hAl : A.length = 8 := by rw [← hA]; exact Sha.big_length _ _
        obtain ⟨B, hB⟩ : ∃ B, Wal.frame [] = B := ⟨_, rfl⟩
        have hBl : B.length = 8 := by rw [← hB]; exact Wal.frame_length _
        have hH : Wal.head 1 [] = 83 :: 78 :: 76 :: 49 :: (A ++ B) := by unfold Wal.head; rw [hA, hB]; rfl
        obtain ⟨H, hHH⟩ : ∃ H, Wal.head 1 [] = H := ⟨_, rfl⟩
        have hHl : H.length ≤ 524308 := by rw [← hHH, Wal.head_length]; simp
        obtain ⟨n, hn⟩ : ∃ n, (d.append 0 H).2 = n := ⟨_, rfl⟩
        have HA := Lib.hid hA
        have HB := Lib.hid hB
        have HN := Lib.hid hn
        have HH := Lib.hid hHH
        have HHH : Hid (83 :: 78 :: 76 :: 49 :: (A ++ B) = H) := Lib.hid (hH.symm.trans hHH)
        have hap1 := bytes_append [83, 78, 76, 49] A
        have hap2 := bytes_append (83 :: 78 :: 76 :: 49 :: A) B
        clear hA hB hH hn hHH
        go_wp2_with fail
        refine (rbytes_any 1 8 _ (by decide) (by decide)).mono ?_
        rw [HA.out]
        rintro e w1 ⟨rfl, b1⟩
        have B1 := Lib.hid b1
        clear b1
        go_wp2_with fail
        refine (rframe_any [] _ (by decide)).mono ?_
        rw [HB.out]
        rintro e w2 ⟨rfl, b2⟩
        have B2 := Lib.hid (bthen B1.out b2)
        clear b2
        go_wp2_with fail
        try rw [HHH.out]
        refine (rappend_any y _ d ub 0 H (HD.out.below B2.out) (by omega)).mono ?_
        rw [HN.out]
        rintro e w3 ⟨rfl, ub', hd3, hn3, ht3⟩
        have HD3 := Lib.hid hd3
        have HN3 := Lib.hid (hn3.later (w := w) B2.out.size)
        have HT3 : Hid (Touch (· = y) w w3) := Lib.hid (Touch.trans (Touch.of_below B2.out) ht3 (fun _ _ h => h))
        clear hd3 hn3 ht3
        obtain ⟨E, hE⟩ : ∃ E, (d.append 0 H).1 = E := ⟨_, rfl⟩
        rw [hE] at HD3
        have HE := Lib.hid hE
        clear hE
        by_cases hn0 : n = 0
        · subst hn0
          obtain ⟨q, hq⟩ : ∃ q, E.sync.2 = q := ⟨_, rfl⟩
          have HQ := Lib.hid hq
          clear hq
          have HLA : Hid (Wal.lays d false 1 [] = (E.sync.1, q)) := Lib.hid (by unfold Wal.lays; rw [HH.out, show DS.fi false = 0 from rfl, HN.out, if_neg (by simp), HE.out, ← HQ.out])
          go_wp2_with fail
          refine (rsync_any y _ E ub' HD3.out).mono ?_
          rw [HQ.out]
          rintro e w4 ⟨rfl, ub2, hd4, hn4, ht4⟩
          have HD4 := Lib.hid hd4
          have HN4 := Lib.hid (HN3.out.trans hn4 HT3.out.size)
          have HT4 : Hid (Touch (· = y) w w4) := Lib.hid (Touch.trans HT3.out ht4 (fun _ _ h => h))
          clear hd4 hn4 ht4
          by_cases hq0 : q = 0
          · subst hq0
            have HX : Hid (Wal.new d = (some { f := false, g := 1, n := 0, dead := false }, E.sync.1, 0)) := Lib.hid (by unfold Wal.new; rw [if_neg (by simp [HDD.out]), HZ0.out, HZ1.out, if_neg (by omega), HLA.out, if_neg (by simp)])
            go_wp2_with fail
            refine bodyPost_ret (results_tmp2 rfl _ _ _) rfl ?_
            rw [HX.out]
            exact ⟨_, rfl, (fun l h => by cases h; exact ⟨_, rfl, HT4.out.size, heap_new w4 _⟩), (fun h => by cases h), ub2, HD4.out.below (balloc _ _), HN4.out, HT4.out.alloc _⟩
          · have HX : Hid (Wal.new d = (none, E.sync.1, 2)) := Lib.hid (by unfold Wal.new; rw [if_neg (by simp [HDD.out]), HZ0.out, HZ1.out, if_neg (by omega), HLA.out, if_pos hq0])
            go_wp2_with fail
            refine bodyPost_ret (results_tmp2 rfl _ _ _) rfl ?_
            rw [HX.out]
            exact RNewEnds.refused HD4.out HN4.out HT4.out
        · have HLA : Hid (Wal.lays d false 1 [] = (E, n)) := Lib.hid (by unfold Wal.lays; rw [HH.out, show DS.fi false = 0 from rfl, HN.out, if_pos hn0]; exact Prod.ext HE.out HN.out)
          have HX : Hid (Wal.new d = (none, E, 2)) := Lib.hid (by unfold Wal.new; rw [if_neg (by simp [HDD.out]), HZ0.out, HZ1.out, if_neg (by omega), HLA.out, if_pos hn0])
          go_wp2_with fail
          refine bodyPost_ret (results_tmp2 rfl _ _ _) rfl ?_
          rw [HX.out]
          exact RNewEnds.refused HD3.out HN3.out HT3.out
end Go.Proofs.Ytpjpknndfhablaa
