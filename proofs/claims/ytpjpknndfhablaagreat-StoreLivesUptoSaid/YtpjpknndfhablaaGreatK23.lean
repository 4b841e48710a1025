/- The document's log: Checkpoint. The document's log: Copy, New. The document's log: New. -/
import Derived.Test.YtpjpknndfhablaaGreatK12
import Derived.Test.YtpjpknndfhablaaGreatK22
namespace Go.Proofs.YtpjpknndfhablaaGreat
open Go.RowKit
theorem RWorked.onward {x y : Nat} {l : Wal.LS} {E E' : DS} {ub ub' ub2 : Option Nat} {w w3 w4 : World} (h : RWorked x y l E ub w w3) (h0 : RefAt w3 y E ub') (hn0 : Newer w ub ub') (hd : RefAt w4 y E' ub2) (hn : Newer w3 ub' ub2) (ht : Touch (· = y) w3 w4) : RWorked x y l E' ub w w4 :=
  ⟨h.log.touch ht (fun e => h.log.apart h0 (.inl e)), ⟨ub2, hd, hn0.trans hn h.touch.size⟩, Touch.trans h.touch ht (fun _ _ h => .inl h)⟩
theorem RWorked.set3 {x y : Nat} {l : Wal.LS} {d : DS} {ub : Option Nat} {w w5 : World} (h : RWorked x y l d ub w w5) {F2 : Int} (hf : DS.fi (!l.f) = F2) :
    RWorked x y { l with f := !l.f, g := l.g + 1, n := 0 } d ub w (((w5.setCell ⟨x, 1, none⟩ (.int .i64 F2)).setCell ⟨x, 2, none⟩ (.int .u64 ((l.g : Int) + 1))).setCell ⟨x, 3, none⟩ (.int .i64 0)) := by
  subst hf
  obtain ⟨ub', h1, h2⟩ := h.disk
  have s1 : RlogAt (w5.setCell ⟨x, 1, none⟩ (.int .i64 (DS.fi (!l.f)))) x y { l with f := !l.f } := by
    have := heap_set (i := 1) (.int .i64 (DS.fi (!l.f))) h.log
    simpa [RlogAt, rlogBlock] using this
  have s2 : RlogAt ((w5.setCell ⟨x, 1, none⟩ (.int .i64 (DS.fi (!l.f)))).setCell ⟨x, 2, none⟩ (.int .u64 ((l.g : Int) + 1))) x y { l with f := !l.f, g := l.g + 1 } := by
    have := heap_set (i := 2) (.int .u64 ((l.g : Int) + 1)) s1
    simpa [RlogAt, rlogBlock] using this
  have t1 := h.touch.setCell (a := ⟨x, 1, none⟩) (.int .i64 (DS.fi (!l.f))) (fun _ => .inr rfl)
  have t2 := t1.setCell (a := ⟨x, 2, none⟩) (.int .u64 ((l.g : Int) + 1)) (fun _ => .inr rfl)
  have t3 := t2.setCell (a := ⟨x, 3, none⟩) (.int .i64 0) (fun _ => .inr rfl)
  exact ⟨s2.setN 0, ⟨ub', ((h1.setLog h.log 1 _).setLog s1 2 _).setLog s2 3 _, h2⟩, t3⟩
set_option maxHeartbeats 4000000 in
set_option maxRecDepth 100000 in
theorem rcheckL_any (x y : Nat) (w : World) (l : Wal.LS) (d : DS) (ub : Option Nat) (s : List UInt8) (hl : RlogAt w x y l) (h : RefAt w y d ub) (hs : s.length ≤ 140737488355328) (hlg : l.g ≤ 4611686018427387904) :
    Calls Tryz.prog 130 #[.pointer (some ⟨x, 0, none⟩), .string ⟨s.toArray⟩] w fun e w' => e = .returned (.int .i64 (Wal.checkpoint l d s).2.2) ∧ RWorked x y (Wal.checkpoint l d s).1 (Wal.checkpoint l d s).2.1 ub w w' := by
  obtain ⟨c0, c1, c2, _, c4, _, _⟩ := hl.cells
  have HL := Lib.hid hl
  have HD := Lib.hid h
  clear hl h
  cases hdd : l.dead with
  | true =>
    rw [hdd] at c4
    have HX : Hid (Wal.checkpoint l d s = (l, d, 2)) := Lib.hid (by unfold Wal.checkpoint; rw [if_pos hdd])
    go_enter Tryz.func130, Tryz.ntmps130
    go_wp2_with fail
    go_ret
    rw [HX.out]
    exact ⟨rfl, RWorked.stay HL.out HD.out (Below.refl _ _)⟩
  | false =>
    rw [hdd] at c4
    have HDD := Lib.hid hdd
    clear hdd
    by_cases hlong : 524288 < s.length
    · have HX : Hid (Wal.checkpoint l d s = (l, d, 101)) := Lib.hid (by unfold Wal.checkpoint; rw [if_neg (by simp [HDD.out]), if_pos hlong])
      go_enter Tryz.func130, Tryz.ntmps130
      go_wp2_with fail
      go_ret
      rw [HX.out]
      exact ⟨rfl, RWorked.stay HL.out HD.out (Below.refl _ _)⟩
    · by_cases hg : l.g = 4611686018427387904
      · have HX : Hid (Wal.checkpoint l d s = (l, d, 102)) := Lib.hid (by unfold Wal.checkpoint; rw [if_neg (by simp [HDD.out]), if_neg hlong, if_pos hg])
        have hgi : ((l.g : Int) == 4611686018427387904) = true := by simp; omega
        go_enter Tryz.func130, Tryz.ntmps130
        go_wp2_with fail
        go_ret
        rw [HX.out]
        exact ⟨rfl, RWorked.stay HL.out HD.out (Below.refl _ _)⟩
      · have hgi : ((l.g : Int) == 4611686018427387904) = false := by simp; omega
        have hfi : (1 : Int) - DS.fi l.f = DS.fi (!l.f) := by cases l.f <;> rfl
        have hf01 : DS.fi l.f = 0 ∨ DS.fi l.f = 1 := by cases l.f <;> simp [DS.fi]
        obtain ⟨F, hF⟩ : ∃ F, DS.fi l.f = F := ⟨_, rfl⟩
        obtain ⟨F2, hF2⟩ : ∃ F2, DS.fi (!l.f) = F2 := ⟨_, rfl⟩
        have HF := Lib.hid hF
        have HF2 := Lib.hid hF2
        rw [hF] at hf01 c1 hfi
        rw [hF2] at hfi
        have hwr : IntKind.i64.wrap (1 - F) = F2 := by rw [IntWalk.i64_in _ (by omega)]; exact hfi
        have hwr2 : IntKind.i64.wrap F2 = F2 := by rw [← hfi]; exact IntWalk.i64_in _ (by omega)
        have hwg : IntKind.u64.wrap ((l.g : Int) + 1) = (l.g : Int) + 1 := IntWalk.u64_in _ ⟨by omega, by omega⟩
        obtain ⟨A, hA⟩ : ∃ A, Sha.big (l.g + 1) 8 = A := ⟨_, rfl⟩
        have hAl : A.length = 8 := by rw [← hA]; exact Sha.big_length _ _
        obtain ⟨B, hB⟩ : ∃ B, Wal.frame s = B := ⟨_, rfl⟩
        have hBl : B.length = 8 + s.length := by rw [← hB]; exact Wal.frame_length _
        have hH : Wal.head (l.g + 1) s = 83 :: 78 :: 76 :: 49 :: (A ++ B) := by unfold Wal.head; rw [hA, hB]; rfl
        obtain ⟨H, hHH⟩ : ∃ H, Wal.head (l.g + 1) s = H := ⟨_, rfl⟩
        have hHl : H.length ≤ 524308 := by rw [← hHH, Wal.head_length]; omega
        obtain ⟨n, hn⟩ : ∃ n, (d.append F2 H).2 = n := ⟨_, rfl⟩
        have HA := Lib.hid hA
        have HB := Lib.hid hB
        have HN := Lib.hid hn
        have HH := Lib.hid hHH
        have HHH : Hid (83 :: 78 :: 76 :: 49 :: (A ++ B) = H) := Lib.hid (hH.symm.trans hHH)
        have hap1 := bytes_append [83, 78, 76, 49] A
        have hap2 := bytes_append (83 :: 78 :: 76 :: 49 :: A) B
        have hcast : ((l.g : Int) + 1) = ((l.g + 1 : Nat) : Int) := by omega
        have HCA := Lib.hid hcast
        clear hA hB hH hn hF hF2 hHH hcast
        go_enter Tryz.func130, Tryz.ntmps130
        go_wp2_with fail
        have hS0 : w.drew.cell? ⟨x, 0, none⟩ = some (.pointer (some ⟨y, 0, none⟩)) ∧ w.drew.cell? ⟨x, 1, none⟩ = some (.int .i64 F) ∧ w.drew.cell? ⟨x, 2, none⟩ = some (.int .u64 l.g) := ⟨c0, c1, c2⟩
        refine wp_region_heldL (S := fun w' => w'.cell? ⟨x, 0, none⟩ = some (.pointer (some ⟨y, 0, none⟩)) ∧ w'.cell? ⟨x, 1, none⟩ = some (.int .i64 F) ∧ w'.cell? ⟨x, 2, none⟩ = some (.int .u64 l.g)) (by kernel_rfl) ?_
        refine wpAnyH_takeL (i := 0) (v := ?_) rfl (by kernel_rfl) (by kernel_rfl) (by kernel_rfl) (fun _ _ _ h => h) ?_ (by assumption) ?_; rotate_left; focus (first | (refine Or.inr ⟨by rfl, ?_⟩; with_reducible rfl) | (refine Or.inl ⟨by rfl, ?_⟩; (intro w hSw; (try dsimp only at hSw); go_simp); try with_reducible rfl))
        try simp only [Act.put, List.setIfInBounds_toArray, List.set_cons_zero, List.set_cons_succ]
        refine wpAnyH_takeL (i := 1) (v := ?_) rfl (by kernel_rfl) (by kernel_rfl) (by kernel_rfl) (fun _ _ _ h => h) ?_ (by assumption) ?_; rotate_left; focus (first | (refine Or.inr ⟨by rfl, ?_⟩; with_reducible rfl) | (refine Or.inl ⟨by rfl, ?_⟩; (intro w hSw; (try dsimp only at hSw); go_simp); try with_reducible rfl))
        try simp only [Act.put, List.setIfInBounds_toArray, List.set_cons_zero, List.set_cons_succ]
        refine wpAnyH_takeL (i := 2) (v := ?_) rfl (by kernel_rfl) (by kernel_rfl) (by kernel_rfl) (fun _ _ _ h => h) ?_ (by assumption) ?_; rotate_left; focus (first | (refine Or.inr ⟨by rfl, ?_⟩; with_reducible rfl) | (refine Or.inl ⟨by rfl, ?_⟩; (intro w hSw; (try dsimp only at hSw); go_simp); try with_reducible rfl))
        try simp only [Act.put, List.setIfInBounds_toArray, List.set_cons_zero, List.set_cons_succ]
        refine wpAnyH_takeL (i := 3) (v := ?_) rfl (by kernel_rfl) (by kernel_rfl) (by kernel_rfl) (fun _ _ _ h => h) ?_ (by assumption) ?_; rotate_left; focus (first | (refine Or.inr ⟨by rfl, ?_⟩; with_reducible rfl) | (refine Or.inl ⟨by rfl, ?_⟩; (intro w hSw; (try dsimp only at hSw); go_simp); try with_reducible rfl))
        try simp only [Act.put, List.setIfInBounds_toArray, List.set_cons_zero, List.set_cons_succ]
        refine wpAnyH_takeL (i := 4) (v := ?_) rfl (by kernel_rfl) (by kernel_rfl) (by kernel_rfl) (fun _ _ _ h => h) ?_ (by assumption) ?_; rotate_left; focus (first | (refine Or.inr ⟨by rfl, ?_⟩; with_reducible rfl) | (refine Or.inl ⟨by rfl, ?_⟩; (intro w hSw; (try dsimp only at hSw); go_simp); try with_reducible rfl))
        try simp only [Act.put, List.setIfInBounds_toArray, List.set_cons_zero, List.set_cons_succ]
        refine wpAnyH_takeL (i := 5) (v := ?_) rfl (by kernel_rfl) (by kernel_rfl) (by kernel_rfl) (fun _ _ _ h => h) ?_ (by assumption) ?_; rotate_left; focus (first | (refine Or.inr ⟨by rfl, ?_⟩; with_reducible rfl) | (refine Or.inl ⟨by rfl, ?_⟩; (intro w hSw; (try dsimp only at hSw); go_simp); try with_reducible rfl))
        try simp only [Act.put, List.setIfInBounds_toArray, List.set_cons_zero, List.set_cons_succ]
        refine wpAnyH_takeL (i := 6) (v := ?_) rfl (by kernel_rfl) (by kernel_rfl) (by kernel_rfl) (fun _ _ _ h => h) ?_ (by assumption) ?_; rotate_left; focus (first | (refine Or.inr ⟨by rfl, ?_⟩; with_reducible rfl) | (refine Or.inl ⟨by rfl, ?_⟩; (intro w hSw; (try dsimp only at hSw); go_simp); try with_reducible rfl))
        try simp only [Act.put, List.setIfInBounds_toArray, List.set_cons_zero, List.set_cons_succ]
        refine wpAnyH_takeL (i := 7) (v := ?_) rfl (by kernel_rfl) (by kernel_rfl) (by kernel_rfl) (fun _ _ _ h => h) ?_ (by assumption) ?_; rotate_left; focus (first | (refine Or.inr ⟨by rfl, ?_⟩; with_reducible rfl) | (refine Or.inl ⟨by rfl, ?_⟩; (intro w hSw; (try dsimp only at hSw); go_simp); try with_reducible rfl))
        try simp only [Act.put, List.setIfInBounds_toArray, List.set_cons_zero, List.set_cons_succ]
        refine wpAnyH_takeL (i := 8) (v := ?_) rfl (by kernel_rfl) (by kernel_rfl) (by kernel_rfl) (fun _ _ _ h => h) ?_ (by assumption) ?_; rotate_left; focus (first | (refine Or.inr ⟨by rfl, ?_⟩; with_reducible rfl) | (refine Or.inl ⟨by rfl, ?_⟩; (intro w hSw; (try dsimp only at hSw); go_simp); try with_reducible rfl))
        try simp only [Act.put, List.setIfInBounds_toArray, List.set_cons_zero, List.set_cons_succ]
        refine wpAnyH_takeL (i := 9) (v := ?_) rfl (by kernel_rfl) (by kernel_rfl) (by kernel_rfl) (fun _ _ _ h => h) ?_ (by assumption) ?_; rotate_left; focus (first | (refine Or.inr ⟨by rfl, ?_⟩; with_reducible rfl) | (refine Or.inl ⟨by rfl, ?_⟩; (intro w hSw; (try dsimp only at hSw); go_simp); try with_reducible rfl))
        try simp only [Act.put, List.setIfInBounds_toArray, List.set_cons_zero, List.set_cons_succ]
        refine wpAnyH_takeL (i := 10) (v := ?_) rfl (by kernel_rfl) (by kernel_rfl) (by kernel_rfl) (fun _ _ _ h => h) ?_ (by assumption) ?_; rotate_left; focus (first | (refine Or.inr ⟨by rfl, ?_⟩; with_reducible rfl) | (refine Or.inl ⟨by rfl, ?_⟩; (intro w hSw; (try dsimp only at hSw); go_simp); try with_reducible rfl))
        try simp only [Act.put, List.setIfInBounds_toArray, List.set_cons_zero, List.set_cons_succ]
        refine wpAnyH_takeL (i := 11) (v := ?_) rfl (by kernel_rfl) (by kernel_rfl) (by kernel_rfl) (fun _ _ _ h => h) ?_ (by assumption) ?_; rotate_left; focus (first | (refine Or.inr ⟨by rfl, ?_⟩; with_reducible rfl) | (refine Or.inl ⟨by rfl, ?_⟩; (intro w hSw; (try dsimp only at hSw); go_simp); try with_reducible rfl))
        try simp only [Act.put, List.setIfInBounds_toArray, List.set_cons_zero, List.set_cons_succ]
        refine wpAnyH_takeL (i := 12) (v := ?_) rfl (by kernel_rfl) (by kernel_rfl) (by kernel_rfl) (fun _ _ _ h => h) ?_ (by assumption) ?_; rotate_left; focus (first | (refine Or.inr ⟨by rfl, ?_⟩; with_reducible rfl) | (refine Or.inl ⟨by rfl, ?_⟩; (intro w hSw; (try dsimp only at hSw); go_simp); try with_reducible rfl))
        try simp only [Act.put, List.setIfInBounds_toArray, List.set_cons_zero, List.set_cons_succ]
        refine wpAnyH_takeL (i := 13) (v := ?_) rfl (by kernel_rfl) (by kernel_rfl) (by kernel_rfl) (fun _ _ _ h => h) ?_ (by assumption) ?_; rotate_left; focus (first | (refine Or.inr ⟨by rfl, ?_⟩; with_reducible rfl) | (refine Or.inl ⟨by rfl, ?_⟩; (intro w hSw; (try dsimp only at hSw); go_simp); try with_reducible rfl))
        try simp only [Act.put, List.setIfInBounds_toArray, List.set_cons_zero, List.set_cons_succ]
        refine wpAnyH_takeL (i := 16) (v := ?_) rfl (by kernel_rfl) (by kernel_rfl) (by kernel_rfl) (fun _ _ _ h => h) ?_ (by assumption) ?_; rotate_left; focus (first | (refine Or.inr ⟨by rfl, ?_⟩; with_reducible rfl) | (refine Or.inl ⟨by rfl, ?_⟩; (intro w hSw; (try dsimp only at hSw); go_simp); try with_reducible rfl))
        try simp only [Act.put, List.setIfInBounds_toArray, List.set_cons_zero, List.set_cons_succ]
        refine wpAnyH_oneL (i := 14) rfl (by kernel_rfl) ?_
        intro K hK
        rw [if_pos (by rfl)]
        go_simp
        go_at_call 91
        try rw [HCA.out]
        refine (rbytes_any (l.g + 1) 8 _ (by decide) (by omega)).mono ?_
        rw [HA.out]
        rintro e w1 ⟨rfl, b1⟩
        have B1 := Lib.hid (bthen ((Below.refl _ w).drew) b1)
        have hS1 : w1.cell? ⟨x, 0, none⟩ = some (.pointer (some ⟨y, 0, none⟩)) ∧ w1.cell? ⟨x, 1, none⟩ = some (.int .i64 F) ∧ w1.cell? ⟨x, 2, none⟩ = some (.int .u64 l.g) := ⟨cell_later b1 hS0.1, cell_later b1 hS0.2.1, cell_later b1 hS0.2.2⟩
        clear b1
        refine hK _ _ hS1 ?_
        clear hK K
        try simp only [Act.put, List.setIfInBounds_toArray, List.set_cons_zero, List.set_cons_succ]
        refine wpAnyH_takeL (i := 15) (v := ?_) rfl (by kernel_rfl) (by kernel_rfl) (by kernel_rfl) (fun _ _ _ h => h) ?_ (by assumption) ?_; rotate_left; focus (first | (refine Or.inr ⟨by rfl, ?_⟩; with_reducible rfl) | (refine Or.inl ⟨by rfl, ?_⟩; (intro w hSw; (try dsimp only at hSw); go_simp); try with_reducible rfl))
        try simp only [Act.put, List.setIfInBounds_toArray, List.set_cons_zero, List.set_cons_succ]
        refine wpAnyH_oneL (i := 17) rfl (by kernel_rfl) ?_
        intro K hK
        rw [if_pos (by rfl)]
        go_simp
        go_at_call 92
        refine (rframe_any s _ (by omega)).mono ?_
        rw [HB.out]
        rintro e w2 ⟨rfl, b2⟩
        have B2 := Lib.hid (bthen B1.out b2)
        have hS2 : w2.cell? ⟨x, 0, none⟩ = some (.pointer (some ⟨y, 0, none⟩)) ∧ w2.cell? ⟨x, 1, none⟩ = some (.int .i64 F) ∧ w2.cell? ⟨x, 2, none⟩ = some (.int .u64 l.g) := ⟨cell_later b2 hS1.1, cell_later b2 hS1.2.1, cell_later b2 hS1.2.2⟩
        clear b2
        refine hK _ _ hS2 ?_
        clear hK K
        try simp only [Act.put, List.setIfInBounds_toArray, List.set_cons_zero, List.set_cons_succ]
        have hlen : ¬ (9223372036854775807 < 12 + (8 + s.length)) := by omega
        refine wpAnyH_takeL (i := 18) (v := ?_) rfl (by kernel_rfl) (by kernel_rfl) (by kernel_rfl) (fun _ _ _ h => h) ?_ (by assumption) ?_; rotate_left; focus (first | (refine Or.inr ⟨by rfl, ?_⟩; with_reducible rfl) | (refine Or.inl ⟨by rfl, ?_⟩; (intro w hSw; (try dsimp only at hSw); go_simp); try with_reducible rfl))
        try simp only [Act.put, List.setIfInBounds_toArray, List.set_cons_zero, List.set_cons_succ]
        refine wpAnyH_oneL (i := 19) rfl (by kernel_rfl) ?_
        intro K hK
        rw [if_pos (by rfl)]
        go_simp
        go_at_call 90
        try rw [HHH.out]
        try rw [hwr2]
        refine (rappend_any y _ d ub F2 H (HD.out.below B2.out) (by omega)).mono ?_
        rw [HN.out]
        rintro e w3 ⟨rfl, ub', hd3, hn3, ht3⟩
        have HW := Lib.hid (RWorked.disked (w := w) (HL.out.below B2.out) (HD.out.below B2.out) B2.out hd3 hn3 ht3)
        have HD3 := Lib.hid hd3
        have HN3 := Lib.hid (hn3.later (w := w) B2.out.size)
        have hS3 : w3.cell? ⟨x, 0, none⟩ = some (.pointer (some ⟨y, 0, none⟩)) ∧ w3.cell? ⟨x, 1, none⟩ = some (.int .i64 F) ∧ w3.cell? ⟨x, 2, none⟩ = some (.int .u64 l.g) := by
          obtain ⟨a0, a1, a2, _⟩ := HW.out.log.cells
          rw [HF.out] at a1
          exact ⟨a0, a1, a2⟩
        clear hd3 hn3 ht3 hS0 hS1 hS2 c0 c1 c2 c4
        refine hK _ _ hS3 ?_
        clear hK K
        try simp only [Act.put, List.setIfInBounds_toArray, List.set_cons_zero, List.set_cons_succ]
        obtain ⟨E, hE⟩ : ∃ E, (d.append F2 H).1 = E := ⟨_, rfl⟩
        have HE := Lib.hid hE
        rw [hE] at HW HD3
        clear hE
        by_cases hn0 : n = 0
        · subst hn0
          have HLAY : Hid (Wal.lays d (!l.f) (l.g + 1) s = E.sync) := Lib.hid (by unfold Wal.lays; rw [HF2.out, HH.out, HN.out, if_neg (by simp), HE.out])
          obtain ⟨q, hq⟩ : ∃ q, E.sync.2 = q := ⟨_, rfl⟩
          have HQ := Lib.hid hq
          clear hq
          refine wpAnyH_takeL (i := 20) (v := ?_) rfl (by kernel_rfl) (by kernel_rfl) (by kernel_rfl) (fun _ _ _ h => h) ?_ (by assumption) ?_; rotate_left; focus (first | (refine Or.inr ⟨by rfl, ?_⟩; with_reducible rfl) | (refine Or.inl ⟨by rfl, ?_⟩; (intro w hSw; (try dsimp only at hSw); go_simp); try with_reducible rfl))
          try simp only [Act.put, List.setIfInBounds_toArray, List.set_cons_zero, List.set_cons_succ]
          refine wpAnyH_takeL (i := 21) (v := ?_) rfl (by kernel_rfl) (by kernel_rfl) (by kernel_rfl) (fun _ _ _ h => h) ?_ (by assumption) ?_; rotate_left; focus (first | (refine Or.inr ⟨by rfl, ?_⟩; with_reducible rfl) | (refine Or.inl ⟨by rfl, ?_⟩; (intro w hSw; (try dsimp only at hSw); go_simp); try with_reducible rfl))
          try simp only [Act.put, List.setIfInBounds_toArray, List.set_cons_zero, List.set_cons_succ]
          refine wpAnyH_takeL (i := 22) (v := ?_) rfl (by kernel_rfl) (by kernel_rfl) (by kernel_rfl) (fun _ _ _ h => h) ?_ (by assumption) ?_; rotate_left; focus (first | (refine Or.inr ⟨by rfl, ?_⟩; with_reducible rfl) | (refine Or.inl ⟨by rfl, ?_⟩; (intro w hSw; (try dsimp only at hSw); go_simp); try with_reducible rfl))
          try simp only [Act.put, List.setIfInBounds_toArray, List.set_cons_zero, List.set_cons_succ]
          refine wpAnyH_takeL (i := 23) (v := ?_) rfl (by kernel_rfl) (by kernel_rfl) (by kernel_rfl) (fun _ _ _ h => h) ?_ (by assumption) ?_; rotate_left; focus (first | (refine Or.inr ⟨by rfl, ?_⟩; with_reducible rfl) | (refine Or.inl ⟨by rfl, ?_⟩; (intro w hSw; (try dsimp only at hSw); go_simp); try with_reducible rfl))
          try simp only [Act.put, List.setIfInBounds_toArray, List.set_cons_zero, List.set_cons_succ]
          refine wpAnyH_takeL (i := 24) (v := ?_) rfl (by kernel_rfl) (by kernel_rfl) (by kernel_rfl) (fun _ _ _ h => h) ?_ (by assumption) ?_; rotate_left; focus (first | (refine Or.inr ⟨by rfl, ?_⟩; with_reducible rfl) | (refine Or.inl ⟨by rfl, ?_⟩; (intro w hSw; (try dsimp only at hSw); go_simp); try with_reducible rfl))
          try simp only [Act.put, List.setIfInBounds_toArray, List.set_cons_zero, List.set_cons_succ]
          refine wpAnyH_takeL (i := 25) (v := ?_) rfl (by kernel_rfl) (by kernel_rfl) (by kernel_rfl) (fun _ _ _ h => h) ?_ (by assumption) ?_; rotate_left; focus (first | (refine Or.inr ⟨by rfl, ?_⟩; with_reducible rfl) | (refine Or.inl ⟨by rfl, ?_⟩; (intro w hSw; (try dsimp only at hSw); go_simp); try with_reducible rfl))
          try simp only [Act.put, List.setIfInBounds_toArray, List.set_cons_zero, List.set_cons_succ]
          refine wpAnyH_oneL (i := 26) rfl (by kernel_rfl) ?_
          intro K hK
          rw [if_pos (by rfl)]
          go_simp
          go_at_call 93
          refine (rsync_any y _ E ub' HD3.out).mono ?_
          rw [HQ.out]
          rintro e w4 ⟨rfl, ub2, hd4, hn4, ht4⟩
          have HW4 := Lib.hid (HW.out.onward HD3.out HN3.out hd4 hn4 ht4)
          have HD4 := Lib.hid hd4
          have HN4 := Lib.hid (HN3.out.trans hn4 HW.out.touch.size)
          have hS4 : w4.cell? ⟨x, 0, none⟩ = some (.pointer (some ⟨y, 0, none⟩)) ∧ w4.cell? ⟨x, 1, none⟩ = some (.int .i64 F) ∧ w4.cell? ⟨x, 2, none⟩ = some (.int .u64 l.g) := by
            obtain ⟨a0, a1, a2, _⟩ := HW4.out.log.cells
            rw [HF.out] at a1
            exact ⟨a0, a1, a2⟩
          clear hd4 hn4 ht4 hS3
          refine hK _ _ hS4 ?_
          clear hK K
          try simp only [Act.put, List.setIfInBounds_toArray, List.set_cons_zero, List.set_cons_succ]
          obtain ⟨R, hR⟩ : ∃ R, E.sync.1 = R := ⟨_, rfl⟩
          rw [hR] at HW4 HD4
          have HLA : Hid (Wal.lays d (!l.f) (l.g + 1) s = (R, q)) := Lib.hid (HLAY.out.trans (Prod.ext hR HQ.out))
          clear hR
          by_cases hq0 : q = 0
          · subst hq0
            obtain ⟨r, hr⟩ : ∃ r, (R.cut F 0).2 = r := ⟨_, rfl⟩
            have HRR := Lib.hid hr
            clear hr
            refine wpAnyH_takeL (i := 27) (v := ?_) rfl (by kernel_rfl) (by kernel_rfl) (by kernel_rfl) (fun _ _ _ h => h) ?_ (by assumption) ?_; rotate_left; focus (first | (refine Or.inr ⟨by rfl, ?_⟩; with_reducible rfl) | (refine Or.inl ⟨by rfl, ?_⟩; (intro w hSw; (try dsimp only at hSw); go_simp); try with_reducible rfl))
            try simp only [Act.put, List.setIfInBounds_toArray, List.set_cons_zero, List.set_cons_succ]
            refine wpAnyH_takeL (i := 28) (v := ?_) rfl (by kernel_rfl) (by kernel_rfl) (by kernel_rfl) (fun _ _ _ h => h) ?_ (by assumption) ?_; rotate_left; focus (first | (refine Or.inr ⟨by rfl, ?_⟩; with_reducible rfl) | (refine Or.inl ⟨by rfl, ?_⟩; (intro w hSw; (try dsimp only at hSw); go_simp); try with_reducible rfl))
            try simp only [Act.put, List.setIfInBounds_toArray, List.set_cons_zero, List.set_cons_succ]
            refine wpAnyH_takeL (i := 29) (v := ?_) rfl (by kernel_rfl) (by kernel_rfl) (by kernel_rfl) (fun _ _ _ h => h) ?_ (by assumption) ?_; rotate_left; focus (first | (refine Or.inr ⟨by rfl, ?_⟩; with_reducible rfl) | (refine Or.inl ⟨by rfl, ?_⟩; (intro w hSw; (try dsimp only at hSw); go_simp); try with_reducible rfl))
            try simp only [Act.put, List.setIfInBounds_toArray, List.set_cons_zero, List.set_cons_succ]
            refine wpAnyH_takeL (i := 30) (v := ?_) rfl (by kernel_rfl) (by kernel_rfl) (by kernel_rfl) (fun _ _ _ h => h) ?_ (by assumption) ?_; rotate_left; focus (first | (refine Or.inr ⟨by rfl, ?_⟩; with_reducible rfl) | (refine Or.inl ⟨by rfl, ?_⟩; (intro w hSw; (try dsimp only at hSw); go_simp); try with_reducible rfl))
            try simp only [Act.put, List.setIfInBounds_toArray, List.set_cons_zero, List.set_cons_succ]
            refine wpAnyH_takeL (i := 31) (v := ?_) rfl (by kernel_rfl) (by kernel_rfl) (by kernel_rfl) (fun _ _ _ h => h) ?_ (by assumption) ?_; rotate_left; focus (first | (refine Or.inr ⟨by rfl, ?_⟩; with_reducible rfl) | (refine Or.inl ⟨by rfl, ?_⟩; (intro w hSw; (try dsimp only at hSw); go_simp); try with_reducible rfl))
            try simp only [Act.put, List.setIfInBounds_toArray, List.set_cons_zero, List.set_cons_succ]
            refine wpAnyH_takeL (i := 32) (v := ?_) rfl (by kernel_rfl) (by kernel_rfl) (by kernel_rfl) (fun _ _ _ h => h) ?_ (by assumption) ?_; rotate_left; focus (first | (refine Or.inr ⟨by rfl, ?_⟩; with_reducible rfl) | (refine Or.inl ⟨by rfl, ?_⟩; (intro w hSw; (try dsimp only at hSw); go_simp); try with_reducible rfl))
            try simp only [Act.put, List.setIfInBounds_toArray, List.set_cons_zero, List.set_cons_succ]
            refine wpAnyH_takeL (i := 33) (v := ?_) rfl (by kernel_rfl) (by kernel_rfl) (by kernel_rfl) (fun _ _ _ h => h) ?_ (by assumption) ?_; rotate_left; focus (first | (refine Or.inr ⟨by rfl, ?_⟩; with_reducible rfl) | (refine Or.inl ⟨by rfl, ?_⟩; (intro w hSw; (try dsimp only at hSw); go_simp); try with_reducible rfl))
            try simp only [Act.put, List.setIfInBounds_toArray, List.set_cons_zero, List.set_cons_succ]
            refine wpAnyH_takeL (i := 34) (v := ?_) rfl (by kernel_rfl) (by kernel_rfl) (by kernel_rfl) (fun _ _ _ h => h) ?_ (by assumption) ?_; rotate_left; focus (first | (refine Or.inr ⟨by rfl, ?_⟩; with_reducible rfl) | (refine Or.inl ⟨by rfl, ?_⟩; (intro w hSw; (try dsimp only at hSw); go_simp); try with_reducible rfl))
            try simp only [Act.put, List.setIfInBounds_toArray, List.set_cons_zero, List.set_cons_succ]
            refine wpAnyH_takeL (i := 35) (v := ?_) rfl (by kernel_rfl) (by kernel_rfl) (by kernel_rfl) (fun _ _ _ h => h) ?_ (by assumption) ?_; rotate_left; focus (first | (refine Or.inr ⟨by rfl, ?_⟩; with_reducible rfl) | (refine Or.inl ⟨by rfl, ?_⟩; (intro w hSw; (try dsimp only at hSw); go_simp); try with_reducible rfl))
            try simp only [Act.put, List.setIfInBounds_toArray, List.set_cons_zero, List.set_cons_succ]
            refine wpAnyH_takeL (i := 36) (v := ?_) rfl (by kernel_rfl) (by kernel_rfl) (by kernel_rfl) (fun _ _ _ h => h) ?_ (by assumption) ?_; rotate_left; focus (first | (refine Or.inr ⟨by rfl, ?_⟩; with_reducible rfl) | (refine Or.inl ⟨by rfl, ?_⟩; (intro w hSw; (try dsimp only at hSw); go_simp); try with_reducible rfl))
            try simp only [Act.put, List.setIfInBounds_toArray, List.set_cons_zero, List.set_cons_succ]
            refine wpAnyH_takeL (i := 37) (v := ?_) rfl (by kernel_rfl) (by kernel_rfl) (by kernel_rfl) (fun _ _ _ h => h) ?_ (by assumption) ?_; rotate_left; focus (first | (refine Or.inr ⟨by rfl, ?_⟩; with_reducible rfl) | (refine Or.inl ⟨by rfl, ?_⟩; (intro w hSw; (try dsimp only at hSw); go_simp); try with_reducible rfl))
            try simp only [Act.put, List.setIfInBounds_toArray, List.set_cons_zero, List.set_cons_succ]
            refine wpAnyH_oneL (i := 38) rfl (by kernel_rfl) ?_
            intro K hK
            rw [if_pos (by rfl)]
            go_simp
            go_at_call 104
            refine (rcut_any y _ R ub2 F 0 HD4.out).mono ?_
            rw [HRR.out]
            rintro e w5 ⟨rfl, ub3, hd5, hn5, ht5⟩
            have HW5 := Lib.hid (HW4.out.onward HD4.out HN4.out hd5 hn5 ht5)
            have hS5 : w5.cell? ⟨x, 0, none⟩ = some (.pointer (some ⟨y, 0, none⟩)) ∧ w5.cell? ⟨x, 1, none⟩ = some (.int .i64 F) ∧ w5.cell? ⟨x, 2, none⟩ = some (.int .u64 l.g) := by
              obtain ⟨a0, a1, a2, _⟩ := HW5.out.log.cells
              rw [HF.out] at a1
              exact ⟨a0, a1, a2⟩
            clear hd5 hn5 ht5 hS4
            refine hK _ _ hS5 ?_
            clear hK K
            try simp only [Act.put, List.setIfInBounds_toArray, List.set_cons_zero, List.set_cons_succ]
            by_cases hr0 : r = 0
            · subst hr0
              have HX : Hid (Wal.checkpoint l d s = ({ l with f := !l.f, g := l.g + 1, n := 0 }, (R.cut F 0).1, 0)) := Lib.hid (by unfold Wal.checkpoint; rw [if_neg (by simp [HDD.out]), if_neg hlong, if_neg hg, HLA.out, HF.out, if_neg (by simp), if_neg (by simp [HRR.out])])
              refine wpAnyH_takeL (i := 39) (v := ?_) rfl (by kernel_rfl) (by kernel_rfl) (by kernel_rfl) (fun _ _ _ h => h) ?_ (by assumption) ?_; rotate_left; focus (first | (refine Or.inr ⟨by rfl, ?_⟩; with_reducible rfl) | (refine Or.inl ⟨by rfl, ?_⟩; (intro w hSw; (try dsimp only at hSw); go_simp); try with_reducible rfl))
              try simp only [Act.put, List.setIfInBounds_toArray, List.set_cons_zero, List.set_cons_succ]
              refine wpAnyH_takeL (i := 40) (v := ?_) rfl (by kernel_rfl) (by kernel_rfl) (by kernel_rfl) (fun _ _ _ h => h) ?_ (by assumption) ?_; rotate_left; focus (first | (refine Or.inr ⟨by rfl, ?_⟩; with_reducible rfl) | (refine Or.inl ⟨by rfl, ?_⟩; (intro w hSw; (try dsimp only at hSw); go_simp); try with_reducible rfl))
              try simp only [Act.put, List.setIfInBounds_toArray, List.set_cons_zero, List.set_cons_succ]
              refine wpAnyH_done (by kernel_rfl) ?_ _
              obtain ⟨_, e1, e2, e3, _, ef, _⟩ := HW5.out.log.cells
              rw [HF.out] at e1
              have f1 := ef 1
              have f2 := ef 2
              have f3 := ef 3
              clear hS5 ef
              go_wp2_with fail
              go_ret
              rw [HX.out]
              exact ⟨rfl, HW5.out.set3 HF2.out⟩
            · have HX : Hid (Wal.checkpoint l d s = ({ l with dead := true }, (R.cut F 0).1, 2)) := Lib.hid (by unfold Wal.checkpoint; rw [if_neg (by simp [HDD.out]), if_neg hlong, if_neg hg, HLA.out, HF.out, if_neg (by simp), if_pos (by rw [HRR.out]; exact hr0)])
              have hrb : (r != 0) = true := by simp [hr0]
              refine wpAnyH_takeL (i := 39) (v := ?_) rfl (by kernel_rfl) (by kernel_rfl) (by kernel_rfl) (fun _ _ _ h => h) ?_ (by assumption) ?_; rotate_left; focus (first | (refine Or.inr ⟨by rfl, ?_⟩; with_reducible rfl) | (refine Or.inl ⟨by rfl, ?_⟩; (intro w hSw; (try dsimp only at hSw); go_simp); try with_reducible rfl))
              try simp only [Act.put, List.setIfInBounds_toArray, List.set_cons_zero, List.set_cons_succ]
              refine wpAnyH_takeL (i := 40) (v := ?_) rfl (by kernel_rfl) (by kernel_rfl) (by kernel_rfl) (fun _ _ _ h => h) ?_ (by assumption) ?_; rotate_left; focus (first | (refine Or.inr ⟨by rfl, ?_⟩; with_reducible rfl) | (refine Or.inl ⟨by rfl, ?_⟩; (intro w hSw; (try dsimp only at hSw); go_simp); try with_reducible rfl))
              try simp only [Act.put, List.setIfInBounds_toArray, List.set_cons_zero, List.set_cons_succ]
              try simp only [hrb]
              refine wpAnyH_done (by kernel_rfl) ?_ _
              clear hS5
              go_wp2_with fail
              refine (rover_any x y _ l HW5.out.log).mono ?_
              rintro e w6 ⟨rfl, rfl⟩
              go_wp2_with fail
              go_ret
              rw [HX.out]
              exact ⟨rfl, HW5.out.died⟩
          · have HX : Hid (Wal.checkpoint l d s = ({ l with dead := true }, R, 2)) := Lib.hid (by unfold Wal.checkpoint; rw [if_neg (by simp [HDD.out]), if_neg hlong, if_neg hg, HLA.out, if_pos hq0])
            have hqb : (q != 0) = true := by simp [hq0]
            refine wpAnyH_takeL (i := 27) (v := ?_) rfl (by kernel_rfl) (by kernel_rfl) (by kernel_rfl) (fun _ _ _ h => h) ?_ (by assumption) ?_; rotate_left; focus (first | (refine Or.inr ⟨by rfl, ?_⟩; with_reducible rfl) | (refine Or.inl ⟨by rfl, ?_⟩; (intro w hSw; (try dsimp only at hSw); go_simp); try with_reducible rfl))
            try simp only [Act.put, List.setIfInBounds_toArray, List.set_cons_zero, List.set_cons_succ]
            refine wpAnyH_takeL (i := 28) (v := ?_) rfl (by kernel_rfl) (by kernel_rfl) (by kernel_rfl) (fun _ _ _ h => h) ?_ (by assumption) ?_; rotate_left; focus (first | (refine Or.inr ⟨by rfl, ?_⟩; with_reducible rfl) | (refine Or.inl ⟨by rfl, ?_⟩; (intro w hSw; (try dsimp only at hSw); go_simp); try with_reducible rfl))
            try simp only [Act.put, List.setIfInBounds_toArray, List.set_cons_zero, List.set_cons_succ]
            refine wpAnyH_takeL (i := 29) (v := ?_) rfl (by kernel_rfl) (by kernel_rfl) (by kernel_rfl) (fun _ _ _ h => h) ?_ (by assumption) ?_; rotate_left; focus (first | (refine Or.inr ⟨by rfl, ?_⟩; with_reducible rfl) | (refine Or.inl ⟨by rfl, ?_⟩; (intro w hSw; (try dsimp only at hSw); go_simp); try with_reducible rfl))
            try simp only [Act.put, List.setIfInBounds_toArray, List.set_cons_zero, List.set_cons_succ]
            try simp only [hqb]
            refine wpAnyH_takeL (i := 30) (v := ?_) rfl (by kernel_rfl) (by kernel_rfl) (by kernel_rfl) (fun _ _ _ h => h) ?_ (by assumption) ?_; rotate_left; focus (first | (refine Or.inr ⟨by rfl, ?_⟩; with_reducible rfl) | (refine Or.inl ⟨by rfl, ?_⟩; (intro w hSw; (try dsimp only at hSw); go_simp); try with_reducible rfl))
            try simp only [Act.put, List.setIfInBounds_toArray, List.set_cons_zero, List.set_cons_succ]
            refine wpAnyH_takeL (i := 31) (v := ?_) rfl (by kernel_rfl) (by kernel_rfl) (by kernel_rfl) (fun _ _ _ h => h) ?_ (by assumption) ?_; rotate_left; focus (first | (refine Or.inr ⟨by rfl, ?_⟩; with_reducible rfl) | (refine Or.inl ⟨by rfl, ?_⟩; (intro w hSw; (try dsimp only at hSw); go_simp); try with_reducible rfl))
            try simp only [Act.put, List.setIfInBounds_toArray, List.set_cons_zero, List.set_cons_succ]
            refine wpAnyH_takeL (i := 32) (v := ?_) rfl (by kernel_rfl) (by kernel_rfl) (by kernel_rfl) (fun _ _ _ h => h) ?_ (by assumption) ?_; rotate_left; focus (first | (refine Or.inr ⟨by rfl, ?_⟩; with_reducible rfl) | (refine Or.inl ⟨by rfl, ?_⟩; (intro w hSw; (try dsimp only at hSw); go_simp); try with_reducible rfl))
            try simp only [Act.put, List.setIfInBounds_toArray, List.set_cons_zero, List.set_cons_succ]
            refine wpAnyH_takeL (i := 33) (v := ?_) rfl (by kernel_rfl) (by kernel_rfl) (by kernel_rfl) (fun _ _ _ h => h) ?_ (by assumption) ?_; rotate_left; focus (first | (refine Or.inr ⟨by rfl, ?_⟩; with_reducible rfl) | (refine Or.inl ⟨by rfl, ?_⟩; (intro w hSw; (try dsimp only at hSw); go_simp); try with_reducible rfl))
            try simp only [Act.put, List.setIfInBounds_toArray, List.set_cons_zero, List.set_cons_succ]
            refine wpAnyH_takeL (i := 34) (v := ?_) rfl (by kernel_rfl) (by kernel_rfl) (by kernel_rfl) (fun _ _ _ h => h) ?_ (by assumption) ?_; rotate_left; focus (first | (refine Or.inr ⟨by rfl, ?_⟩; with_reducible rfl) | (refine Or.inl ⟨by rfl, ?_⟩; (intro w hSw; (try dsimp only at hSw); go_simp); try with_reducible rfl))
            try simp only [Act.put, List.setIfInBounds_toArray, List.set_cons_zero, List.set_cons_succ]
            refine wpAnyH_takeL (i := 35) (v := ?_) rfl (by kernel_rfl) (by kernel_rfl) (by kernel_rfl) (fun _ _ _ h => h) ?_ (by assumption) ?_; rotate_left; focus (first | (refine Or.inr ⟨by rfl, ?_⟩; with_reducible rfl) | (refine Or.inl ⟨by rfl, ?_⟩; (intro w hSw; (try dsimp only at hSw); go_simp); try with_reducible rfl))
            try simp only [Act.put, List.setIfInBounds_toArray, List.set_cons_zero, List.set_cons_succ]
            refine wpAnyH_takeL (i := 36) (v := ?_) rfl (by kernel_rfl) (by kernel_rfl) (by kernel_rfl) (fun _ _ _ h => h) ?_ (by assumption) ?_; rotate_left; focus (first | (refine Or.inr ⟨by rfl, ?_⟩; with_reducible rfl) | (refine Or.inl ⟨by rfl, ?_⟩; (intro w hSw; (try dsimp only at hSw); go_simp); try with_reducible rfl))
            try simp only [Act.put, List.setIfInBounds_toArray, List.set_cons_zero, List.set_cons_succ]
            refine wpAnyH_takeL (i := 37) (v := ?_) rfl (by kernel_rfl) (by kernel_rfl) (by kernel_rfl) (fun _ _ _ h => h) ?_ (by assumption) ?_; rotate_left; focus (first | (refine Or.inr ⟨by rfl, ?_⟩; with_reducible rfl) | (refine Or.inl ⟨by rfl, ?_⟩; (intro w hSw; (try dsimp only at hSw); go_simp); try with_reducible rfl))
            try simp only [Act.put, List.setIfInBounds_toArray, List.set_cons_zero, List.set_cons_succ]
            refine wpAnyH_takeL (i := 38) (v := ?_) rfl (by kernel_rfl) (by kernel_rfl) (by kernel_rfl) (fun _ _ _ h => h) ?_ (by assumption) ?_; rotate_left; focus (first | (refine Or.inr ⟨by rfl, ?_⟩; with_reducible rfl) | (refine Or.inl ⟨by rfl, ?_⟩; (intro w hSw; (try dsimp only at hSw); go_simp); try with_reducible rfl))
            try simp only [Act.put, List.setIfInBounds_toArray, List.set_cons_zero, List.set_cons_succ]
            refine wpAnyH_takeL (i := 39) (v := ?_) rfl (by kernel_rfl) (by kernel_rfl) (by kernel_rfl) (fun _ _ _ h => h) ?_ (by assumption) ?_; rotate_left; focus (first | (refine Or.inr ⟨by rfl, ?_⟩; with_reducible rfl) | (refine Or.inl ⟨by rfl, ?_⟩; (intro w hSw; (try dsimp only at hSw); go_simp); try with_reducible rfl))
            try simp only [Act.put, List.setIfInBounds_toArray, List.set_cons_zero, List.set_cons_succ]
            refine wpAnyH_takeL (i := 40) (v := ?_) rfl (by kernel_rfl) (by kernel_rfl) (by kernel_rfl) (fun _ _ _ h => h) ?_ (by assumption) ?_; rotate_left; focus (first | (refine Or.inr ⟨by rfl, ?_⟩; with_reducible rfl) | (refine Or.inl ⟨by rfl, ?_⟩; (intro w hSw; (try dsimp only at hSw); go_simp); try with_reducible rfl))
            try simp only [Act.put, List.setIfInBounds_toArray, List.set_cons_zero, List.set_cons_succ]
            refine wpAnyH_done (by kernel_rfl) ?_ _
            clear hS4
            go_wp2_with fail
            refine (rover_any x y _ l HW4.out.log).mono ?_
            rintro e w6 ⟨rfl, rfl⟩
            go_wp2_with fail
            go_ret
            rw [HX.out]
            exact ⟨rfl, HW4.out.died⟩
        · have HX : Hid (Wal.checkpoint l d s = ({ l with dead := true }, E, 2)) := Lib.hid (by unfold Wal.checkpoint Wal.lays; rw [if_neg (by simp [HDD.out]), if_neg hlong, if_neg hg, HF2.out, HH.out, HN.out, if_pos hn0, if_pos (by rw [HN.out]; exact hn0), HE.out])
          have hnb : (n != 0) = true := by simp [hn0]
          refine wpAnyH_takeL (i := 20) (v := ?_) rfl (by kernel_rfl) (by kernel_rfl) (by kernel_rfl) (fun _ _ _ h => h) ?_ (by assumption) ?_; rotate_left; focus (first | (refine Or.inr ⟨by rfl, ?_⟩; with_reducible rfl) | (refine Or.inl ⟨by rfl, ?_⟩; (intro w hSw; (try dsimp only at hSw); go_simp); try with_reducible rfl))
          try simp only [Act.put, List.setIfInBounds_toArray, List.set_cons_zero, List.set_cons_succ]
          refine wpAnyH_takeL (i := 21) (v := ?_) rfl (by kernel_rfl) (by kernel_rfl) (by kernel_rfl) (fun _ _ _ h => h) ?_ (by assumption) ?_; rotate_left; focus (first | (refine Or.inr ⟨by rfl, ?_⟩; with_reducible rfl) | (refine Or.inl ⟨by rfl, ?_⟩; (intro w hSw; (try dsimp only at hSw); go_simp); try with_reducible rfl))
          try simp only [Act.put, List.setIfInBounds_toArray, List.set_cons_zero, List.set_cons_succ]
          try simp only [hnb]
          refine wpAnyH_takeL (i := 22) (v := ?_) rfl (by kernel_rfl) (by kernel_rfl) (by kernel_rfl) (fun _ _ _ h => h) ?_ (by assumption) ?_; rotate_left; focus (first | (refine Or.inr ⟨by rfl, ?_⟩; with_reducible rfl) | (refine Or.inl ⟨by rfl, ?_⟩; (intro w hSw; (try dsimp only at hSw); go_simp); try with_reducible rfl))
          try simp only [Act.put, List.setIfInBounds_toArray, List.set_cons_zero, List.set_cons_succ]
          refine wpAnyH_takeL (i := 23) (v := ?_) rfl (by kernel_rfl) (by kernel_rfl) (by kernel_rfl) (fun _ _ _ h => h) ?_ (by assumption) ?_; rotate_left; focus (first | (refine Or.inr ⟨by rfl, ?_⟩; with_reducible rfl) | (refine Or.inl ⟨by rfl, ?_⟩; (intro w hSw; (try dsimp only at hSw); go_simp); try with_reducible rfl))
          try simp only [Act.put, List.setIfInBounds_toArray, List.set_cons_zero, List.set_cons_succ]
          refine wpAnyH_takeL (i := 24) (v := ?_) rfl (by kernel_rfl) (by kernel_rfl) (by kernel_rfl) (fun _ _ _ h => h) ?_ (by assumption) ?_; rotate_left; focus (first | (refine Or.inr ⟨by rfl, ?_⟩; with_reducible rfl) | (refine Or.inl ⟨by rfl, ?_⟩; (intro w hSw; (try dsimp only at hSw); go_simp); try with_reducible rfl))
          try simp only [Act.put, List.setIfInBounds_toArray, List.set_cons_zero, List.set_cons_succ]
          refine wpAnyH_takeL (i := 25) (v := ?_) rfl (by kernel_rfl) (by kernel_rfl) (by kernel_rfl) (fun _ _ _ h => h) ?_ (by assumption) ?_; rotate_left; focus (first | (refine Or.inr ⟨by rfl, ?_⟩; with_reducible rfl) | (refine Or.inl ⟨by rfl, ?_⟩; (intro w hSw; (try dsimp only at hSw); go_simp); try with_reducible rfl))
          try simp only [Act.put, List.setIfInBounds_toArray, List.set_cons_zero, List.set_cons_succ]
          refine wpAnyH_takeL (i := 26) (v := ?_) rfl (by kernel_rfl) (by kernel_rfl) (by kernel_rfl) (fun _ _ _ h => h) ?_ (by assumption) ?_; rotate_left; focus (first | (refine Or.inr ⟨by rfl, ?_⟩; with_reducible rfl) | (refine Or.inl ⟨by rfl, ?_⟩; (intro w hSw; (try dsimp only at hSw); go_simp); try with_reducible rfl))
          try simp only [Act.put, List.setIfInBounds_toArray, List.set_cons_zero, List.set_cons_succ]
          refine wpAnyH_takeL (i := 27) (v := ?_) rfl (by kernel_rfl) (by kernel_rfl) (by kernel_rfl) (fun _ _ _ h => h) ?_ (by assumption) ?_; rotate_left; focus (first | (refine Or.inr ⟨by rfl, ?_⟩; with_reducible rfl) | (refine Or.inl ⟨by rfl, ?_⟩; (intro w hSw; (try dsimp only at hSw); go_simp); try with_reducible rfl))
          try simp only [Act.put, List.setIfInBounds_toArray, List.set_cons_zero, List.set_cons_succ]
          refine wpAnyH_takeL (i := 28) (v := ?_) rfl (by kernel_rfl) (by kernel_rfl) (by kernel_rfl) (fun _ _ _ h => h) ?_ (by assumption) ?_; rotate_left; focus (first | (refine Or.inr ⟨by rfl, ?_⟩; with_reducible rfl) | (refine Or.inl ⟨by rfl, ?_⟩; (intro w hSw; (try dsimp only at hSw); go_simp); try with_reducible rfl))
          try simp only [Act.put, List.setIfInBounds_toArray, List.set_cons_zero, List.set_cons_succ]
          refine wpAnyH_takeL (i := 29) (v := ?_) rfl (by kernel_rfl) (by kernel_rfl) (by kernel_rfl) (fun _ _ _ h => h) ?_ (by assumption) ?_; rotate_left; focus (first | (refine Or.inr ⟨by rfl, ?_⟩; with_reducible rfl) | (refine Or.inl ⟨by rfl, ?_⟩; (intro w hSw; (try dsimp only at hSw); go_simp); try with_reducible rfl))
          try simp only [Act.put, List.setIfInBounds_toArray, List.set_cons_zero, List.set_cons_succ]
          refine wpAnyH_takeL (i := 30) (v := ?_) rfl (by kernel_rfl) (by kernel_rfl) (by kernel_rfl) (fun _ _ _ h => h) ?_ (by assumption) ?_; rotate_left; focus (first | (refine Or.inr ⟨by rfl, ?_⟩; with_reducible rfl) | (refine Or.inl ⟨by rfl, ?_⟩; (intro w hSw; (try dsimp only at hSw); go_simp); try with_reducible rfl))
          try simp only [Act.put, List.setIfInBounds_toArray, List.set_cons_zero, List.set_cons_succ]
          refine wpAnyH_takeL (i := 31) (v := ?_) rfl (by kernel_rfl) (by kernel_rfl) (by kernel_rfl) (fun _ _ _ h => h) ?_ (by assumption) ?_; rotate_left; focus (first | (refine Or.inr ⟨by rfl, ?_⟩; with_reducible rfl) | (refine Or.inl ⟨by rfl, ?_⟩; (intro w hSw; (try dsimp only at hSw); go_simp); try with_reducible rfl))
          try simp only [Act.put, List.setIfInBounds_toArray, List.set_cons_zero, List.set_cons_succ]
          refine wpAnyH_takeL (i := 32) (v := ?_) rfl (by kernel_rfl) (by kernel_rfl) (by kernel_rfl) (fun _ _ _ h => h) ?_ (by assumption) ?_; rotate_left; focus (first | (refine Or.inr ⟨by rfl, ?_⟩; with_reducible rfl) | (refine Or.inl ⟨by rfl, ?_⟩; (intro w hSw; (try dsimp only at hSw); go_simp); try with_reducible rfl))
          try simp only [Act.put, List.setIfInBounds_toArray, List.set_cons_zero, List.set_cons_succ]
          refine wpAnyH_takeL (i := 33) (v := ?_) rfl (by kernel_rfl) (by kernel_rfl) (by kernel_rfl) (fun _ _ _ h => h) ?_ (by assumption) ?_; rotate_left; focus (first | (refine Or.inr ⟨by rfl, ?_⟩; with_reducible rfl) | (refine Or.inl ⟨by rfl, ?_⟩; (intro w hSw; (try dsimp only at hSw); go_simp); try with_reducible rfl))
          try simp only [Act.put, List.setIfInBounds_toArray, List.set_cons_zero, List.set_cons_succ]
          refine wpAnyH_takeL (i := 34) (v := ?_) rfl (by kernel_rfl) (by kernel_rfl) (by kernel_rfl) (fun _ _ _ h => h) ?_ (by assumption) ?_; rotate_left; focus (first | (refine Or.inr ⟨by rfl, ?_⟩; with_reducible rfl) | (refine Or.inl ⟨by rfl, ?_⟩; (intro w hSw; (try dsimp only at hSw); go_simp); try with_reducible rfl))
          try simp only [Act.put, List.setIfInBounds_toArray, List.set_cons_zero, List.set_cons_succ]
          refine wpAnyH_takeL (i := 35) (v := ?_) rfl (by kernel_rfl) (by kernel_rfl) (by kernel_rfl) (fun _ _ _ h => h) ?_ (by assumption) ?_; rotate_left; focus (first | (refine Or.inr ⟨by rfl, ?_⟩; with_reducible rfl) | (refine Or.inl ⟨by rfl, ?_⟩; (intro w hSw; (try dsimp only at hSw); go_simp); try with_reducible rfl))
          try simp only [Act.put, List.setIfInBounds_toArray, List.set_cons_zero, List.set_cons_succ]
          refine wpAnyH_takeL (i := 36) (v := ?_) rfl (by kernel_rfl) (by kernel_rfl) (by kernel_rfl) (fun _ _ _ h => h) ?_ (by assumption) ?_; rotate_left; focus (first | (refine Or.inr ⟨by rfl, ?_⟩; with_reducible rfl) | (refine Or.inl ⟨by rfl, ?_⟩; (intro w hSw; (try dsimp only at hSw); go_simp); try with_reducible rfl))
          try simp only [Act.put, List.setIfInBounds_toArray, List.set_cons_zero, List.set_cons_succ]
          refine wpAnyH_takeL (i := 37) (v := ?_) rfl (by kernel_rfl) (by kernel_rfl) (by kernel_rfl) (fun _ _ _ h => h) ?_ (by assumption) ?_; rotate_left; focus (first | (refine Or.inr ⟨by rfl, ?_⟩; with_reducible rfl) | (refine Or.inl ⟨by rfl, ?_⟩; (intro w hSw; (try dsimp only at hSw); go_simp); try with_reducible rfl))
          try simp only [Act.put, List.setIfInBounds_toArray, List.set_cons_zero, List.set_cons_succ]
          refine wpAnyH_takeL (i := 38) (v := ?_) rfl (by kernel_rfl) (by kernel_rfl) (by kernel_rfl) (fun _ _ _ h => h) ?_ (by assumption) ?_; rotate_left; focus (first | (refine Or.inr ⟨by rfl, ?_⟩; with_reducible rfl) | (refine Or.inl ⟨by rfl, ?_⟩; (intro w hSw; (try dsimp only at hSw); go_simp); try with_reducible rfl))
          try simp only [Act.put, List.setIfInBounds_toArray, List.set_cons_zero, List.set_cons_succ]
          refine wpAnyH_takeL (i := 39) (v := ?_) rfl (by kernel_rfl) (by kernel_rfl) (by kernel_rfl) (fun _ _ _ h => h) ?_ (by assumption) ?_; rotate_left; focus (first | (refine Or.inr ⟨by rfl, ?_⟩; with_reducible rfl) | (refine Or.inl ⟨by rfl, ?_⟩; (intro w hSw; (try dsimp only at hSw); go_simp); try with_reducible rfl))
          try simp only [Act.put, List.setIfInBounds_toArray, List.set_cons_zero, List.set_cons_succ]
          refine wpAnyH_takeL (i := 40) (v := ?_) rfl (by kernel_rfl) (by kernel_rfl) (by kernel_rfl) (fun _ _ _ h => h) ?_ (by assumption) ?_; rotate_left; focus (first | (refine Or.inr ⟨by rfl, ?_⟩; with_reducible rfl) | (refine Or.inl ⟨by rfl, ?_⟩; (intro w hSw; (try dsimp only at hSw); go_simp); try with_reducible rfl))
          try simp only [Act.put, List.setIfInBounds_toArray, List.set_cons_zero, List.set_cons_succ]
          refine wpAnyH_done (by kernel_rfl) ?_ _
          clear hS3
          go_wp2_with fail
          refine (rover_any x y _ l HW.out.log).mono ?_
          rintro e w6 ⟨rfl, rfl⟩
          go_wp2_with fail
          go_ret
          rw [HX.out]
          exact ⟨rfl, HW.out.died⟩
end Go.Proofs.YtpjpknndfhablaaGreat
namespace Go.Proofs.YtpjpknndfhablaaGreat
open Go.RowKit
set_option maxHeartbeats 2000000 in
set_option maxRecDepth 100000 in
theorem rcopyL_any (x y y' : Nat) (w : World) (l : Wal.LS) (hl : RlogAt w x y l) :
    Calls Tryz.prog 72 #[.pointer (some ⟨x, 0, none⟩), .pointer (some ⟨y', 0, none⟩)] w fun e w' => ∃ x', e = .returned (.pointer (some ⟨x', 0, none⟩)) ∧ w.heap.size ≤ x' ∧ RlogAt w' x' y' l ∧ Below w.heap.size w w' := by
  obtain ⟨c0, c1, c2, c3, c4, _, hlt⟩ := hl.cells
  go_enter Tryz.func72, Tryz.ntmps72
  go_wp2_with fail
  go_ret
  exact ⟨w.heap.size, rfl, Nat.le_refl _, heap_new w _, balloc _ _⟩
end Go.Proofs.YtpjpknndfhablaaGreat
namespace Go.Proofs.YtpjpknndfhablaaGreat
open Go.RowKit
/-- How the document's New ends. -/
def RNewEnds (y : Nat) (w : World) (o : Option Wal.LS) (d' : DS) (ub : Option Nat) (r : Int) (e : Ending) (w' : World) : Prop :=
  ∃ v, e = .returned (.tuple #[v, .int .i64 r]) ∧ (∀ l, o = some l → ∃ x, v = .pointer (some ⟨x, 0, none⟩) ∧ w.heap.size ≤ x ∧ RlogAt w' x y l) ∧ (o = none → v = .pointer none) ∧
    ∃ ub', RefAt w' y d' ub' ∧ Newer w ub ub' ∧ Touch (· = y) w w'
theorem RNewEnds.refused {y : Nat} {w w' : World} {d : DS} {ub ub' : Option Nat} {r : Int} (h : RefAt w' y d ub') (hn : Newer w ub ub') (ht : Touch (· = y) w w') : RNewEnds y w none d ub r (.returned (.tuple #[.pointer none, .int .i64 r])) w' :=
  ⟨_, rfl, (fun _ h => by cases h), fun _ => rfl, ub', h, hn, ht⟩
set_option maxHeartbeats 4000000 in
set_option maxRecDepth 100000 in
theorem rnewL_any (y : Nat) (w : World) (d : DS) (ub : Option Nat) (h : RefAt w y d ub) :
    Calls Tryz.prog 46 #[.pointer (some ⟨y, 0, none⟩)] w (RNewEnds y w (Wal.new d).1 (Wal.new d).2.1 ub (Wal.new d).2.2) := by
  have HD := Lib.hid h
  obtain ⟨hok, us, hr, _⟩ := h
  obtain ⟨_, _, _, _, _, c5, _, _⟩ := hr.cells
  clear hok hr
  cases hdd : d.dead with
  | true =>
    rw [hdd] at c5
    have HX : Hid (Wal.new d = (none, d, 2)) := Lib.hid (by unfold Wal.new; rw [if_pos hdd])
    go_enter Tryz.func46, Tryz.ntmps46
    go_wp2_with fail
    refine bodyPost_ret (results_tmp2 rfl _ _ _) rfl ?_
    rw [HX.out]
    exact RNewEnds.refused HD.out (Newer.refl _ _) (Touch.refl _ _)
  | false =>
    rw [hdd] at c5
    have HDD := Lib.hid hdd
    clear hdd
    obtain ⟨z0, hz0⟩ : ∃ z, d.size false = z := ⟨_, rfl⟩
    obtain ⟨z1, hz1⟩ : ∃ z, d.size true = z := ⟨_, rfl⟩
    have HZ0 := Lib.hid hz0
    have HZ1 := Lib.hid hz1
    clear hz0 hz1
    go_enter Tryz.func46, Tryz.ntmps46
    go_wp2_with fail
    refine (rsize_at y _ d ub false HD.out).mono ?_
    rw [HZ0.out]
    rintro e w1 ⟨rfl, rfl⟩
    by_cases h0 : 0 < z0
    · have HX : Hid (Wal.new d = (none, d, 100)) := Lib.hid (by unfold Wal.new; rw [if_neg (by simp [HDD.out]), HZ0.out, if_pos (by omega)])
      go_wp2_with fail
      refine bodyPost_ret (results_tmp2 rfl _ _ _) rfl ?_
      rw [HX.out]
      exact RNewEnds.refused HD.out (Newer.refl _ _) (Touch.refl _ _)
    · go_wp2_with fail
      refine (rsize_at y _ d ub true HD.out).mono ?_
      rw [HZ1.out]
      rintro e w1 ⟨rfl, rfl⟩
      by_cases h1 : 0 < z1
      · have HX : Hid (Wal.new d = (none, d, 100)) := Lib.hid (by unfold Wal.new; rw [if_neg (by simp [HDD.out]), HZ0.out, HZ1.out, if_pos (by omega)])
        go_wp2_with fail
        refine bodyPost_ret (results_tmp2 rfl _ _ _) rfl ?_
        rw [HX.out]
        exact RNewEnds.refused HD.out (Newer.refl _ _) (Touch.refl _ _)
      · obtain ⟨A, hA⟩ : ∃ A, Sha.big 1 8 = A := ⟨_, rfl⟩
        have hAl : A.length = 8 := by rw [← hA]; exact Sha.big_length _ _
        obtain ⟨B, hB⟩ : ∃ B, Wal.frame [] = B := ⟨_, rfl⟩
        have hBl : B.length = 8 := by rw [← hB]; exact Wal.frame_length _
        have hH : Wal.head 1 [] = 83 :: 78 :: 76 :: 49 :: (A ++ B) := by unfold Wal.head; rw [hA, hB]; rfl
        obtain ⟨H, hHH⟩ : ∃ H, Wal.head 1 [] = H := ⟨_, rfl⟩
        have hHl : H.length ≤ 524308 := by rw [← hHH, Wal.head_length]; simp
        obtain ⟨n, hn⟩ : ∃ n, (d.append 0 H).2 = n := ⟨_, rfl⟩
        have HA := Lib.hid hA
        have HB := Lib.hid hB
        have HN := Lib.hid hn
        have HH := Lib.hid hHH
        have HHH : Hid (83 :: 78 :: 76 :: 49 :: (A ++ B) = H) := Lib.hid (hH.symm.trans hHH)
        have hap1 := bytes_append [83, 78, 76, 49] A
        have hap2 := bytes_append (83 :: 78 :: 76 :: 49 :: A) B
        clear hA hB hH hn hHH
        go_wp2_with fail
        refine (rbytes_any 1 8 _ (by decide) (by decide)).mono ?_
        rw [HA.out]
        rintro e w1 ⟨rfl, b1⟩
        have B1 := Lib.hid b1
        clear b1
        go_wp2_with fail
        refine (rframe_any [] _ (by decide)).mono ?_
        rw [HB.out]
        rintro e w2 ⟨rfl, b2⟩
        have B2 := Lib.hid (bthen B1.out b2)
        clear b2
        go_wp2_with fail
        try rw [HHH.out]
        refine (rappend_any y _ d ub 0 H (HD.out.below B2.out) (by omega)).mono ?_
        rw [HN.out]
        rintro e w3 ⟨rfl, ub', hd3, hn3, ht3⟩
        have HD3 := Lib.hid hd3
        have HN3 := Lib.hid (hn3.later (w := w) B2.out.size)
        have HT3 : Hid (Touch (· = y) w w3) := Lib.hid (Touch.trans (Touch.of_below B2.out) ht3 (fun _ _ h => h))
        clear hd3 hn3 ht3
        obtain ⟨E, hE⟩ : ∃ E, (d.append 0 H).1 = E := ⟨_, rfl⟩
        rw [hE] at HD3
        have HE := Lib.hid hE
        clear hE
        by_cases hn0 : n = 0
        · subst hn0
          obtain ⟨q, hq⟩ : ∃ q, E.sync.2 = q := ⟨_, rfl⟩
          have HQ := Lib.hid hq
          clear hq
          have HLA : Hid (Wal.lays d false 1 [] = (E.sync.1, q)) := Lib.hid (by unfold Wal.lays; rw [HH.out, show DS.fi false = 0 from rfl, HN.out, if_neg (by simp), HE.out, ← HQ.out])
          go_wp2_with fail
          refine (rsync_any y _ E ub' HD3.out).mono ?_
          rw [HQ.out]
          rintro e w4 ⟨rfl, ub2, hd4, hn4, ht4⟩
          have HD4 := Lib.hid hd4
          have HN4 := Lib.hid (HN3.out.trans hn4 HT3.out.size)
          have HT4 : Hid (Touch (· = y) w w4) := Lib.hid (Touch.trans HT3.out ht4 (fun _ _ h => h))
          clear hd4 hn4 ht4
          by_cases hq0 : q = 0
          · subst hq0
            have HX : Hid (Wal.new d = (some { f := false, g := 1, n := 0, dead := false }, E.sync.1, 0)) := Lib.hid (by unfold Wal.new; rw [if_neg (by simp [HDD.out]), HZ0.out, HZ1.out, if_neg (by omega), HLA.out, if_neg (by simp)])
            go_wp2_with fail
            refine bodyPost_ret (results_tmp2 rfl _ _ _) rfl ?_
            rw [HX.out]
            exact ⟨_, rfl, (fun l h => by cases h; exact ⟨_, rfl, HT4.out.size, heap_new w4 _⟩), (fun h => by cases h), ub2, HD4.out.below (balloc _ _), HN4.out, HT4.out.alloc _⟩
          · have HX : Hid (Wal.new d = (none, E.sync.1, 2)) := Lib.hid (by unfold Wal.new; rw [if_neg (by simp [HDD.out]), HZ0.out, HZ1.out, if_neg (by omega), HLA.out, if_pos hq0])
            go_wp2_with fail
            refine bodyPost_ret (results_tmp2 rfl _ _ _) rfl ?_
            rw [HX.out]
            exact RNewEnds.refused HD4.out HN4.out HT4.out
        · have HLA : Hid (Wal.lays d false 1 [] = (E, n)) := Lib.hid (by unfold Wal.lays; rw [HH.out, show DS.fi false = 0 from rfl, HN.out, if_pos hn0]; exact Prod.ext HE.out HN.out)
          have HX : Hid (Wal.new d = (none, E, 2)) := Lib.hid (by unfold Wal.new; rw [if_neg (by simp [HDD.out]), HZ0.out, HZ1.out, if_neg (by omega), HLA.out, if_pos hn0])
          go_wp2_with fail
          refine bodyPost_ret (results_tmp2 rfl _ _ _) rfl ?_
          rw [HX.out]
          exact RNewEnds.refused HD3.out HN3.out HT3.out
end Go.Proofs.YtpjpknndfhablaaGreat
