/- The document's log: Append, Copy. -/
import Derived.Test.YtpjpknndfhablaaRlogA
namespace Go.Proofs.Ytpjpknndfhablaa
open Go.RowKit
set_option maxHeartbeats 4000000 in
set_option maxRecDepth 100000 in
theorem rappendL_any (x y : Nat) (w : World) (l : Wal.LS) (d : DS) (ub : Option Nat) (s : List UInt8) (hl : RlogAt w x y l) (h : RefAt w y d ub) (hs : s.length ≤ 140737488355328) (hln : l.n ≤ 4611686018427387904) :
    Calls Try.prog 91 #[.pointer (some ⟨x, 0, none⟩), .string ⟨s.toArray⟩] w fun e w' => e = .returned (.int .i64 (Wal.append l d s).2.2) ∧ RWorked x y (Wal.append l d s).1 (Wal.append l d s).2.1 ub w w' := by
  obtain ⟨c0, c1, _, _, c4, _, _⟩ := hl.cells
  have HL := Lib.hid hl
  have HD := Lib.hid h
  have hz := h.1.base_len' l.f
  obtain ⟨z, hzz⟩ : ∃ z, d.size l.f = z := ⟨_, rfl⟩
  rw [hzz] at hz
  have HZ := Lib.hid hzz
  clear hl h hzz
  cases hdd : l.dead with
  | true =>
    rw [hdd] at c4
    have HX : Hid (Wal.append l d s = (l, d, 2)) := Lib.hid (by unfold Wal.append; rw [if_pos hdd])
    go_enter Try.func91, Try.ntmps91
    go_wp2_with fail
    go_ret
    rw [HX.out]
    exact ⟨rfl, RWorked.stay HL.out HD.out (Below.refl _ _)⟩
  | false =>
    rw [hdd] at c4
    have HDD := Lib.hid hdd
    clear hdd
    by_cases hlong : 65536 < s.length
    · have HX : Hid (Wal.append l d s = (l, d, 101)) := Lib.hid (by unfold Wal.append; rw [if_neg (by simp [HDD.out]), if_pos hlong])
      go_enter Try.func91, Try.ntmps91
      go_wp2_with fail
      go_ret
      rw [HX.out]
      exact ⟨rfl, RWorked.stay HL.out HD.out (Below.refl _ _)⟩
    · have HB : Hid (∀ w' : World, Below w.heap.size w w' → (Below w.heap.size w w' ∧ w'.cell? ⟨x, 0, none⟩ = some (.pointer (some ⟨y, 0, none⟩)) ∧ w'.cell? ⟨x, 1, none⟩ = some (.int .i64 (DS.fi l.f)))) := fun w' hb => ⟨hb, cell_later hb c0, cell_later hb c1⟩
      have hw1 : IntKind.i64.wrap ((z : Int) + 8) = (z : Int) + 8 := IntWalk.i64_in _ (by omega)
      have hw2 : IntKind.i64.wrap ((z : Int) + 8 + s.length) = (z : Int) + 8 + s.length := IntWalk.i64_in _ (by omega)
      go_enter Try.func91, Try.ntmps91
      go_wp2_with fail
      go_region_held3 (fun w' => Below w.heap.size w w' ∧ w'.cell? ⟨x, 0, none⟩ = some (.pointer (some ⟨y, 0, none⟩)) ∧ w'.cell? ⟨x, 1, none⟩ = some (.int .i64 (DS.fi l.f)))
        (first | assumption | exact HB.out _ (Below.refl _ _).drew | exact HB.out _ (bthen (by assumption : Below w.heap.size w _ ∧ _).1 (by assumption)))
        (first | (go_at_call 67; refine (rsize_at y _ d ub l.f (HD.out.below (by assumption : Below w.heap.size w _ ∧ _).1)).mono ?_; rw [HZ.out]; rintro e w' ⟨rfl, rfl⟩))
      rename_i hheld
      generalize w.drew = w1 at hheld ⊢
      try rw [hw1]
      try rw [hw2]
      have B1 := Lib.hid hheld.1
      have hS0 := hheld.2
      clear hheld c0 c1 c4 hw1 hw2
      by_cases hfull : 1048576 < z + 8 + s.length
      · have HX : Hid (Wal.append l d s = (l, d, 102)) := Lib.hid (by unfold Wal.append; rw [if_neg (by simp [HDD.out]), if_neg hlong, HZ.out, if_pos hfull])
        go_wp2_with fail
        go_ret
        rw [HX.out]
        exact ⟨rfl, RWorked.stay HL.out HD.out B1.out⟩
      · obtain ⟨B, hB⟩ : ∃ B, Wal.frame s = B := ⟨_, rfl⟩
        have hBl : B.length = 8 + s.length := by rw [← hB]; exact Wal.frame_length _
        have HBB := Lib.hid hB
        obtain ⟨n, hn⟩ : ∃ n, (d.append (DS.fi l.f) B).2 = n := ⟨_, rfl⟩
        have HN := Lib.hid hn
        clear hn hB
        have HL1 := Lib.hid (HL.out.below B1.out)
        have HD1 := Lib.hid (HD.out.below B1.out)
        obtain ⟨e0, e1⟩ := hS0
        go_wp2_with fail
        have hS1 : w1.drew.cell? ⟨x, 0, none⟩ = some (.pointer (some ⟨y, 0, none⟩)) ∧ w1.drew.cell? ⟨x, 1, none⟩ = some (.int .i64 (DS.fi l.f)) := ⟨e0, e1⟩
        refine wp_region_heldL (S := fun w' => w'.cell? ⟨x, 0, none⟩ = some (.pointer (some ⟨y, 0, none⟩)) ∧ w'.cell? ⟨x, 1, none⟩ = some (.int .i64 (DS.fi l.f))) (by kernel_rfl) ?_
        refine wpAnyH_takeL (i := 0) (v := ?_) rfl (by kernel_rfl) (by kernel_rfl) (by kernel_rfl) (fun _ _ _ h => h) ?_ (by assumption) ?_; rotate_left; focus (first | (refine Or.inr ⟨by rfl, ?_⟩; with_reducible rfl) | (refine Or.inl ⟨by rfl, ?_⟩; (intro w hSw; (try dsimp only at hSw); go_simp); try with_reducible rfl))
        try simp only [Act.put, List.setIfInBounds_toArray, List.set_cons_zero, List.set_cons_succ]
        refine wpAnyH_takeL (i := 1) (v := ?_) rfl (by kernel_rfl) (by kernel_rfl) (by kernel_rfl) (fun _ _ _ h => h) ?_ (by assumption) ?_; rotate_left; focus (first | (refine Or.inr ⟨by rfl, ?_⟩; with_reducible rfl) | (refine Or.inl ⟨by rfl, ?_⟩; (intro w hSw; (try dsimp only at hSw); go_simp); try with_reducible rfl))
        try simp only [Act.put, List.setIfInBounds_toArray, List.set_cons_zero, List.set_cons_succ]
        refine wpAnyH_takeL (i := 2) (v := ?_) rfl (by kernel_rfl) (by kernel_rfl) (by kernel_rfl) (fun _ _ _ h => h) ?_ (by assumption) ?_; rotate_left; focus (first | (refine Or.inr ⟨by rfl, ?_⟩; with_reducible rfl) | (refine Or.inl ⟨by rfl, ?_⟩; (intro w hSw; (try dsimp only at hSw); go_simp); try with_reducible rfl))
        try simp only [Act.put, List.setIfInBounds_toArray, List.set_cons_zero, List.set_cons_succ]
        refine wpAnyH_takeL (i := 3) (v := ?_) rfl (by kernel_rfl) (by kernel_rfl) (by kernel_rfl) (fun _ _ _ h => h) ?_ (by assumption) ?_; rotate_left; focus (first | (refine Or.inr ⟨by rfl, ?_⟩; with_reducible rfl) | (refine Or.inl ⟨by rfl, ?_⟩; (intro w hSw; (try dsimp only at hSw); go_simp); try with_reducible rfl))
        try simp only [Act.put, List.setIfInBounds_toArray, List.set_cons_zero, List.set_cons_succ]
        refine wpAnyH_takeL (i := 4) (v := ?_) rfl (by kernel_rfl) (by kernel_rfl) (by kernel_rfl) (fun _ _ _ h => h) ?_ (by assumption) ?_; rotate_left; focus (first | (refine Or.inr ⟨by rfl, ?_⟩; with_reducible rfl) | (refine Or.inl ⟨by rfl, ?_⟩; (intro w hSw; (try dsimp only at hSw); go_simp); try with_reducible rfl))
        try simp only [Act.put, List.setIfInBounds_toArray, List.set_cons_zero, List.set_cons_succ]
        refine wpAnyH_takeL (i := 5) (v := ?_) rfl (by kernel_rfl) (by kernel_rfl) (by kernel_rfl) (fun _ _ _ h => h) ?_ (by assumption) ?_; rotate_left; focus (first | (refine Or.inr ⟨by rfl, ?_⟩; with_reducible rfl) | (refine Or.inl ⟨by rfl, ?_⟩; (intro w hSw; (try dsimp only at hSw); go_simp); try with_reducible rfl))
        try simp only [Act.put, List.setIfInBounds_toArray, List.set_cons_zero, List.set_cons_succ]
        refine wpAnyH_takeL (i := 6) (v := ?_) rfl (by kernel_rfl) (by kernel_rfl) (by kernel_rfl) (fun _ _ _ h => h) ?_ (by assumption) ?_; rotate_left; focus (first | (refine Or.inr ⟨by rfl, ?_⟩; with_reducible rfl) | (refine Or.inl ⟨by rfl, ?_⟩; (intro w hSw; (try dsimp only at hSw); go_simp); try with_reducible rfl))
        try simp only [Act.put, List.setIfInBounds_toArray, List.set_cons_zero, List.set_cons_succ]
        refine wpAnyH_takeL (i := 7) (v := ?_) rfl (by kernel_rfl) (by kernel_rfl) (by kernel_rfl) (fun _ _ _ h => h) ?_ (by assumption) ?_; rotate_left; focus (first | (refine Or.inr ⟨by rfl, ?_⟩; with_reducible rfl) | (refine Or.inl ⟨by rfl, ?_⟩; (intro w hSw; (try dsimp only at hSw); go_simp); try with_reducible rfl))
        try simp only [Act.put, List.setIfInBounds_toArray, List.set_cons_zero, List.set_cons_succ]
        refine wpAnyH_takeL (i := 8) (v := ?_) rfl (by kernel_rfl) (by kernel_rfl) (by kernel_rfl) (fun _ _ _ h => h) ?_ (by assumption) ?_; rotate_left; focus (first | (refine Or.inr ⟨by rfl, ?_⟩; with_reducible rfl) | (refine Or.inl ⟨by rfl, ?_⟩; (intro w hSw; (try dsimp only at hSw); go_simp); try with_reducible rfl))
        try simp only [Act.put, List.setIfInBounds_toArray, List.set_cons_zero, List.set_cons_succ]
        refine wpAnyH_oneL (i := 9) rfl (by kernel_rfl) ?_
        intro K hK
        rw [if_pos (by rfl)]
        go_simp
        go_at_call 84
        refine (rframe_any s _ (by omega)).mono ?_
        rw [HBB.out]
        rintro e w2 ⟨rfl, b2⟩
        have B2 := Lib.hid (bthen ((Below.refl _ w1).drew) b2)
        have hS2 : w2.cell? ⟨x, 0, none⟩ = some (.pointer (some ⟨y, 0, none⟩)) ∧ w2.cell? ⟨x, 1, none⟩ = some (.int .i64 (DS.fi l.f)) := ⟨cell_later b2 hS1.1, cell_later b2 hS1.2⟩
        clear b2
        refine hK _ _ hS2 ?_
        clear hK K
        try simp only [Act.put, List.setIfInBounds_toArray, List.set_cons_zero, List.set_cons_succ]
        refine wpAnyH_oneL (i := 10) rfl (by kernel_rfl) ?_
        intro K hK
        rw [if_pos (by rfl)]
        go_simp
        go_at_call 68
        refine (rappend_any y _ d ub (DS.fi l.f) B (HD1.out.below B2.out) (by omega)).mono ?_
        rw [HN.out]
        rintro e w3 ⟨rfl, ub', hd3, hn3, ht3⟩
        have hne : ¬ x = y := fun e => (HL1.out.below B2.out).apart (HD1.out.below B2.out) (.inl e)
        have hS3 : w3.cell? ⟨x, 0, none⟩ = some (.pointer (some ⟨y, 0, none⟩)) ∧ w3.cell? ⟨x, 1, none⟩ = some (.int .i64 (DS.fi l.f)) := ⟨cell_touch hS2.1 ht3 hne, cell_touch hS2.2 ht3 hne⟩
        have HW := Lib.hid (RWorked.disked (w := w) (HL1.out.below B2.out) (HD1.out.below B2.out) (bthen B1.out B2.out) hd3 hn3 ht3)
        clear hd3 hn3 ht3
        refine hK _ _ hS3 ?_
        clear hK K
        try simp only [Act.put, List.setIfInBounds_toArray, List.set_cons_zero, List.set_cons_succ]
        by_cases hn0 : n = 0
        · subst hn0
          have HX : Hid (Wal.append l d s = ({ l with n := l.n + 1 }, (d.append (DS.fi l.f) B).1, 0)) := Lib.hid (by unfold Wal.append; rw [if_neg (by simp [HDD.out]), if_neg hlong, HZ.out, if_neg hfull, HBB.out, HN.out]; simp)
          refine wpAnyH_takeL (i := 11) (v := ?_) rfl (by kernel_rfl) (by kernel_rfl) (by kernel_rfl) (fun _ _ _ h => h) ?_ (by assumption) ?_; rotate_left; focus (first | (refine Or.inr ⟨by rfl, ?_⟩; with_reducible rfl) | (refine Or.inl ⟨by rfl, ?_⟩; (intro w hSw; (try dsimp only at hSw); go_simp); try with_reducible rfl))
          try simp only [Act.put, List.setIfInBounds_toArray, List.set_cons_zero, List.set_cons_succ]
          refine wpAnyH_done (by kernel_rfl) ?_ _
          obtain ⟨_, _, _, e3, _, ef, _⟩ := HW.out.log.cells
          have f3 := ef 3
          clear hS3 hS2 hS1 e0 e1 ef
          go_wp2_with fail
          go_ret
          rw [HX.out]
          exact ⟨rfl, HW.out.counted (l.n + 1)⟩
        · have HX : Hid (Wal.append l d s = ({ l with dead := true }, (d.append (DS.fi l.f) B).1, 2)) := Lib.hid (by unfold Wal.append; rw [if_neg (by simp [HDD.out]), if_neg hlong, HZ.out, if_neg hfull, HBB.out, if_pos (by rw [HN.out]; exact hn0)])
          refine wpAnyH_takeL (i := 11) (v := ?_) rfl (by kernel_rfl) (by kernel_rfl) (by kernel_rfl) (fun _ _ _ h => h) ?_ (by assumption) ?_; rotate_left; focus (first | (refine Or.inr ⟨by rfl, ?_⟩; with_reducible rfl) | (refine Or.inl ⟨by rfl, ?_⟩; (intro w hSw; (try dsimp only at hSw); go_simp); try with_reducible rfl))
          try simp only [Act.put, List.setIfInBounds_toArray, List.set_cons_zero, List.set_cons_succ]
          refine wpAnyH_done (by kernel_rfl) ?_ _
          clear hS3 hS2 hS1 e0 e1
          go_wp2_with fail
          refine (rover_any x y _ l HW.out.log).mono ?_
          rintro e w4 ⟨rfl, rfl⟩
          go_wp2_with fail
          go_ret
          rw [HX.out]
          exact ⟨rfl, HW.out.died⟩
end Go.Proofs.Ytpjpknndfhablaa
