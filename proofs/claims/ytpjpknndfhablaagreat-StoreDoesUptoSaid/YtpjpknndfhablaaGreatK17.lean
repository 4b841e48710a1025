/- The document's log: Checkpoint. The document's log: Copy, New. The document's log: New. The document's log: Open. -/
import Derived.Test.YtpjpknndfhablaaGreatK3
import Derived.Test.YtpjpknndfhablaaGreatK10
import Derived.Test.YtpjpknndfhablaaGreatK12
import Derived.Test.YtpjpknndfhablaaGreatK16
namespace Go.Proofs.YtpjpknndfhablaaGreat
open Go.RowKit
theorem RWorked.onward {x y : Nat} {l : Wal.LS} {E E' : DS} {ub ub' ub2 : Option Nat} {w w3 w4 : World} (h : RWorked x y l E ub w w3) (h0 : RefAt w3 y E ub') (hn0 : Newer w ub ub') (hd : RefAt w4 y E' ub2) (hn : Newer w3 ub' ub2) (ht : Touch (· = y) w3 w4) : RWorked x y l E' ub w w4 :=
 ⟨h.log.touch ht (fun e => h.log.apart h0 (.inl e)), ⟨ub2, hd, hn0.trans hn h.touch.size⟩, Touch.trans h.touch ht (fun _ _ h => .inl h)⟩
theorem RWorked.set3 {x y : Nat} {l : Wal.LS} {d : DS} {ub : Option Nat} {w w5 : World} (h : RWorked x y l d ub w w5) {F2 : Int} (hf : DS.fi (!l.f) = F2) :
  RWorked x y { l with f := !l.f, g := l.g + 1, n := 0 } d ub w (((w5.setCell ⟨x, 1, none⟩ (.int .i64 F2)).setCell ⟨x, 2, none⟩ (.int .u64 ((l.g : Int) + 1))).setCell ⟨x, 3, none⟩ (.int .i64 0)) := by
 subst hf
 obtain ⟨ub', h1, h2⟩ := h.disk
 have s1 : RlogAt (w5.setCell ⟨x, 1, none⟩ (.int .i64 (DS.fi (!l.f)))) x y { l with f := !l.f } := by
  have := heap_set (i := 1) (.int .i64 (DS.fi (!l.f))) h.log
  simpa [RlogAt, rlogBlock] using this
 have s2 : RlogAt ((w5.setCell ⟨x, 1, none⟩ (.int .i64 (DS.fi (!l.f)))).setCell ⟨x, 2, none⟩ (.int .u64 ((l.g : Int) + 1))) x y { l with f := !l.f, g := l.g + 1 } := by
  have := heap_set (i := 2) (.int .u64 ((l.g : Int) + 1)) s1
  simpa [RlogAt, rlogBlock] using this
 have t1 := h.touch.setCell (a := ⟨x, 1, none⟩) (.int .i64 (DS.fi (!l.f))) (fun _ => .inr rfl)
 have t2 := t1.setCell (a := ⟨x, 2, none⟩) (.int .u64 ((l.g : Int) + 1)) (fun _ => .inr rfl)
 have t3 := t2.setCell (a := ⟨x, 3, none⟩) (.int .i64 0) (fun _ => .inr rfl)
 exact ⟨s2.setN 0, ⟨ub', ((h1.setLog h.log 1 _).setLog s1 2 _).setLog s2 3 _, h2⟩, t3⟩
set_option maxHeartbeats 4000000 in
set_option maxRecDepth 100000 in
theorem rcheckL_any (x y : Nat) (w : World) (l : Wal.LS) (d : DS) (ub : Option Nat) (s : List UInt8) (hl : RlogAt w x y l) (h : RefAt w y d ub) (hs : s.length ≤ 140737488355328) (hlg : l.g ≤ 4611686018427387904) :
  Calls Tryz.prog 130 #[.pointer (some ⟨x, 0, none⟩), .string ⟨s.toArray⟩] w fun e w' => e = .returned (.int .i64 (Wal.checkpoint l d s).2.2) ∧ RWorked x y (Wal.checkpoint l d s).1 (Wal.checkpoint l d s).2.1 ub w w' := by
 obtain ⟨c0, c1, c2, _, c4, _, _⟩ := hl.cells
 have HL := Lib.hid hl
 have HD := Lib.hid h
 clear hl h
 cases hdd : l.dead with
 | true =>
  rw [hdd] at c4
  have HX : Hid (Wal.checkpoint l d s = (l, d, 2)) := Lib.hid (by unfold Wal.checkpoint; rw [if_pos hdd])
  go_enter Tryz.func130, Tryz.ntmps130
  go_wp2_with fail
  go_ret
  rw [HX.out]
  exact ⟨rfl, RWorked.stay HL.out HD.out (Below.refl _ _)⟩
 | false =>
  rw [hdd] at c4
  have HDD := Lib.hid hdd
  clear hdd
  by_cases hlong : 524288 < s.length
  ·have HX : Hid (Wal.checkpoint l d s = (l, d, 101)) := Lib.hid (by unfold Wal.checkpoint; rw [if_neg (by simp [HDD.out]), if_pos hlong])
   go_enter Tryz.func130, Tryz.ntmps130
   go_wp2_with fail
   go_ret
   rw [HX.out]
   exact ⟨rfl, RWorked.stay HL.out HD.out (Below.refl _ _)⟩
  ·by_cases hg : l.g = 4611686018427387904
   ·have HX : Hid (Wal.checkpoint l d s = (l, d, 102)) := Lib.hid (by unfold Wal.checkpoint; rw [if_neg (by simp [HDD.out]), if_neg hlong, if_pos hg])
    have hgi : ((l.g : Int) == 4611686018427387904) = true := by simp; omega
    go_enter Tryz.func130, Tryz.ntmps130
    go_wp2_with fail
    go_ret
    rw [HX.out]
    exact ⟨rfl, RWorked.stay HL.out HD.out (Below.refl _ _)⟩
   ·have hgi : ((l.g : Int) == 4611686018427387904) = false := by simp; omega
    have hfi : (1 : Int) - DS.fi l.f = DS.fi (!l.f) := by cases l.f <;> rfl
    have hf01 : DS.fi l.f = 0 ∨ DS.fi l.f = 1 := by cases l.f <;> simp [DS.fi]
    obtain ⟨F, hF⟩ : ∃ F, DS.fi l.f = F := ⟨_, rfl⟩
    obtain ⟨F2, hF2⟩ : ∃ F2, DS.fi (!l.f) = F2 := ⟨_, rfl⟩
    have HF := Lib.hid hF
    have HF2 := Lib.hid hF2
    rw [hF] at hf01 c1 hfi
    rw [hF2] at hfi
    have hwr : IntKind.i64.wrap (1 - F) = F2 := by rw [IntWalk.i64_in _ (by omega)]; exact hfi
    have hwr2 : IntKind.i64.wrap F2 = F2 := by rw [← hfi]; exact IntWalk.i64_in _ (by omega)
    have hwg : IntKind.u64.wrap ((l.g : Int) + 1) = (l.g : Int) + 1 := IntWalk.u64_in _ ⟨by omega, by omega⟩
    obtain ⟨A, hA⟩ : ∃ A, Sha.big (l.g + 1) 8 = A := ⟨_, rfl⟩
    have hAl : A.length = 8 := by rw [← hA]; exact Sha.big_length _ _
    obtain ⟨B, hB⟩ : ∃ B, Wal.frame s = B := ⟨_, rfl⟩
    have hBl : B.length = 8 + s.length := by rw [← hB]; exact Wal.frame_length _
    have hH : Wal.head (l.g + 1) s = 83 :: 78 :: 76 :: 49 :: (A ++ B) := by unfold Wal.head; rw [hA, hB]; rfl
    obtain ⟨H, hHH⟩ : ∃ H, Wal.head (l.g + 1) s = H := ⟨_, rfl⟩
    have hHl : H.length ≤ 524308 := by rw [← hHH, Wal.head_length]; omega
    obtain ⟨n, hn⟩ : ∃ n, (d.append F2 H).2 = n := ⟨_, rfl⟩
    have HA := Lib.hid hA
    have HB := Lib.hid hB
    have HN := Lib.hid hn
    have HH := Lib.hid hHH
    have HHH : Hid (83 :: 78 :: 76 :: 49 :: (A ++ B) = H) := Lib.hid (hH.symm.trans hHH)
    have hap1 := bytes_append [83, 78, 76, 49] A
    have hap2 := bytes_append (83 :: 78 :: 76 :: 49 :: A) B
    have hcast : ((l.g : Int) + 1) = ((l.g + 1 : Nat) : Int) := by omega
    have HCA := Lib.hid hcast
    clear hA hB hH hn hF hF2 hHH hcast
    go_enter Tryz.func130, Tryz.ntmps130
    go_wp2_with fail
    have hS0 : w.drew.cell? ⟨x, 0, none⟩ = some (.pointer (some ⟨y, 0, none⟩)) ∧ w.drew.cell? ⟨x, 1, none⟩ = some (.int .i64 F) ∧ w.drew.cell? ⟨x, 2, none⟩ = some (.int .u64 l.g) := ⟨c0, c1, c2⟩
    refine wp_region_heldL (S := fun w' => w'.cell? ⟨x, 0, none⟩ = some (.pointer (some ⟨y, 0, none⟩)) ∧ w'.cell? ⟨x, 1, none⟩ = some (.int .i64 F) ∧ w'.cell? ⟨x, 2, none⟩ = some (.int .u64 l.g)) (by kernel_rfl) ?_
    refine planned [0, 1, 2, 3, 4, 5, 6, 7, 8, 9, 10, 11, 12, 13, 16] ?_
    iterate 15 (refine planned_take (v := ?_) rfl (by kernel_rfl) (by kernel_rfl) (by kernel_rfl) (fun _ _ _ h => h) ?_ (by assumption) ?_; rotate_left; (focus (first | (refine Or.inr ⟨by rfl, ?_⟩; with_reducible rfl) | (refine Or.inl ⟨by rfl, ?_⟩; (intro w hSw; (try dsimp only at hSw); go_simp); try with_reducible rfl))); try simp only [Act.put, List.setIfInBounds_toArray, List.set_cons_zero, List.set_cons_succ])
    refine planned_end ?_
    refine wpAnyH_oneL (i := 14) rfl (by kernel_rfl) ?_
    intro K hK
    rw [if_pos (by rfl)]
    go_simp
    go_at_call 91
    try rw [HCA.out]
    refine (rbytes_any (l.g + 1) 8 _ (by decide) (by omega)).mono ?_
    rw [HA.out]
    rintro e w1 ⟨rfl, b1⟩
    have B1 := Lib.hid (bthen ((Below.refl _ w).drew) b1)
    have hS1 : w1.cell? ⟨x, 0, none⟩ = some (.pointer (some ⟨y, 0, none⟩)) ∧ w1.cell? ⟨x, 1, none⟩ = some (.int .i64 F) ∧ w1.cell? ⟨x, 2, none⟩ = some (.int .u64 l.g) := ⟨cell_later b1 hS0.1, cell_later b1 hS0.2.1, cell_later b1 hS0.2.2⟩
    clear b1
    refine hK _ _ hS1 ?_
    clear hK K
    try simp only [Act.put, List.setIfInBounds_toArray, List.set_cons_zero, List.set_cons_succ]
    refine wpAnyH_takeL (i := 15) (v := ?_) rfl (by kernel_rfl) (by kernel_rfl) (by kernel_rfl) (fun _ _ _ h => h) ?_ (by assumption) ?_; rotate_left; focus (first | (refine Or.inr ⟨by rfl, ?_⟩; with_reducible rfl) | (refine Or.inl ⟨by rfl, ?_⟩; (intro w hSw; (try dsimp only at hSw); go_simp); try with_reducible rfl))
    try simp only [Act.put, List.setIfInBounds_toArray, List.set_cons_zero, List.set_cons_succ]
    refine wpAnyH_oneL (i := 17) rfl (by kernel_rfl) ?_
    intro K hK
    rw [if_pos (by rfl)]
    go_simp
    go_at_call 92
    refine (rframe_any s _ (by omega)).mono ?_
    rw [HB.out]
    rintro e w2 ⟨rfl, b2⟩
    have B2 := Lib.hid (bthen B1.out b2)
    have hS2 : w2.cell? ⟨x, 0, none⟩ = some (.pointer (some ⟨y, 0, none⟩)) ∧ w2.cell? ⟨x, 1, none⟩ = some (.int .i64 F) ∧ w2.cell? ⟨x, 2, none⟩ = some (.int .u64 l.g) := ⟨cell_later b2 hS1.1, cell_later b2 hS1.2.1, cell_later b2 hS1.2.2⟩
    clear b2
    refine hK _ _ hS2 ?_
    clear hK K
    try simp only [Act.put, List.setIfInBounds_toArray, List.set_cons_zero, List.set_cons_succ]
    have hlen : ¬ (9223372036854775807 < 12 + (8 + s.length)) := by omega
    refine wpAnyH_takeL (i := 18) (v := ?_) rfl (by kernel_rfl) (by kernel_rfl) (by kernel_rfl) (fun _ _ _ h => h) ?_ (by assumption) ?_; rotate_left; focus (first | (refine Or.inr ⟨by rfl, ?_⟩; with_reducible rfl) | (refine Or.inl ⟨by rfl, ?_⟩; (intro w hSw; (try dsimp only at hSw); go_simp); try with_reducible rfl))
    try simp only [Act.put, List.setIfInBounds_toArray, List.set_cons_zero, List.set_cons_succ]
    refine wpAnyH_oneL (i := 19) rfl (by kernel_rfl) ?_
    intro K hK
    rw [if_pos (by rfl)]
    go_simp
    go_at_call 90
    try rw [HHH.out]
    try rw [hwr2]
    refine (rappend_any y _ d ub F2 H (HD.out.below B2.out) (by omega)).mono ?_
    rw [HN.out]
    rintro e w3 ⟨rfl, ub', hd3, hn3, ht3⟩
    have HW := Lib.hid (RWorked.disked (w := w) (HL.out.below B2.out) (HD.out.below B2.out) B2.out hd3 hn3 ht3)
    have HD3 := Lib.hid hd3
    have HN3 := Lib.hid (hn3.later (w := w) B2.out.size)
    have hS3 : w3.cell? ⟨x, 0, none⟩ = some (.pointer (some ⟨y, 0, none⟩)) ∧ w3.cell? ⟨x, 1, none⟩ = some (.int .i64 F) ∧ w3.cell? ⟨x, 2, none⟩ = some (.int .u64 l.g) := by
     obtain ⟨a0, a1, a2, _⟩ := HW.out.log.cells
     rw [HF.out] at a1
     exact ⟨a0, a1, a2⟩
    clear hd3 hn3 ht3 hS0 hS1 hS2 c0 c1 c2 c4
    refine hK _ _ hS3 ?_
    clear hK K
    try simp only [Act.put, List.setIfInBounds_toArray, List.set_cons_zero, List.set_cons_succ]
    obtain ⟨E, hE⟩ : ∃ E, (d.append F2 H).1 = E := ⟨_, rfl⟩
    have HE := Lib.hid hE
    rw [hE] at HW HD3
    clear hE
    by_cases hn0 : n = 0
    ·subst hn0
     have HLAY : Hid (Wal.lays d (!l.f) (l.g + 1) s = E.sync) := Lib.hid (by unfold Wal.lays; rw [HF2.out, HH.out, HN.out, if_neg (by simp), HE.out])
     obtain ⟨q, hq⟩ : ∃ q, E.sync.2 = q := ⟨_, rfl⟩
     have HQ := Lib.hid hq
     clear hq
     refine planned [20, 21, 22, 23, 24, 25] ?_
     iterate 6 (refine planned_take (v := ?_) rfl (by kernel_rfl) (by kernel_rfl) (by kernel_rfl) (fun _ _ _ h => h) ?_ (by assumption) ?_; rotate_left; (focus (first | (refine Or.inr ⟨by rfl, ?_⟩; with_reducible rfl) | (refine Or.inl ⟨by rfl, ?_⟩; (intro w hSw; (try dsimp only at hSw); go_simp); try with_reducible rfl))); try simp only [Act.put, List.setIfInBounds_toArray, List.set_cons_zero, List.set_cons_succ])
     refine planned_end ?_
     refine wpAnyH_oneL (i := 26) rfl (by kernel_rfl) ?_
     intro K hK
     rw [if_pos (by rfl)]
     go_simp
     go_at_call 93
     refine (rsync_any y _ E ub' HD3.out).mono ?_
     rw [HQ.out]
     rintro e w4 ⟨rfl, ub2, hd4, hn4, ht4⟩
     have HW4 := Lib.hid (HW.out.onward HD3.out HN3.out hd4 hn4 ht4)
     have HD4 := Lib.hid hd4
     have HN4 := Lib.hid (HN3.out.trans hn4 HW.out.touch.size)
     have hS4 : w4.cell? ⟨x, 0, none⟩ = some (.pointer (some ⟨y, 0, none⟩)) ∧ w4.cell? ⟨x, 1, none⟩ = some (.int .i64 F) ∧ w4.cell? ⟨x, 2, none⟩ = some (.int .u64 l.g) := by
      obtain ⟨a0, a1, a2, _⟩ := HW4.out.log.cells
      rw [HF.out] at a1
      exact ⟨a0, a1, a2⟩
     clear hd4 hn4 ht4 hS3
     refine hK _ _ hS4 ?_
     clear hK K
     try simp only [Act.put, List.setIfInBounds_toArray, List.set_cons_zero, List.set_cons_succ]
     obtain ⟨R, hR⟩ : ∃ R, E.sync.1 = R := ⟨_, rfl⟩
     rw [hR] at HW4 HD4
     have HLA : Hid (Wal.lays d (!l.f) (l.g + 1) s = (R, q)) := Lib.hid (HLAY.out.trans (Prod.ext hR HQ.out))
     clear hR
     by_cases hq0 : q = 0
     ·subst hq0
      obtain ⟨r, hr⟩ : ∃ r, (R.cut F 0).2 = r := ⟨_, rfl⟩
      have HRR := Lib.hid hr
      clear hr
      refine planned [27, 28, 29, 30, 31, 32, 33, 34, 35, 36, 37] ?_
      iterate 11 (refine planned_take (v := ?_) rfl (by kernel_rfl) (by kernel_rfl) (by kernel_rfl) (fun _ _ _ h => h) ?_ (by assumption) ?_; rotate_left; (focus (first | (refine Or.inr ⟨by rfl, ?_⟩; with_reducible rfl) | (refine Or.inl ⟨by rfl, ?_⟩; (intro w hSw; (try dsimp only at hSw); go_simp); try with_reducible rfl))); try simp only [Act.put, List.setIfInBounds_toArray, List.set_cons_zero, List.set_cons_succ])
      refine planned_end ?_
      refine wpAnyH_oneL (i := 38) rfl (by kernel_rfl) ?_
      intro K hK
      rw [if_pos (by rfl)]
      go_simp
      go_at_call 104
      refine (rcut_any y _ R ub2 F 0 HD4.out).mono ?_
      rw [HRR.out]
      rintro e w5 ⟨rfl, ub3, hd5, hn5, ht5⟩
      have HW5 := Lib.hid (HW4.out.onward HD4.out HN4.out hd5 hn5 ht5)
      have hS5 : w5.cell? ⟨x, 0, none⟩ = some (.pointer (some ⟨y, 0, none⟩)) ∧ w5.cell? ⟨x, 1, none⟩ = some (.int .i64 F) ∧ w5.cell? ⟨x, 2, none⟩ = some (.int .u64 l.g) := by
       obtain ⟨a0, a1, a2, _⟩ := HW5.out.log.cells
       rw [HF.out] at a1
       exact ⟨a0, a1, a2⟩
      clear hd5 hn5 ht5 hS4
      refine hK _ _ hS5 ?_
      clear hK K
      try simp only [Act.put, List.setIfInBounds_toArray, List.set_cons_zero, List.set_cons_succ]
      by_cases hr0 : r = 0
      ·subst hr0
       have HX : Hid (Wal.checkpoint l d s = ({ l with f := !l.f, g := l.g + 1, n := 0 }, (R.cut F 0).1, 0)) := Lib.hid (by unfold Wal.checkpoint; rw [if_neg (by simp [HDD.out]), if_neg hlong, if_neg hg, HLA.out, HF.out, if_neg (by simp), if_neg (by simp [HRR.out])])
       refine planned [39, 40] ?_
       iterate 2 (refine planned_take (v := ?_) rfl (by kernel_rfl) (by kernel_rfl) (by kernel_rfl) (fun _ _ _ h => h) ?_ (by assumption) ?_; rotate_left; (focus (first | (refine Or.inr ⟨by rfl, ?_⟩; with_reducible rfl) | (refine Or.inl ⟨by rfl, ?_⟩; (intro w hSw; (try dsimp only at hSw); go_simp); try with_reducible rfl))); try simp only [Act.put, List.setIfInBounds_toArray, List.set_cons_zero, List.set_cons_succ])
       refine planned_end ?_
       refine wpAnyH_done (by kernel_rfl) ?_ _
       obtain ⟨_, e1, e2, e3, _, ef, _⟩ := HW5.out.log.cells
       rw [HF.out] at e1
       have f1 := ef 1
       have f2 := ef 2
       have f3 := ef 3
       clear hS5 ef
       go_wp2_with fail
       go_ret
       rw [HX.out]
       exact ⟨rfl, HW5.out.set3 HF2.out⟩
      ·have HX : Hid (Wal.checkpoint l d s = ({ l with dead := true }, (R.cut F 0).1, 2)) := Lib.hid (by unfold Wal.checkpoint; rw [if_neg (by simp [HDD.out]), if_neg hlong, if_neg hg, HLA.out, HF.out, if_neg (by simp), if_pos (by rw [HRR.out]; exact hr0)])
       have hrb : (r != 0) = true := by simp [hr0]
       refine planned [39, 40] ?_
       iterate 2 (refine planned_take (v := ?_) rfl (by kernel_rfl) (by kernel_rfl) (by kernel_rfl) (fun _ _ _ h => h) ?_ (by assumption) ?_; rotate_left; (focus (first | (refine Or.inr ⟨by rfl, ?_⟩; with_reducible rfl) | (refine Or.inl ⟨by rfl, ?_⟩; (intro w hSw; (try dsimp only at hSw); go_simp); try with_reducible rfl))); try simp only [Act.put, List.setIfInBounds_toArray, List.set_cons_zero, List.set_cons_succ])
       refine planned_end ?_
       try simp only [hrb]
       refine wpAnyH_done (by kernel_rfl) ?_ _
       clear hS5
       go_wp2_with fail
       refine (rover_any x y _ l HW5.out.log).mono ?_
       rintro e w6 ⟨rfl, rfl⟩
       go_wp2_with fail
       go_ret
       rw [HX.out]
       exact ⟨rfl, HW5.out.died⟩
     ·have HX : Hid (Wal.checkpoint l d s = ({ l with dead := true }, R, 2)) := Lib.hid (by unfold Wal.checkpoint; rw [if_neg (by simp [HDD.out]), if_neg hlong, if_neg hg, HLA.out, if_pos hq0])
      have hqb : (q != 0) = true := by simp [hq0]
      refine planned [27, 28, 29] ?_
      iterate 3 (refine planned_take (v := ?_) rfl (by kernel_rfl) (by kernel_rfl) (by kernel_rfl) (fun _ _ _ h => h) ?_ (by assumption) ?_; rotate_left; (focus (first | (refine Or.inr ⟨by rfl, ?_⟩; with_reducible rfl) | (refine Or.inl ⟨by rfl, ?_⟩; (intro w hSw; (try dsimp only at hSw); go_simp); try with_reducible rfl))); try simp only [Act.put, List.setIfInBounds_toArray, List.set_cons_zero, List.set_cons_succ])
      refine planned_end ?_
      try simp only [hqb]
      refine planned [30, 31, 32, 33, 34, 35, 36, 37, 38, 39, 40] ?_
      iterate 11 (refine planned_take (v := ?_) rfl (by kernel_rfl) (by kernel_rfl) (by kernel_rfl) (fun _ _ _ h => h) ?_ (by assumption) ?_; rotate_left; (focus (first | (refine Or.inr ⟨by rfl, ?_⟩; with_reducible rfl) | (refine Or.inl ⟨by rfl, ?_⟩; (intro w hSw; (try dsimp only at hSw); go_simp); try with_reducible rfl))); try simp only [Act.put, List.setIfInBounds_toArray, List.set_cons_zero, List.set_cons_succ])
      refine planned_end ?_
      refine wpAnyH_done (by kernel_rfl) ?_ _
      clear hS4
      go_wp2_with fail
      refine (rover_any x y _ l HW4.out.log).mono ?_
      rintro e w6 ⟨rfl, rfl⟩
      go_wp2_with fail
      go_ret
      rw [HX.out]
      exact ⟨rfl, HW4.out.died⟩
    ·have HX : Hid (Wal.checkpoint l d s = ({ l with dead := true }, E, 2)) := Lib.hid (by unfold Wal.checkpoint Wal.lays; rw [if_neg (by simp [HDD.out]), if_neg hlong, if_neg hg, HF2.out, HH.out, HN.out, if_pos hn0, if_pos (by rw [HN.out]; exact hn0), HE.out])
     have hnb : (n != 0) = true := by simp [hn0]
     refine planned [20, 21] ?_
     iterate 2 (refine planned_take (v := ?_) rfl (by kernel_rfl) (by kernel_rfl) (by kernel_rfl) (fun _ _ _ h => h) ?_ (by assumption) ?_; rotate_left; (focus (first | (refine Or.inr ⟨by rfl, ?_⟩; with_reducible rfl) | (refine Or.inl ⟨by rfl, ?_⟩; (intro w hSw; (try dsimp only at hSw); go_simp); try with_reducible rfl))); try simp only [Act.put, List.setIfInBounds_toArray, List.set_cons_zero, List.set_cons_succ])
     refine planned_end ?_
     try simp only [hnb]
     refine planned [22, 23, 24, 25, 26, 27, 28, 29, 30, 31, 32, 33, 34, 35, 36, 37, 38, 39, 40] ?_
     iterate 19 (refine planned_take (v := ?_) rfl (by kernel_rfl) (by kernel_rfl) (by kernel_rfl) (fun _ _ _ h => h) ?_ (by assumption) ?_; rotate_left; (focus (first | (refine Or.inr ⟨by rfl, ?_⟩; with_reducible rfl) | (refine Or.inl ⟨by rfl, ?_⟩; (intro w hSw; (try dsimp only at hSw); go_simp); try with_reducible rfl))); try simp only [Act.put, List.setIfInBounds_toArray, List.set_cons_zero, List.set_cons_succ])
     refine planned_end ?_
     refine wpAnyH_done (by kernel_rfl) ?_ _
     clear hS3
     go_wp2_with fail
     refine (rover_any x y _ l HW.out.log).mono ?_
     rintro e w6 ⟨rfl, rfl⟩
     go_wp2_with fail
     go_ret
     rw [HX.out]
     exact ⟨rfl, HW.out.died⟩
end Go.Proofs.YtpjpknndfhablaaGreat
namespace Go.Proofs.YtpjpknndfhablaaGreat
open Go.RowKit
set_option maxHeartbeats 2000000 in
set_option maxRecDepth 100000 in
theorem rcopyL_any (x y y' : Nat) (w : World) (l : Wal.LS) (hl : RlogAt w x y l) :
  Calls Tryz.prog 72 #[.pointer (some ⟨x, 0, none⟩), .pointer (some ⟨y', 0, none⟩)] w fun e w' => ∃ x', e = .returned (.pointer (some ⟨x', 0, none⟩)) ∧ w.heap.size ≤ x' ∧ RlogAt w' x' y' l ∧ Below w.heap.size w w' := by
 obtain ⟨c0, c1, c2, c3, c4, _, hlt⟩ := hl.cells
 go_enter Tryz.func72, Tryz.ntmps72
 go_wp2_with fail
 go_ret
 exact ⟨w.heap.size, rfl, Nat.le_refl _, heap_new w _, balloc _ _⟩
end Go.Proofs.YtpjpknndfhablaaGreat
namespace Go.Proofs.YtpjpknndfhablaaGreat
open Go.RowKit
/-- How the document's New ends. -/
def RNewEnds (y : Nat) (w : World) (o : Option Wal.LS) (d' : DS) (ub : Option Nat) (r : Int) (e : Ending) (w' : World) : Prop :=
 ∃ v, e = .returned (.tuple #[v, .int .i64 r]) ∧ (∀ l, o = some l → ∃ x, v = .pointer (some ⟨x, 0, none⟩) ∧ w.heap.size ≤ x ∧ RlogAt w' x y l) ∧ (o = none → v = .pointer none) ∧
  ∃ ub', RefAt w' y d' ub' ∧ Newer w ub ub' ∧ Touch (· = y) w w'
theorem RNewEnds.refused {y : Nat} {w w' : World} {d : DS} {ub ub' : Option Nat} {r : Int} (h : RefAt w' y d ub') (hn : Newer w ub ub') (ht : Touch (· = y) w w') : RNewEnds y w none d ub r (.returned (.tuple #[.pointer none, .int .i64 r])) w' :=
 ⟨_, rfl, (fun _ h => by cases h), fun _ => rfl, ub', h, hn, ht⟩
set_option maxHeartbeats 4000000 in
set_option maxRecDepth 100000 in
theorem rnewL_any (y : Nat) (w : World) (d : DS) (ub : Option Nat) (h : RefAt w y d ub) :
  Calls Tryz.prog 46 #[.pointer (some ⟨y, 0, none⟩)] w (RNewEnds y w (Wal.new d).1 (Wal.new d).2.1 ub (Wal.new d).2.2) := by
 have HD := Lib.hid h
 obtain ⟨hok, us, hr, _⟩ := h
 obtain ⟨_, _, _, _, _, c5, _, _⟩ := hr.cells
 clear hok hr
 cases hdd : d.dead with
 | true =>
  rw [hdd] at c5
  have HX : Hid (Wal.new d = (none, d, 2)) := Lib.hid (by unfold Wal.new; rw [if_pos hdd])
  go_enter Tryz.func46, Tryz.ntmps46
  go_wp2_with fail
  refine bodyPost_ret (results_tmp2 rfl _ _ _) rfl ?_
  rw [HX.out]
  exact RNewEnds.refused HD.out (Newer.refl _ _) (Touch.refl _ _)
 | false =>
  rw [hdd] at c5
  have HDD := Lib.hid hdd
  clear hdd
  obtain ⟨z0, hz0⟩ : ∃ z, d.size false = z := ⟨_, rfl⟩
  obtain ⟨z1, hz1⟩ : ∃ z, d.size true = z := ⟨_, rfl⟩
  have HZ0 := Lib.hid hz0
  have HZ1 := Lib.hid hz1
  clear hz0 hz1
  go_enter Tryz.func46, Tryz.ntmps46
  go_wp2_with fail
  refine (rsize_at y _ d ub false HD.out).mono ?_
  rw [HZ0.out]
  rintro e w1 ⟨rfl, rfl⟩
  by_cases h0 : 0 < z0
  ·have HX : Hid (Wal.new d = (none, d, 100)) := Lib.hid (by unfold Wal.new; rw [if_neg (by simp [HDD.out]), HZ0.out, if_pos (by omega)])
   go_wp2_with fail
   refine bodyPost_ret (results_tmp2 rfl _ _ _) rfl ?_
   rw [HX.out]
   exact RNewEnds.refused HD.out (Newer.refl _ _) (Touch.refl _ _)
  ·go_wp2_with fail
   refine (rsize_at y _ d ub true HD.out).mono ?_
   rw [HZ1.out]
   rintro e w1 ⟨rfl, rfl⟩
   by_cases h1 : 0 < z1
   ·have HX : Hid (Wal.new d = (none, d, 100)) := Lib.hid (by unfold Wal.new; rw [if_neg (by simp [HDD.out]), HZ0.out, HZ1.out, if_pos (by omega)])
    go_wp2_with fail
    refine bodyPost_ret (results_tmp2 rfl _ _ _) rfl ?_
    rw [HX.out]
    exact RNewEnds.refused HD.out (Newer.refl _ _) (Touch.refl _ _)
   ·obtain ⟨A, hA⟩ : ∃ A, Sha.big 1 8 = A := ⟨_, rfl⟩
    have hAl : A.length = 8 := by rw [← hA]; exact Sha.big_length _ _
    obtain ⟨B, hB⟩ : ∃ B, Wal.frame [] = B := ⟨_, rfl⟩
    have hBl : B.length = 8 := by rw [← hB]; exact Wal.frame_length _
    have hH : Wal.head 1 [] = 83 :: 78 :: 76 :: 49 :: (A ++ B) := by unfold Wal.head; rw [hA, hB]; rfl
    obtain ⟨H, hHH⟩ : ∃ H, Wal.head 1 [] = H := ⟨_, rfl⟩
    have hHl : H.length ≤ 524308 := by rw [← hHH, Wal.head_length]; simp
    obtain ⟨n, hn⟩ : ∃ n, (d.append 0 H).2 = n := ⟨_, rfl⟩
    have HA := Lib.hid hA
    have HB := Lib.hid hB
    have HN := Lib.hid hn
    have HH := Lib.hid hHH
    have HHH : Hid (83 :: 78 :: 76 :: 49 :: (A ++ B) = H) := Lib.hid (hH.symm.trans hHH)
    have hap1 := bytes_append [83, 78, 76, 49] A
    have hap2 := bytes_append (83 :: 78 :: 76 :: 49 :: A) B
    clear hA hB hH hn hHH
    go_wp2_with fail
    refine (rbytes_any 1 8 _ (by decide) (by decide)).mono ?_
    rw [HA.out]
    rintro e w1 ⟨rfl, b1⟩
    have B1 := Lib.hid b1
    clear b1
    go_wp2_with fail
    refine (rframe_any [] _ (by decide)).mono ?_
    rw [HB.out]
    rintro e w2 ⟨rfl, b2⟩
    have B2 := Lib.hid (bthen B1.out b2)
    clear b2
    go_wp2_with fail
    try rw [HHH.out]
    refine (rappend_any y _ d ub 0 H (HD.out.below B2.out) (by omega)).mono ?_
    rw [HN.out]
    rintro e w3 ⟨rfl, ub', hd3, hn3, ht3⟩
    have HD3 := Lib.hid hd3
    have HN3 := Lib.hid (hn3.later (w := w) B2.out.size)
    have HT3 : Hid (Touch (· = y) w w3) := Lib.hid (Touch.trans (Touch.of_below B2.out) ht3 (fun _ _ h => h))
    clear hd3 hn3 ht3
    obtain ⟨E, hE⟩ : ∃ E, (d.append 0 H).1 = E := ⟨_, rfl⟩
    rw [hE] at HD3
    have HE := Lib.hid hE
    clear hE
    by_cases hn0 : n = 0
    ·subst hn0
     obtain ⟨q, hq⟩ : ∃ q, E.sync.2 = q := ⟨_, rfl⟩
     have HQ := Lib.hid hq
     clear hq
     have HLA : Hid (Wal.lays d false 1 [] = (E.sync.1, q)) := Lib.hid (by unfold Wal.lays; rw [HH.out, show DS.fi false = 0 from rfl, HN.out, if_neg (by simp), HE.out, ← HQ.out])
     go_wp2_with fail
     refine (rsync_any y _ E ub' HD3.out).mono ?_
     rw [HQ.out]
     rintro e w4 ⟨rfl, ub2, hd4, hn4, ht4⟩
     have HD4 := Lib.hid hd4
     have HN4 := Lib.hid (HN3.out.trans hn4 HT3.out.size)
     have HT4 : Hid (Touch (· = y) w w4) := Lib.hid (Touch.trans HT3.out ht4 (fun _ _ h => h))
     clear hd4 hn4 ht4
     by_cases hq0 : q = 0
     ·subst hq0
      have HX : Hid (Wal.new d = (some { f := false, g := 1, n := 0, dead := false }, E.sync.1, 0)) := Lib.hid (by unfold Wal.new; rw [if_neg (by simp [HDD.out]), HZ0.out, HZ1.out, if_neg (by omega), HLA.out, if_neg (by simp)])
      go_wp2_with fail
      refine bodyPost_ret (results_tmp2 rfl _ _ _) rfl ?_
      rw [HX.out]
      exact ⟨_, rfl, (fun l h => by cases h; exact ⟨_, rfl, HT4.out.size, heap_new w4 _⟩), (fun h => by cases h), ub2, HD4.out.below (balloc _ _), HN4.out, HT4.out.alloc _⟩
     ·have HX : Hid (Wal.new d = (none, E.sync.1, 2)) := Lib.hid (by unfold Wal.new; rw [if_neg (by simp [HDD.out]), HZ0.out, HZ1.out, if_neg (by omega), HLA.out, if_pos hq0])
      go_wp2_with fail
      refine bodyPost_ret (results_tmp2 rfl _ _ _) rfl ?_
      rw [HX.out]
      exact RNewEnds.refused HD4.out HN4.out HT4.out
    ·have HLA : Hid (Wal.lays d false 1 [] = (E, n)) := Lib.hid (by unfold Wal.lays; rw [HH.out, show DS.fi false = 0 from rfl, HN.out, if_pos hn0]; exact Prod.ext HE.out HN.out)
     have HX : Hid (Wal.new d = (none, E, 2)) := Lib.hid (by unfold Wal.new; rw [if_neg (by simp [HDD.out]), HZ0.out, HZ1.out, if_neg (by omega), HLA.out, if_pos hn0])
     go_wp2_with fail
     refine bodyPost_ret (results_tmp2 rfl _ _ _) rfl ?_
     rw [HX.out]
     exact RNewEnds.refused HD3.out HN3.out HT3.out
end Go.Proofs.YtpjpknndfhablaaGreat
namespace Go.Proofs.YtpjpknndfhablaaGreat
open Go.RowKit
/-- How the document's Open ends. -/
def ROpenEnds (y : Nat) (w : World) (o : Option Wal.Opened) (d' : DS) (ub : Option Nat) (r : Int) (e : Ending) (w' : World) : Prop :=
 ∃ v s rv, e = .returned (.tuple #[v, .string s, rv, .int .i64 r]) ∧
  (∀ q, o = some q → s = ⟨q.snap.toArray⟩ ∧ (∃ g cap, rv = .slice (some ⟨g, 0, none⟩) q.rs.length cap ∧ w'.ownsRow w.heap.size 9 1 rv q.rs.length (strs q.rs)) ∧ ∃ x, v = .pointer (some ⟨x, 0, none⟩) ∧ w.heap.size ≤ x ∧ RlogAt w' x y q.l) ∧
  (o = none → v = .pointer none ∧ s = ⟨#[]⟩ ∧ rv = .slice none 0 0) ∧ ∃ ub', RefAt w' y d' ub' ∧ Newer w ub ub' ∧ Touch (· = y) w w'
theorem ROpenEnds.refused {y : Nat} {w w' : World} {d : DS} {ub ub' : Option Nat} {r : Int} (h : RefAt w' y d ub') (hn : Newer w ub ub') (ht : Touch (· = y) w w') : ROpenEnds y w none d ub r (.returned (.tuple #[.pointer none, .string ⟨#[]⟩, .slice none 0 0, .int .i64 r])) w' :=
 ⟨_, _, _, rfl, (fun _ h => by cases h), fun _ => ⟨rfl, rfl, rfl⟩, ub', h, hn, ht⟩
/-- What stands in the loop of the document's Open. -/
structure RReadAt (W9 wr : World) (G : List UInt8) (p0 : Nat) (v : Value) (p : Nat) (pre : List (List UInt8)) : Prop where
 old : Below W9.heap.size W9 wr
 row : wr.ownsRow W9.heap.size 9 1 v pre.length (strs pre)
 some_ : ∃ g n cap, v = .slice (some ⟨g, 0, none⟩) n cap
 on : Wal.Onward G p0 p pre
 many : pre.length * 8 ≤ p
 le : p ≤ G.length
theorem RReadAt.slice {W9 wr : World} {G : List UInt8} {p0 : Nat} {v : Value} {p : Nat} {pre : List (List UInt8)} (h : RReadAt W9 wr G p0 v p pre) : ∃ g cap, v = .slice (some ⟨g, 0, none⟩) pre.length cap := by
 rcases h.row.2 with ⟨hv, h0⟩ | ⟨g, cap, cur, hv, _⟩
 ·obtain ⟨g, n, cap, h'⟩ := h.some_
  rw [hv] at h'
  cases h'
 ·exact ⟨g, cap, hv⟩
theorem rread_start (W9 : World) (G : List UInt8) (p0 : Nat) (hle : p0 ≤ G.length) {WL : World} (h : WL = W9.alloc (.cells #[] 9)) : RReadAt W9 WL G p0 (.slice (some ⟨W9.heap.size, 0, none⟩) 0 0) p0 [] := by
 subst h
 exact ⟨balloc _ _, ⟨rfl, .inr ⟨W9.heap.size, 0, #[], rfl, Nat.le_refl _, heap_new W9 _, Nat.le_refl _, by decide, rfl, rfl⟩⟩, ⟨_, _, _, rfl⟩, Wal.Onward.start G p0, by simp, hle⟩
theorem rread_step {W9 wr w' w1 : World} {G : List UInt8} {p0 : Nat} {v v' : Value} {p : Nat} {pre : List (List UInt8)} (h : RReadAt W9 wr G p0 v p pre) (hb : Below wr.heap.size wr w') {s : List UInt8} (hs : Wal.whole G p 65536 = (s, true))
  (ho : w1.ownsRow W9.heap.size 9 1 v' (pre.length + 1) (strs pre ++ [.string ⟨s.toArray⟩])) (hg : (w'.alloc (.cells #[.string ⟨s.toArray⟩] 9)).grownBy w1 v.ownBlock) : RReadAt W9 w1 G p0 v' (p + 8 + s.length) (pre ++ [s]) := by
 have hlt : ∀ k, v.ownBlock = some k → W9.heap.size ≤ k := fun k hk => by
  rcases h.row.2 with ⟨hv, _⟩ | ⟨g, cap, cur, hv, hb, hg', _⟩
  ·rw [hv] at hk; cases hk
  ·rw [hv] at hk
   have e1 : g = k := Option.some.inj hk
   subst e1
   exact hb
 have ht : Touch (fun k => v.ownBlock = some k) wr w1 := Touch.trans (Touch.of_below (bthen hb (balloc w' _))) (touch_of_grown hg) (fun _ _ h => h)
 have hw := Wal.whole_le (file := G) (p := p) (most := 65536) (by rw [hs])
 rw [hs] at hw
 refine ⟨h.old.trans (ht.below h.old.size (fun k hk e => by have := hlt k e; omega)), ?_, ?_, h.on.step hs, ?_, hw.1⟩
 ·rw [strs_snoc, List.length_append]
  exact ho
 ·rcases ho.2 with ⟨_, h0⟩ | ⟨g, cap, cur, hv, _⟩
  ·omega
  ·exact ⟨g, _, cap, hv⟩
 ·have := h.many
  simp only [List.length_append, List.length_cons, List.length_nil]
  omega
theorem own_lo {w : World} {base e size n : Nat} {v : Value} {xs : List Value} (h : w.ownsRow base e size v n xs) (k : Nat) (hk : v.ownBlock = some k) : base ≤ k := by
 rcases h.2 with ⟨hv, _⟩ | ⟨g, cap, cur, hv, hb, _⟩
 ·rw [hv] at hk; cases hk
 ·rw [hv] at hk
  have e1 : g = k := Option.some.inj hk
  subst e1
  exact hb
theorem own_base {w : World} {base base' e size n : Nat} {v : Value} {xs : List Value} (h : w.ownsRow base e size v n xs) (hb : base' ≤ base) : w.ownsRow base' e size v n xs := by
 refine ⟨h.1, ?_⟩
 rcases h.2 with h0 | ⟨g, cap, cur, hv, hb', rest⟩
 ·exact .inl h0
 ·exact .inr ⟨g, cap, cur, hv, Nat.le_trans hb hb', rest⟩
theorem ropen_done {w w6 : World} {B y gg cap : Nat} {E : DS} {ub ub6 : Option Nat} {l : Wal.LS} {s : List UInt8} {pre : List (List UInt8)} (row : w6.ownsRow B 9 1 (.slice (some ⟨gg, 0, none⟩) pre.length cap) pre.length (strs pre)) (hb : w.heap.size ≤ B)
  (hd : RefAt w6 y E ub6) (hn : Newer w ub ub6) (ht : Touch (· = y) w w6) :
  ROpenEnds y w (some ⟨l, s, pre⟩) E ub 0 (.returned (.tuple #[.pointer (some ⟨w6.heap.size, 0, none⟩), .string ⟨s.toArray⟩, .slice (some ⟨gg, 0, none⟩) pre.length cap, .int .i64 0])) (w6.alloc (rlogBlock y l)) := by
 refine ⟨_, _, _, rfl, fun q hq => ?_, (fun h => by cases h), ub6, hd.below (balloc _ _), hn, ht.alloc _⟩
 cases hq
 exact ⟨rfl, ⟨gg, cap, rfl, own_base (own_touch row (Touch.of_below (S := fun _ => False) (balloc _ _)) (fun _ _ h => h)) hb⟩, _, rfl, ht.size, heap_new w6 _⟩
set_option maxHeartbeats 4000000 in
set_option maxRecDepth 100000 in
theorem ropenL_any (y : Nat) (w : World) (d : DS) (ub : Option Nat) (h : RefAt w y d ub) :
  Calls Tryz.prog 52 #[.pointer (some ⟨y, 0, none⟩)] w (ROpenEnds y w (Wal.open_ d).1 (Wal.open_ d).2.1 ub (Wal.open_ d).2.2) := by
 have HD := Lib.hid h
 obtain ⟨hok, us, hr, _⟩ := h
 obtain ⟨_, _, _, _, _, c5, _, _⟩ := hr.cells
 have HR := Lib.hid hr
 clear hr
 cases hdd : d.dead with
 | true =>
  rw [hdd] at c5
  have HX : Hid (Wal.open_ d = (none, d, 2)) := Lib.hid (by unfold Wal.open_; rw [if_pos hdd])
  go_enter Tryz.func52, Tryz.ntmps52
  go_wp2_with fail
  refine bodyPost_ret (results_tmp4 rfl _ _ _) rfl ?_
  rw [HX.out]
  exact ROpenEnds.refused HD.out (Newer.refl _ _) (Touch.refl _ _)
 | false =>
  rw [hdd] at c5
  have HDD := Lib.hid hdd
  clear hdd
  obtain ⟨F0, hF0⟩ : ∃ F, d.file false = F := ⟨_, rfl⟩
  obtain ⟨F1, hF1⟩ : ∃ F, d.file true = F := ⟨_, rfl⟩
  have hl0 : F0.length ≤ 1048576 := by rw [← hF0]; exact hok.base_len' false
  have hl1 : F1.length ≤ 1048576 := by rw [← hF1]; exact hok.base_len' true
  have HF0 := Lib.hid hF0
  have HF1 := Lib.hid hF1
  clear hF0 hF1
  go_enter Tryz.func52, Tryz.ntmps52
  go_wp2_with fail
  refine (rfiles_any y _ d us HR.out hok).mono ?_
  rw [HF0.out, HF1.out]
  rintro e w2 ⟨q, rfl, hq, htwo, b2⟩
  have B2 := Lib.hid b2
  obtain ⟨cur, hcur, hc0, hc1⟩ := htwo
  have HQ := Lib.hid hcur
  have q0 := cell_of hcur hc0
  have q1 := cell_of hcur hc1
  clear b2 hcur
  obtain ⟨A, sa, pa, hA⟩ : ∃ A sa pa, Wal.counts F0 = (A, sa, pa) := ⟨_, _, _, rfl⟩
  obtain ⟨B, sb, pb, hB⟩ : ∃ B sb pb, Wal.counts F1 = (B, sb, pb) := ⟨_, _, _, rfl⟩
  have HA := Lib.hid hA
  have HB := Lib.hid hB
  clear hA hB
  go_wp2_with fail
  refine (rcounts_any F0 _ (by omega)).mono ?_
  rw [HA.out]
  rintro e W6 ⟨rfl, b6⟩
  have Q6 := Lib.hid (stays HQ.out b6)
  have B6 := Lib.hid (bthen B2.out b6)
  have r1 := cell_of Q6.out hc1
  clear b6 q0 q1
  go_wp2_with fail
  refine (rcounts_any F1 _ (by omega)).mono ?_
  rw [HB.out]
  rintro e W7 ⟨rfl, b7⟩
  have Q7 := Lib.hid (stays Q6.out b7)
  have B7 := Lib.hid (bthen B6.out b7)
  have HSZ7 := Lib.hid B7.out.size
  have hylt := HD.out.lt
  clear b7 r1
  by_cases hab : A < B
  ·skip
   have HBEST : Hid (Wal.best d = true) := Lib.hid (by unfold Wal.best; rw [HF0.out, HF1.out, HA.out, HB.out]; exact decide_eq_true (by simpa using hab))
   have HSH : Hid (Wal.shown d = (B, sb, pb)) := Lib.hid (by unfold Wal.shown; rw [HBEST.out]; first | rw [HF0.out, HA.out] | rw [HF1.out, HB.out])
   have HSR : Hid (Wal.shownRecs d = Wal.recs F1 pb) := Lib.hid (by unfold Wal.shownRecs; rw [HBEST.out, HSH.out]; first | rw [HF0.out] | rw [HF1.out])
   by_cases hA0 : B = 0
   ·exact absurd hA0 (by omega)
   ·have hA0' : ((B : Int) == 0) = false := by simp; omega
    have HLE := Lib.hid (counts_le HB.out hA0)
    have hcI := hc1
    go_wp2_with fail
    obtain ⟨WL, hWL⟩ : ∃ WL, W7.alloc (.cells #[] 9) = WL := ⟨_, rfl⟩
    rw [hWL]
    have HST := Lib.hid (rread_start W7 F1 pb HLE.out.1 hWL.symm)
    clear hWL hA0'
    go_loopw [9, 14] (fun i v wr => ∃ p pre, i = .int .i64 (p : Nat) ∧ RReadAt W7 wr F1 pb v p pre) (fun i _ _ => F1.length + 1 - (intOf i).toNat)
    case atStart => exact ⟨_, _, rfl, HST.out⟩
    case round =>
     obtain ⟨p', pre, rfl, hr⟩ := hrel
     obtain ⟨gg, cap, hv⟩ := hr.slice
     subst hv
     have HRD := Lib.hid hr
     have hple := hr.le
     have hmany := hr.many
     obtain ⟨s, ok, hW⟩ : ∃ s ok, Wal.whole F1 p' 65536 = (s, ok) := ⟨_, _, rfl⟩
     have HW := Lib.hid hW
     have i2 := cell_of (stays Q7.out hr.old) hcI
     clear hr hW
     go_wp2_with fail
     refine (rwhole_any F1 p' 65536 _ (by omega) (by omega) (by decide)).mono ?_
     rw [HW.out]
     rintro e w' ⟨rfl, hb⟩
     cases ok with
     | true =>
      have hsl : p' + 8 + s.length ≤ F1.length := by have := (Wal.whole_le (file := F1) (p := p') (most := 65536) (by rw [HW.out])).1; rw [HW.out] at this; exact this
      have hs16 : s.length ≤ 1048576 := by omega
      have HB1 := Lib.hid hb
      clear hb i2
      go_wp2_with (first | (at_builtin; go_must (refine wpList_append_own2 _ rfl (.tmp 59) (.tmp 61) 22 rfl W7.heap.size 9 1 16 _ Tryz.stringInfo Tryz.underlying22 rfl (by decide) _ pre.length (strs pre) rfl (own_touch HRD.out.row (Touch.of_below (S := fun _ => False) (bthen HB1.out (balloc w' _))) (fun _ _ h => h)) ⟨w'.heap.size, 0, none⟩ 1 1 [.string ⟨s.toArray⟩] rfl rfl (fun i u hi => by rw [addr_add, Nat.zero_add]; exact cell_of (heap_new w' _) (by simpa using hi)) (by intro u hu; simp at hu; subst hu; rfl) (by unfold maxLen; omega) (by omega) (by have := HB1.out.size; have := HRD.out.old.size; simp; omega) ?_; intro v' w1 ho hgr _; have HO := Lib.hid ho; have HGR := Lib.hid hgr; clear ho hgr)))
      go_roundw
      case rel => exact ⟨p' + 8 + s.length, _, by go_num, rread_step HRD.out HB1.out HW.out HO.out HGR.out⟩
      case measure => simp [intOf]; omega
     | false =>
      have hrecs := HRD.out.on.done (by rw [HW.out])
      have HSRR : Hid (Wal.shownRecs d = (pre, p')) := Lib.hid (HSR.out.trans hrecs)
      have B9 := Lib.hid (bthen B7.out (bthen HRD.out.old hb))
      have HD9 := Lib.hid (HD.out.below B9.out)
      have Q9 := Lib.hid (stays (stays Q7.out HRD.out.old) hb)
      have ROW9 := Lib.hid (own_touch HRD.out.row (Touch.of_below (S := fun _ => False) hb) (fun _ _ h => h))
      have HT9 : Hid (Touch (· = y) w w') := Lib.hid (Touch.of_below B9.out)
      have hI9 := cell_of Q9.out hc1
      clear hb hrecs i2
      by_cases hlt : p' < F1.length
      ·obtain ⟨r, hr⟩ : ∃ r, (d.cut 1 p').2 = r := ⟨_, rfl⟩
       obtain ⟨E, hE⟩ : ∃ E, (d.cut 1 p').1 = E := ⟨_, rfl⟩
       have HCE : Hid (Wal.cutEnd d true p' = (E, r)) := Lib.hid (by unfold Wal.cutEnd; (first | rw [HF0.out] | rw [HF1.out]); rw [if_pos hlt]; exact Prod.ext hE hr)
       have HR1 := Lib.hid hr
       have HE1 := Lib.hid hE
       clear hr hE
       go_wp2_with fail
       refine (rcut_any y _ d ub 1 p' HD9.out).mono ?_
       rw [HR1.out, HE1.out]
       rintro e w4 ⟨rfl, ub4, hd4, hn4, ht4⟩
       have HD5 := Lib.hid hd4
       have HN5 := Lib.hid (hn4.later (w := w) B9.out.size)
       have HT5 : Hid (Touch (· = y) w w4) := Lib.hid (Touch.trans HT9.out ht4 (fun _ _ h => h))
       have Q5 := Lib.hid ((ht4.block q (heap_lt Q9.out) (by omega)).trans Q9.out)
       have ROW5 := Lib.hid (own_touch ROW9.out ht4 (fun k hk e => by have := own_lo ROW9.out k hk; have := HSZ7.out; omega))
       clear hd4 hn4 ht4 hI9
       by_cases hr0 : r = 0
       ·subst hr0
        obtain ⟨G2, hG2⟩ : ∃ G2, F0 = G2 := ⟨_, rfl⟩
        have HG2 : Hid (d.file (!true) = G2) := Lib.hid (by rw [← hG2]; first | exact HF0.out | exact HF1.out)
        have hO5 := cell_of Q5.out hc0
        rw [hG2] at hO5
        clear hG2
        by_cases ho : 0 < G2.length
        ·obtain ⟨r2, hr2⟩ : ∃ r, (E.cut 0 0).2 = r := ⟨_, rfl⟩
         obtain ⟨E2, hE2⟩ : ∃ E2, (E.cut 0 0).1 = E2 := ⟨_, rfl⟩
         have HCC : Hid (Wal.cuts d true p' = (E2, r2)) := Lib.hid (by unfold Wal.cuts; rw [HCE.out, if_neg (by simp), HG2.out]; unfold Wal.cutOther; rw [if_pos (by intro h0; rw [h0] at ho; simp at ho)]; exact Prod.ext hE2 hr2)
         have HR2 := Lib.hid hr2
         have HE2 := Lib.hid hE2
         clear hr2 hE2
         go_wp2_with fail
         refine (rcut_any y _ E _ 0 0 HD5.out).mono ?_
         rw [HR2.out, HE2.out]
         rintro e w6 ⟨rfl, ub6, hd6, hn6, ht6⟩
         have HD6 := Lib.hid hd6
         have HN6 := Lib.hid (HN5.out.trans hn6 HT5.out.size)
         have ROW6 := Lib.hid (own_touch ROW5.out ht6 (fun k hk e => by have := own_lo ROW5.out k hk; have := HSZ7.out; omega))
         have HT6 : Hid (Touch (· = y) w w6) := Lib.hid (Touch.trans HT5.out ht6 (fun _ _ h => h))
         clear hd6 hn6 ht6 hO5
         by_cases hr20 : r2 = 0
         ·subst hr20
          have HX : Hid (Wal.open_ d = (some ⟨{ f := true, g := B, n := pre.length, dead := false }, sb, pre⟩, E2, 0)) := Lib.hid (by unfold Wal.open_; rw [if_neg (by simp [HDD.out]), HSH.out, if_neg hA0, HSRR.out, HBEST.out, HCC.out, if_neg (by simp)])
          go_wp2_with fail
          refine bodyPost_ret (results_tmp4 rfl _ _ _) rfl ?_
          rw [HX.out]
          exact ropen_done ROW6.out HSZ7.out HD6.out HN6.out HT6.out
         ·have HX : Hid (Wal.open_ d = (none, E2, 2)) := Lib.hid (by unfold Wal.open_; rw [if_neg (by simp [HDD.out]), HSH.out, if_neg hA0, HSRR.out, HBEST.out, HCC.out, if_pos hr20])
          have hrb2 : (r2 != 0) = true := by simp [hr20]
          go_wp2_with fail
          refine bodyPost_ret (results_tmp4 rfl _ _ _) rfl ?_
          rw [HX.out]
          exact ROpenEnds.refused HD6.out HN6.out HT6.out
        ·have HCC : Hid (Wal.cuts d true p' = (E, 0)) := Lib.hid (by unfold Wal.cuts; rw [HCE.out, if_neg (by simp), HG2.out]; unfold Wal.cutOther; rw [if_neg (by intro h0; apply ho; cases G2 with | nil => exact absurd rfl h0 | cons a b => simp)])
         have HX : Hid (Wal.open_ d = (some ⟨{ f := true, g := B, n := pre.length, dead := false }, sb, pre⟩, E, 0)) := Lib.hid (by unfold Wal.open_; rw [if_neg (by simp [HDD.out]), HSH.out, if_neg hA0, HSRR.out, HBEST.out, HCC.out, if_neg (by simp)])
         go_wp2_with fail
         refine bodyPost_ret (results_tmp4 rfl _ _ _) rfl ?_
         rw [HX.out]
         exact ropen_done ROW5.out HSZ7.out HD5.out HN5.out HT5.out
       ·have HX : Hid (Wal.open_ d = (none, E, 2)) := Lib.hid (by unfold Wal.open_; rw [if_neg (by simp [HDD.out]), HSH.out, if_neg hA0, HSRR.out, HBEST.out]; unfold Wal.cuts; rw [HCE.out, if_pos hr0, if_pos hr0])
        have hrb : (r != 0) = true := by simp [hr0]
        go_wp2_with fail
        refine bodyPost_ret (results_tmp4 rfl _ _ _) rfl ?_
        rw [HX.out]
        exact ROpenEnds.refused HD5.out HN5.out HT5.out
      ·have HCE : Hid (Wal.cutEnd d true p' = (d, 0)) := Lib.hid (by unfold Wal.cutEnd; (first | rw [HF0.out] | rw [HF1.out]); rw [if_neg hlt])
       obtain ⟨E, hE⟩ : ∃ E, d = E := ⟨_, rfl⟩
       have HD5 : Hid (RefAt w' y E ub) := Lib.hid (hE ▸ HD9.out)
       have HCE : Hid (Wal.cutEnd d true p' = (E, 0)) := Lib.hid (HCE.out.trans (by rw [hE]))
       clear hE
       have HN5 := Lib.hid (Newer.refl w ub)
       have HT5 := HT9
       have Q5 := Q9
       have ROW5 := ROW9
       obtain ⟨G2, hG2⟩ : ∃ G2, F0 = G2 := ⟨_, rfl⟩
       have HG2 : Hid (d.file (!true) = G2) := Lib.hid (by rw [← hG2]; first | exact HF0.out | exact HF1.out)
       have hO5 := cell_of Q5.out hc0
       rw [hG2] at hO5
       clear hG2
       by_cases ho : 0 < G2.length
       ·obtain ⟨r2, hr2⟩ : ∃ r, (E.cut 0 0).2 = r := ⟨_, rfl⟩
        obtain ⟨E2, hE2⟩ : ∃ E2, (E.cut 0 0).1 = E2 := ⟨_, rfl⟩
        have HCC : Hid (Wal.cuts d true p' = (E2, r2)) := Lib.hid (by unfold Wal.cuts; rw [HCE.out, if_neg (by simp), HG2.out]; unfold Wal.cutOther; rw [if_pos (by intro h0; rw [h0] at ho; simp at ho)]; exact Prod.ext hE2 hr2)
        have HR2 := Lib.hid hr2
        have HE2 := Lib.hid hE2
        clear hr2 hE2
        go_wp2_with fail
        refine (rcut_any y _ E _ 0 0 HD5.out).mono ?_
        rw [HR2.out, HE2.out]
        rintro e w6 ⟨rfl, ub6, hd6, hn6, ht6⟩
        have HD6 := Lib.hid hd6
        have HN6 := Lib.hid (HN5.out.trans hn6 HT5.out.size)
        have ROW6 := Lib.hid (own_touch ROW5.out ht6 (fun k hk e => by have := own_lo ROW5.out k hk; have := HSZ7.out; omega))
        have HT6 : Hid (Touch (· = y) w w6) := Lib.hid (Touch.trans HT5.out ht6 (fun _ _ h => h))
        clear hd6 hn6 ht6 hO5
        by_cases hr20 : r2 = 0
        ·subst hr20
         have HX : Hid (Wal.open_ d = (some ⟨{ f := true, g := B, n := pre.length, dead := false }, sb, pre⟩, E2, 0)) := Lib.hid (by unfold Wal.open_; rw [if_neg (by simp [HDD.out]), HSH.out, if_neg hA0, HSRR.out, HBEST.out, HCC.out, if_neg (by simp)])
         go_wp2_with fail
         refine bodyPost_ret (results_tmp4 rfl _ _ _) rfl ?_
         rw [HX.out]
         exact ropen_done ROW6.out HSZ7.out HD6.out HN6.out HT6.out
        ·have HX : Hid (Wal.open_ d = (none, E2, 2)) := Lib.hid (by unfold Wal.open_; rw [if_neg (by simp [HDD.out]), HSH.out, if_neg hA0, HSRR.out, HBEST.out, HCC.out, if_pos hr20])
         have hrb2 : (r2 != 0) = true := by simp [hr20]
         go_wp2_with fail
         refine bodyPost_ret (results_tmp4 rfl _ _ _) rfl ?_
         rw [HX.out]
         exact ROpenEnds.refused HD6.out HN6.out HT6.out
       ·have HCC : Hid (Wal.cuts d true p' = (E, 0)) := Lib.hid (by unfold Wal.cuts; rw [HCE.out, if_neg (by simp), HG2.out]; unfold Wal.cutOther; rw [if_neg (by intro h0; apply ho; cases G2 with | nil => exact absurd rfl h0 | cons a b => simp)])
        have HX : Hid (Wal.open_ d = (some ⟨{ f := true, g := B, n := pre.length, dead := false }, sb, pre⟩, E, 0)) := Lib.hid (by unfold Wal.open_; rw [if_neg (by simp [HDD.out]), HSH.out, if_neg hA0, HSRR.out, HBEST.out, HCC.out, if_neg (by simp)])
        go_wp2_with fail
        refine bodyPost_ret (results_tmp4 rfl _ _ _) rfl ?_
        rw [HX.out]
        exact ropen_done ROW5.out HSZ7.out HD5.out HN5.out HT5.out
  ·skip
   have HBEST : Hid (Wal.best d = false) := Lib.hid (by unfold Wal.best; rw [HF0.out, HF1.out, HA.out, HB.out]; exact decide_eq_false (by simpa using hab))
   have HSH : Hid (Wal.shown d = (A, sa, pa)) := Lib.hid (by unfold Wal.shown; rw [HBEST.out]; first | rw [HF0.out, HA.out] | rw [HF1.out, HB.out])
   have HSR : Hid (Wal.shownRecs d = Wal.recs F0 pa) := Lib.hid (by unfold Wal.shownRecs; rw [HBEST.out, HSH.out]; first | rw [HF0.out] | rw [HF1.out])
   by_cases hA0 : A = 0
   ·have HX : Hid (Wal.open_ d = (none, d, 100)) := Lib.hid (by unfold Wal.open_; rw [if_neg (by simp [HDD.out]), HSH.out, if_pos hA0])
    have hA0' : ((A : Int) == 0) = true := by rw [hA0]; rfl
    go_wp2_with fail
    refine bodyPost_ret (results_tmp4 rfl _ _ _) rfl ?_
    rw [HX.out]
    exact ROpenEnds.refused (HD.out.below B7.out) (Newer.refl _ _) (Touch.of_below B7.out)
   ·have hA0' : ((A : Int) == 0) = false := by simp; omega
    have HLE := Lib.hid (counts_le HA.out hA0)
    have hcI := hc0
    go_wp2_with fail
    obtain ⟨WL, hWL⟩ : ∃ WL, W7.alloc (.cells #[] 9) = WL := ⟨_, rfl⟩
    rw [hWL]
    have HST := Lib.hid (rread_start W7 F0 pa HLE.out.1 hWL.symm)
    clear hWL hA0'
    go_loopw [9, 14] (fun i v wr => ∃ p pre, i = .int .i64 (p : Nat) ∧ RReadAt W7 wr F0 pa v p pre) (fun i _ _ => F0.length + 1 - (intOf i).toNat)
    case atStart => exact ⟨_, _, rfl, HST.out⟩
    case round =>
     obtain ⟨p', pre, rfl, hr⟩ := hrel
     obtain ⟨gg, cap, hv⟩ := hr.slice
     subst hv
     have HRD := Lib.hid hr
     have hple := hr.le
     have hmany := hr.many
     obtain ⟨s, ok, hW⟩ : ∃ s ok, Wal.whole F0 p' 65536 = (s, ok) := ⟨_, _, rfl⟩
     have HW := Lib.hid hW
     have i2 := cell_of (stays Q7.out hr.old) hcI
     clear hr hW
     go_wp2_with fail
     refine (rwhole_any F0 p' 65536 _ (by omega) (by omega) (by decide)).mono ?_
     rw [HW.out]
     rintro e w' ⟨rfl, hb⟩
     cases ok with
     | true =>
      have hsl : p' + 8 + s.length ≤ F0.length := by have := (Wal.whole_le (file := F0) (p := p') (most := 65536) (by rw [HW.out])).1; rw [HW.out] at this; exact this
      have hs16 : s.length ≤ 1048576 := by omega
      have HB1 := Lib.hid hb
      clear hb i2
      go_wp2_with (first | (at_builtin; go_must (refine wpList_append_own2 _ rfl (.tmp 59) (.tmp 61) 22 rfl W7.heap.size 9 1 16 _ Tryz.stringInfo Tryz.underlying22 rfl (by decide) _ pre.length (strs pre) rfl (own_touch HRD.out.row (Touch.of_below (S := fun _ => False) (bthen HB1.out (balloc w' _))) (fun _ _ h => h)) ⟨w'.heap.size, 0, none⟩ 1 1 [.string ⟨s.toArray⟩] rfl rfl (fun i u hi => by rw [addr_add, Nat.zero_add]; exact cell_of (heap_new w' _) (by simpa using hi)) (by intro u hu; simp at hu; subst hu; rfl) (by unfold maxLen; omega) (by omega) (by have := HB1.out.size; have := HRD.out.old.size; simp; omega) ?_; intro v' w1 ho hgr _; have HO := Lib.hid ho; have HGR := Lib.hid hgr; clear ho hgr)))
      go_roundw
      case rel => exact ⟨p' + 8 + s.length, _, by go_num, rread_step HRD.out HB1.out HW.out HO.out HGR.out⟩
      case measure => simp [intOf]; omega
     | false =>
      have hrecs := HRD.out.on.done (by rw [HW.out])
      have HSRR : Hid (Wal.shownRecs d = (pre, p')) := Lib.hid (HSR.out.trans hrecs)
      have B9 := Lib.hid (bthen B7.out (bthen HRD.out.old hb))
      have HD9 := Lib.hid (HD.out.below B9.out)
      have Q9 := Lib.hid (stays (stays Q7.out HRD.out.old) hb)
      have ROW9 := Lib.hid (own_touch HRD.out.row (Touch.of_below (S := fun _ => False) hb) (fun _ _ h => h))
      have HT9 : Hid (Touch (· = y) w w') := Lib.hid (Touch.of_below B9.out)
      have hI9 := cell_of Q9.out hc0
      clear hb hrecs i2
      by_cases hlt : p' < F0.length
      ·obtain ⟨r, hr⟩ : ∃ r, (d.cut 0 p').2 = r := ⟨_, rfl⟩
       obtain ⟨E, hE⟩ : ∃ E, (d.cut 0 p').1 = E := ⟨_, rfl⟩
       have HCE : Hid (Wal.cutEnd d false p' = (E, r)) := Lib.hid (by unfold Wal.cutEnd; (first | rw [HF0.out] | rw [HF1.out]); rw [if_pos hlt]; exact Prod.ext hE hr)
       have HR1 := Lib.hid hr
       have HE1 := Lib.hid hE
       clear hr hE
       go_wp2_with fail
       refine (rcut_any y _ d ub 0 p' HD9.out).mono ?_
       rw [HR1.out, HE1.out]
       rintro e w4 ⟨rfl, ub4, hd4, hn4, ht4⟩
       have HD5 := Lib.hid hd4
       have HN5 := Lib.hid (hn4.later (w := w) B9.out.size)
       have HT5 : Hid (Touch (· = y) w w4) := Lib.hid (Touch.trans HT9.out ht4 (fun _ _ h => h))
       have Q5 := Lib.hid ((ht4.block q (heap_lt Q9.out) (by omega)).trans Q9.out)
       have ROW5 := Lib.hid (own_touch ROW9.out ht4 (fun k hk e => by have := own_lo ROW9.out k hk; have := HSZ7.out; omega))
       clear hd4 hn4 ht4 hI9
       by_cases hr0 : r = 0
       ·subst hr0
        obtain ⟨G2, hG2⟩ : ∃ G2, F1 = G2 := ⟨_, rfl⟩
        have HG2 : Hid (d.file (!false) = G2) := Lib.hid (by rw [← hG2]; first | exact HF0.out | exact HF1.out)
        have hO5 := cell_of Q5.out hc1
        rw [hG2] at hO5
        clear hG2
        by_cases ho : 0 < G2.length
        ·obtain ⟨r2, hr2⟩ : ∃ r, (E.cut 1 0).2 = r := ⟨_, rfl⟩
         obtain ⟨E2, hE2⟩ : ∃ E2, (E.cut 1 0).1 = E2 := ⟨_, rfl⟩
         have HCC : Hid (Wal.cuts d false p' = (E2, r2)) := Lib.hid (by unfold Wal.cuts; rw [HCE.out, if_neg (by simp), HG2.out]; unfold Wal.cutOther; rw [if_pos (by intro h0; rw [h0] at ho; simp at ho)]; exact Prod.ext hE2 hr2)
         have HR2 := Lib.hid hr2
         have HE2 := Lib.hid hE2
         clear hr2 hE2
         go_wp2_with fail
         refine (rcut_any y _ E _ 1 0 HD5.out).mono ?_
         rw [HR2.out, HE2.out]
         rintro e w6 ⟨rfl, ub6, hd6, hn6, ht6⟩
         have HD6 := Lib.hid hd6
         have HN6 := Lib.hid (HN5.out.trans hn6 HT5.out.size)
         have ROW6 := Lib.hid (own_touch ROW5.out ht6 (fun k hk e => by have := own_lo ROW5.out k hk; have := HSZ7.out; omega))
         have HT6 : Hid (Touch (· = y) w w6) := Lib.hid (Touch.trans HT5.out ht6 (fun _ _ h => h))
         clear hd6 hn6 ht6 hO5
         by_cases hr20 : r2 = 0
         ·subst hr20
          have HX : Hid (Wal.open_ d = (some ⟨{ f := false, g := A, n := pre.length, dead := false }, sa, pre⟩, E2, 0)) := Lib.hid (by unfold Wal.open_; rw [if_neg (by simp [HDD.out]), HSH.out, if_neg hA0, HSRR.out, HBEST.out, HCC.out, if_neg (by simp)])
          go_wp2_with fail
          refine bodyPost_ret (results_tmp4 rfl _ _ _) rfl ?_
          rw [HX.out]
          exact ropen_done ROW6.out HSZ7.out HD6.out HN6.out HT6.out
         ·have HX : Hid (Wal.open_ d = (none, E2, 2)) := Lib.hid (by unfold Wal.open_; rw [if_neg (by simp [HDD.out]), HSH.out, if_neg hA0, HSRR.out, HBEST.out, HCC.out, if_pos hr20])
          have hrb2 : (r2 != 0) = true := by simp [hr20]
          go_wp2_with fail
          refine bodyPost_ret (results_tmp4 rfl _ _ _) rfl ?_
          rw [HX.out]
          exact ROpenEnds.refused HD6.out HN6.out HT6.out
        ·have HCC : Hid (Wal.cuts d false p' = (E, 0)) := Lib.hid (by unfold Wal.cuts; rw [HCE.out, if_neg (by simp), HG2.out]; unfold Wal.cutOther; rw [if_neg (by intro h0; apply ho; cases G2 with | nil => exact absurd rfl h0 | cons a b => simp)])
         have HX : Hid (Wal.open_ d = (some ⟨{ f := false, g := A, n := pre.length, dead := false }, sa, pre⟩, E, 0)) := Lib.hid (by unfold Wal.open_; rw [if_neg (by simp [HDD.out]), HSH.out, if_neg hA0, HSRR.out, HBEST.out, HCC.out, if_neg (by simp)])
         go_wp2_with fail
         refine bodyPost_ret (results_tmp4 rfl _ _ _) rfl ?_
         rw [HX.out]
         exact ropen_done ROW5.out HSZ7.out HD5.out HN5.out HT5.out
       ·have HX : Hid (Wal.open_ d = (none, E, 2)) := Lib.hid (by unfold Wal.open_; rw [if_neg (by simp [HDD.out]), HSH.out, if_neg hA0, HSRR.out, HBEST.out]; unfold Wal.cuts; rw [HCE.out, if_pos hr0, if_pos hr0])
        have hrb : (r != 0) = true := by simp [hr0]
        go_wp2_with fail
        refine bodyPost_ret (results_tmp4 rfl _ _ _) rfl ?_
        rw [HX.out]
        exact ROpenEnds.refused HD5.out HN5.out HT5.out
      ·have HCE : Hid (Wal.cutEnd d false p' = (d, 0)) := Lib.hid (by unfold Wal.cutEnd; (first | rw [HF0.out] | rw [HF1.out]); rw [if_neg hlt])
       obtain ⟨E, hE⟩ : ∃ E, d = E := ⟨_, rfl⟩
       have HD5 : Hid (RefAt w' y E ub) := Lib.hid (hE ▸ HD9.out)
       have HCE : Hid (Wal.cutEnd d false p' = (E, 0)) := Lib.hid (HCE.out.trans (by rw [hE]))
       clear hE
       have HN5 := Lib.hid (Newer.refl w ub)
       have HT5 := HT9
       have Q5 := Q9
       have ROW5 := ROW9
       obtain ⟨G2, hG2⟩ : ∃ G2, F1 = G2 := ⟨_, rfl⟩
       have HG2 : Hid (d.file (!false) = G2) := Lib.hid (by rw [← hG2]; first | exact HF0.out | exact HF1.out)
       have hO5 := cell_of Q5.out hc1
       rw [hG2] at hO5
       clear hG2
       by_cases ho : 0 < G2.length
       ·obtain ⟨r2, hr2⟩ : ∃ r, (E.cut 1 0).2 = r := ⟨_, rfl⟩
        obtain ⟨E2, hE2⟩ : ∃ E2, (E.cut 1 0).1 = E2 := ⟨_, rfl⟩
        have HCC : Hid (Wal.cuts d false p' = (E2, r2)) := Lib.hid (by unfold Wal.cuts; rw [HCE.out, if_neg (by simp), HG2.out]; unfold Wal.cutOther; rw [if_pos (by intro h0; rw [h0] at ho; simp at ho)]; exact Prod.ext hE2 hr2)
        have HR2 := Lib.hid hr2
        have HE2 := Lib.hid hE2
        clear hr2 hE2
        go_wp2_with fail
        refine (rcut_any y _ E _ 1 0 HD5.out).mono ?_
        rw [HR2.out, HE2.out]
        rintro e w6 ⟨rfl, ub6, hd6, hn6, ht6⟩
        have HD6 := Lib.hid hd6
        have HN6 := Lib.hid (HN5.out.trans hn6 HT5.out.size)
        have ROW6 := Lib.hid (own_touch ROW5.out ht6 (fun k hk e => by have := own_lo ROW5.out k hk; have := HSZ7.out; omega))
        have HT6 : Hid (Touch (· = y) w w6) := Lib.hid (Touch.trans HT5.out ht6 (fun _ _ h => h))
        clear hd6 hn6 ht6 hO5
        by_cases hr20 : r2 = 0
        ·subst hr20
         have HX : Hid (Wal.open_ d = (some ⟨{ f := false, g := A, n := pre.length, dead := false }, sa, pre⟩, E2, 0)) := Lib.hid (by unfold Wal.open_; rw [if_neg (by simp [HDD.out]), HSH.out, if_neg hA0, HSRR.out, HBEST.out, HCC.out, if_neg (by simp)])
         go_wp2_with fail
         refine bodyPost_ret (results_tmp4 rfl _ _ _) rfl ?_
         rw [HX.out]
         exact ropen_done ROW6.out HSZ7.out HD6.out HN6.out HT6.out
        ·have HX : Hid (Wal.open_ d = (none, E2, 2)) := Lib.hid (by unfold Wal.open_; rw [if_neg (by simp [HDD.out]), HSH.out, if_neg hA0, HSRR.out, HBEST.out, HCC.out, if_pos hr20])
         have hrb2 : (r2 != 0) = true := by simp [hr20]
         go_wp2_with fail
         refine bodyPost_ret (results_tmp4 rfl _ _ _) rfl ?_
         rw [HX.out]
         exact ROpenEnds.refused HD6.out HN6.out HT6.out
       ·have HCC : Hid (Wal.cuts d false p' = (E, 0)) := Lib.hid (by unfold Wal.cuts; rw [HCE.out, if_neg (by simp), HG2.out]; unfold Wal.cutOther; rw [if_neg (by intro h0; apply ho; cases G2 with | nil => exact absurd rfl h0 | cons a b => simp)])
        have HX : Hid (Wal.open_ d = (some ⟨{ f := false, g := A, n := pre.length, dead := false }, sa, pre⟩, E, 0)) := Lib.hid (by unfold Wal.open_; rw [if_neg (by simp [HDD.out]), HSH.out, if_neg hA0, HSRR.out, HBEST.out, HCC.out, if_neg (by simp)])
        go_wp2_with fail
        refine bodyPost_ret (results_tmp4 rfl _ _ _) rfl ?_
        rw [HX.out]
        exact ropen_done ROW5.out HSZ7.out HD5.out HN5.out HT5.out
end Go.Proofs.YtpjpknndfhablaaGreat
