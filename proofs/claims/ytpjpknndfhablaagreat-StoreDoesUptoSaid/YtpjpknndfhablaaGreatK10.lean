/- The closures of the log: New$1, Append$1, Sync$1, Checkpoint$1. Work that the power may break off: face, and its deferred closure. face: a piece of work on a log, and what it came to. The log's methods Sync, Append, Checkpoint. The log's methods Checkpoint, Room, Records, Dead, Clone; New. -/
import Derived.Shelf.Abstract
import Derived.Test.YtpjpknndfhablaaGreatK9
namespace Go.Proofs.YtpjpknndfhablaaGreat
open Go.RowKit
def own3 (c : Nat) (rb : Option Nat) (x : Nat) : Nat → Prop := fun k => own2 c rb k ∨ k = x
/-- What a piece of work on a log leaves. -/
structure Worked (x c : Nat) (l' : Wal.LS) (d d' : DS) (m : Nat) (rb : Option Nat) (w w' : World) : Prop where
 log : LogAt w' x c l'
 disk : ∃ rb', DiskAt w' c d' m rb' ∧ Newer w rb rb' ∧ (d'.dead = true → d.dead = false → rb' = none)
 touch : Touch (own3 c rb x) w w'
theorem own3_of {c : Nat} {rb : Option Nat} {x : Nat} {w w' : World} (h : Touch (own2 c rb) w w') : Touch (own3 c rb x) w w' := h.mono fun _ _ h => .inl h
theorem Worked.drew {x c : Nat} {l' : Wal.LS} {d d' : DS} {m : Nat} {rb : Option Nat} {w w' : World} (h : Worked x c l' d d' m rb w w') : Worked x c l' d d' m rb w w'.drew :=
 ⟨h.log, by obtain ⟨rb', h1, h2⟩ := h.disk; exact ⟨rb', h1.below ((Below.refl _ _).drew), h2⟩, h.touch.drew⟩
theorem DiskAt.setLog {w : World} {c : Nat} {d : DS} {m : Nat} {rb : Option Nat} (h : DiskAt w c d m rb) {x : Nat} {l : Wal.LS} (hl : LogAt w x c l) (i : Nat) (v : Value) : DiskAt (w.setCell ⟨x, i, none⟩ v) c d m rb :=
 h.touch ((Touch.refl (· = x) w).setCell _ (fun _ => rfl)) (fun _ hk e => hl.apart h (e ▸ hk))
theorem LogAt.setN {w : World} {x c : Nat} {l : Wal.LS} (h : LogAt w x c l) (n : Nat) : LogAt (w.setCell ⟨x, 3, none⟩ (.int .i64 n)) x c { l with n := n } := by
 have := heap_set (i := 3) (.int .i64 n) h
 simpa [LogAt, logBlock] using this
theorem LogAt.setDead {w : World} {x c : Nat} {l : Wal.LS} (h : LogAt w x c l) : LogAt (w.setCell ⟨x, 4, none⟩ (.bool true)) x c { l with dead := true } := by
 have := heap_set (i := 4) (.bool true) h
 simpa [LogAt, logBlock] using this
theorem cell_touch {S : Nat → Prop} {w w' : World} {b i : Nat} {v : Value} (h : w.cell? ⟨b, i, none⟩ = some v) (ht : Touch S w w') (hS : ¬ S b) : w'.cell? ⟨b, i, none⟩ = some v :=
 (World.cell?_of_block (a := ⟨b, i, none⟩) (ht.block b (World.block_lt_of_cell? _ _ h) hS)).trans h
set_option maxHeartbeats 4000000 in
set_option maxRecDepth 100000 in
theorem new1_any (x c bl : Nat) (w : World) (l : Wal.LS) (d : DS) (m : Nat) (rb : Option Nat) (hl : LogAt w x c l) (h : DiskAt w c d m rb) (hm : m < 5000000000000) (hb : w.cell? ⟨bl, 0, none⟩ = some (.pointer (some ⟨x, 0, none⟩))) :
  Calls Tryz.prog 87 #[.pointer (some ⟨bl, 0, none⟩)] w fun e w' => Ends (Wal.lays d false 1 []).2 e ∧ Worked x c l d (Wal.lays d false 1 []).1 (m + 1) rb w w' := by
 have HL := Lib.hid hl
 have HD := Lib.hid h
 have HAP := Lib.hid (hl.apart h)
 clear hl h
 go_enter Tryz.func87, Tryz.ntmps87
 go_wp2_with fail
 refine (lays_any x c w l d m rb false 1 [] HL.out HD.out hm (by decide) (by decide)).mono ?_
 rintro e w1 ⟨he, rb', hd1, hn1, ht1, hf1⟩
 have HW : Hid (Worked x c l d (Wal.lays d false 1 []).1 (m + 1) rb w w1) := Lib.hid ⟨HL.out.touch ht1 HAP.out, ⟨rb', hd1, hn1, hf1⟩, own3_of ht1⟩
 clear hd1 hn1 ht1 hf1
 rcases he with ⟨h0, rfl⟩ | ⟨h0, rfl⟩
 ·have H0 := Lib.hid h0
  clear h0
  go_wp2
  go_end0
  exact ⟨.inl ⟨H0.out, rfl⟩, HW.out⟩
 ·exact ⟨rfl, .inr ⟨h0, rfl⟩, HW.out⟩
set_option maxHeartbeats 4000000 in
set_option maxRecDepth 100000 in
theorem sync1_any (x c bl : Nat) (w : World) (l : Wal.LS) (d : DS) (m : Nat) (rb : Option Nat) (hl : LogAt w x c l) (h : DiskAt w c d m rb) (hb : w.cell? ⟨bl, 0, none⟩ = some (.pointer (some ⟨x, 0, none⟩))) (hbl : ¬ own2 c rb bl) :
  Calls Tryz.prog 138 #[.pointer (some ⟨bl, 0, none⟩)] w fun e w' => Ends d.sync.2 e ∧ Worked x c l d d.sync.1 m rb w w' := by
 obtain ⟨c0, _⟩ := hl.cells
 obtain ⟨n, hn⟩ : ∃ n, d.sync.2 = n := ⟨_, rfl⟩
 have HN := Lib.hid hn
 have HL := Lib.hid hl
 have HD := Lib.hid h
 have HAP := Lib.hid (hl.apart h)
 clear hl h hn
 go_enter Tryz.func138, Tryz.ntmps138
 go_wp2
 have hS0 : w.drew.cell? ⟨bl, 0, none⟩ = some (.pointer (some ⟨x, 0, none⟩)) ∧ w.drew.cell? ⟨x, 0, none⟩ = some (.pointer (some ⟨c, 0, none⟩)) := ⟨hb, c0⟩
 refine wp_region_heldL (S := fun w' => w'.cell? ⟨bl, 0, none⟩ = some (.pointer (some ⟨x, 0, none⟩)) ∧ w'.cell? ⟨x, 0, none⟩ = some (.pointer (some ⟨c, 0, none⟩))) (by kernel_rfl) ?_
 refine planned [0, 1, 2, 3, 4] ?_
 iterate 5 (refine planned_take (v := ?_) rfl (by kernel_rfl) (by kernel_rfl) (by kernel_rfl) (fun _ _ _ h => h) ?_ (by assumption) ?_; rotate_left; (focus (first | (refine Or.inr ⟨by rfl, ?_⟩; with_reducible rfl) | (refine Or.inl ⟨by rfl, ?_⟩; (intro w hSw; (try dsimp only at hSw); go_simp); try with_reducible rfl))); try simp only [Act.put, List.setIfInBounds_toArray, List.set_cons_zero, List.set_cons_succ])
 refine planned_end ?_
 refine wpAnyH_oneL (i := 5) rfl (by kernel_rfl) ?_
 intro K hK
 rw [if_pos (by rfl)]
 go_simp
 go_at_call 139
 refine (sync_anyN c _ d m rb (HD.out.below ((Below.refl _ _).drew))).mono ?_
 rw [HN.out]
 rintro e w3 ⟨rfl, rb', hd3, hn3, ht3, hf3⟩
 have hS3 : w3.cell? ⟨bl, 0, none⟩ = some (.pointer (some ⟨x, 0, none⟩)) ∧ w3.cell? ⟨x, 0, none⟩ = some (.pointer (some ⟨c, 0, none⟩)) := ⟨cell_touch hS0.1 ht3 hbl, cell_touch hS0.2 ht3 HAP.out⟩
 have HW : Hid (Worked x c l d d.sync.1 m rb w w3) := Lib.hid ⟨(HL.out.below ((Below.refl _ _).drew)).touch ht3 HAP.out, ⟨rb', hd3, hn3, fun _ h => hf3 h⟩, own3_of (Touch.trans (Touch.of_below ((Below.refl _ _).drew)) ht3 (fun _ _ h => h))⟩
 clear hd3 hn3 ht3 hf3
 refine hK _ _ hS3 ?_
 clear hK K
 try simp only [Act.put, List.setIfInBounds_toArray, List.set_cons_zero, List.set_cons_succ]
 refine wpAnyH_oneL (i := 6) rfl (by kernel_rfl) ?_
 intro K hK
 rw [if_pos (by rfl)]
 go_simp
 go_at_call 97
 by_cases hn0 : n = 0
 ·subst hn0
  refine (must_ok _ _).mono ?_
  rintro e w4 ⟨rfl, rfl⟩
  refine hK _ _ hS3 ?_
  clear hK K
  try simp only [Act.put, List.setIfInBounds_toArray, List.set_cons_zero, List.set_cons_succ]
  refine wpAnyH_done (by kernel_rfl) ?_ _
  go_wp2
  go_end0
  exact ⟨.inl ⟨HN.out, rfl⟩, HW.out⟩
 ·refine (must_bad _ n hn0 _).mono ?_
  rintro e w4 ⟨rfl, rfl⟩
  exact ⟨rfl, .inr ⟨by rw [HN.out]; exact hn0, rfl⟩, HW.out⟩
set_option maxHeartbeats 4000000 in
set_option maxRecDepth 100000 in
theorem wappend1_any (x c bl br : Nat) (w : World) (l : Wal.LS) (d : DS) (m : Nat) (rb : Option Nat) (s : List UInt8) (hl : LogAt w x c l) (h : DiskAt w c d m rb) (hm : m < 5000000000000) (hs : s.length ≤ 65536) (hln : l.n ≤ 4611686018427387904)
  (hb : w.cell? ⟨bl, 0, none⟩ = some (.pointer (some ⟨x, 0, none⟩))) (hbs : w.cell? ⟨br, 0, none⟩ = some (.string ⟨s.toArray⟩)) (hbl : ¬ own2 c rb bl) (hbr : ¬ own2 c rb br) (_hblx : bl ≠ x) :
  Calls Tryz.prog 125 #[.pointer (some ⟨bl, 0, none⟩), .pointer (some ⟨br, 0, none⟩)] w fun e w' => Ends (d.append (DS.fi l.f) (Wal.frame s)).2 e ∧
   Worked x c (if (d.append (DS.fi l.f) (Wal.frame s)).2 = 0 then { l with n := l.n + 1 } else l) d (d.append (DS.fi l.f) (Wal.frame s)).1 (m + 1) rb w w' := by
 obtain ⟨c0, c1, _⟩ := hl.cells
 obtain ⟨B, hB⟩ : ∃ B, Wal.frame s = B := ⟨_, rfl⟩
 have hBl : B.length = 8 + s.length := by rw [← hB]; exact Wal.frame_length _
 rw [hB]
 obtain ⟨n, hn⟩ : ∃ n, (d.append (DS.fi l.f) B).2 = n := ⟨_, rfl⟩
 have HN := Lib.hid hn
 have HB := Lib.hid hB
 have HL := Lib.hid hl
 have HD := Lib.hid h
 have HAP := Lib.hid (hl.apart h)
 clear hl h hn hB
 go_enter Tryz.func125, Tryz.ntmps125
 go_wp2
 have hS0 : w.drew.cell? ⟨bl, 0, none⟩ = some (.pointer (some ⟨x, 0, none⟩)) ∧ w.drew.cell? ⟨x, 0, none⟩ = some (.pointer (some ⟨c, 0, none⟩)) ∧ w.drew.cell? ⟨x, 1, none⟩ = some (.int .i64 (DS.fi l.f)) ∧ w.drew.cell? ⟨br, 0, none⟩ = some (.string ⟨s.toArray⟩) := ⟨hb, c0, c1, hbs⟩
 refine wp_region_heldL (S := fun w' => w'.cell? ⟨bl, 0, none⟩ = some (.pointer (some ⟨x, 0, none⟩)) ∧ w'.cell? ⟨x, 0, none⟩ = some (.pointer (some ⟨c, 0, none⟩)) ∧ w'.cell? ⟨x, 1, none⟩ = some (.int .i64 (DS.fi l.f)) ∧ w'.cell? ⟨br, 0, none⟩ = some (.string ⟨s.toArray⟩)) (by kernel_rfl) ?_
 refine planned [0, 1, 2, 3, 4, 5, 6, 7, 8, 9] ?_
 iterate 10 (refine planned_take (v := ?_) rfl (by kernel_rfl) (by kernel_rfl) (by kernel_rfl) (fun _ _ _ h => h) ?_ (by assumption) ?_; rotate_left; (focus (first | (refine Or.inr ⟨by rfl, ?_⟩; with_reducible rfl) | (refine Or.inl ⟨by rfl, ?_⟩; (intro w hSw; (try dsimp only at hSw); go_simp); try with_reducible rfl))); try simp only [Act.put, List.setIfInBounds_toArray, List.set_cons_zero, List.set_cons_succ])
 refine planned_end ?_
 refine wpAnyH_oneL (i := 10) rfl (by kernel_rfl) ?_
 intro K hK
 rw [if_pos (by rfl)]
 go_simp
 go_at_call 127
 refine (framed_any s _ (by omega)).mono ?_
 rw [HB.out]
 rintro e w2 ⟨rfl, b2⟩
 have B2 := Lib.hid b2
 have hS2 : w2.cell? ⟨bl, 0, none⟩ = some (.pointer (some ⟨x, 0, none⟩)) ∧ w2.cell? ⟨x, 0, none⟩ = some (.pointer (some ⟨c, 0, none⟩)) ∧ w2.cell? ⟨x, 1, none⟩ = some (.int .i64 (DS.fi l.f)) ∧ w2.cell? ⟨br, 0, none⟩ = some (.string ⟨s.toArray⟩) := ⟨cell_later b2 hS0.1, cell_later b2 hS0.2.1, cell_later b2 hS0.2.2.1, cell_later b2 hS0.2.2.2⟩
 clear b2
 refine hK _ _ hS2 ?_
 clear hK K
 try simp only [Act.put, List.setIfInBounds_toArray, List.set_cons_zero, List.set_cons_succ]
 refine wpAnyH_oneL (i := 11) rfl (by kernel_rfl) ?_
 intro K hK
 rw [if_pos (by rfl)]
 go_simp
 go_at_call 126
 have B3 := Lib.hid (bthen ((Below.refl _ w).drew) B2.out)
 refine (append_anyN c _ d m rb (DS.fi l.f) B (HD.out.below B3.out) (by omega) hm).mono ?_
 rw [HN.out]
 rintro e w3 ⟨rfl, rb', hd3, hn3, ht3, hf3⟩
 have hS3 : w3.cell? ⟨bl, 0, none⟩ = some (.pointer (some ⟨x, 0, none⟩)) ∧ w3.cell? ⟨x, 0, none⟩ = some (.pointer (some ⟨c, 0, none⟩)) ∧ w3.cell? ⟨x, 1, none⟩ = some (.int .i64 (DS.fi l.f)) ∧ w3.cell? ⟨br, 0, none⟩ = some (.string ⟨s.toArray⟩) := ⟨cell_touch hS2.1 ht3 hbl, cell_touch hS2.2.1 ht3 HAP.out, cell_touch hS2.2.2.1 ht3 HAP.out, cell_touch hS2.2.2.2 ht3 hbr⟩
 have HL3 : Hid (LogAt w3 x c l) := Lib.hid ((HL.out.below B3.out).touch ht3 HAP.out)
 have HP : Hid (DiskAt w3 c (d.append (DS.fi l.f) B).1 (m + 1) rb' ∧ Newer w rb rb' ∧ ((d.append (DS.fi l.f) B).1.dead = true → d.dead = false → rb' = none)) := Lib.hid ⟨hd3, fun k hk => (hn3 k hk).imp id (fun h => Nat.le_trans B3.out.size h), hf3⟩
 have HT3 : Hid (Touch (own3 c rb x) w w3) := Lib.hid (own3_of (Touch.trans (Touch.of_below B3.out) ht3 (fun _ _ h => h)))
 clear hd3 hn3 ht3 hf3
 refine hK _ _ hS3 ?_
 clear hK K
 try simp only [Act.put, List.setIfInBounds_toArray, List.set_cons_zero, List.set_cons_succ]
 refine wpAnyH_oneL (i := 12) rfl (by kernel_rfl) ?_
 intro K hK
 rw [if_pos (by rfl)]
 go_simp
 go_at_call 97
 by_cases hn0 : n = 0
 ·subst hn0
  refine (must_ok _ _).mono ?_
  rintro e w4 ⟨rfl, rfl⟩
  refine hK _ _ hS3 ?_
  clear hK K
  try simp only [Act.put, List.setIfInBounds_toArray, List.set_cons_zero, List.set_cons_succ]
  refine wpAnyH_done (by kernel_rfl) ?_ _
  obtain ⟨_, _, _, e3, _, ef, _⟩ := HL3.out.cells
  have f3 := ef 3
  have d0 := hS3.1
  clear hS3 hS2 hS0 ef
  go_wp2
  go_end0
  refine ⟨.inl ⟨by first | rfl | exact HN.out, rfl⟩, ?_⟩
  try rw [if_pos HN.out]
  exact ⟨HL3.out.setN (l.n + 1), ⟨rb', HP.out.1.setLog HL3.out 3 _, HP.out.2⟩, HT3.out.setCell _ (fun _ => .inr rfl)⟩
 ·refine (must_bad _ n hn0 _).mono ?_
  rintro e w4 ⟨rfl, rfl⟩
  refine ⟨rfl, .inr ⟨by rw [HN.out]; exact hn0, rfl⟩, ?_⟩
  rw [HN.out, if_neg hn0]
  exact ⟨HL3.out, ⟨rb', HP.out⟩, HT3.out⟩
theorem Newer.later {w w1 : World} {rb rb' : Option Nat} (h : Newer w1 rb rb') (hs : w.heap.size ≤ w1.heap.size) : Newer w rb rb' := fun k hk => (h k hk).imp id (fun h => Nat.le_trans hs h)
theorem worked_set3 {x c : Nat} {l : Wal.LS} {d E : DS} {m : Nat} {rb rb2 : Option Nat} {w w5 : World} {F2 : Int} (hl : LogAt w5 x c l) (hp : DiskAt w5 c E m rb2 ∧ Newer w rb rb2 ∧ (E.dead = true → d.dead = false → rb2 = none)) (ht : Touch (own3 c rb x) w w5) (hf : DS.fi (!l.f) = F2) :
  Worked x c { l with f := !l.f, g := l.g + 1, n := 0 } d E m rb w (((w5.setCell ⟨x, 1, none⟩ (.int .i64 F2)).setCell ⟨x, 2, none⟩ (.int .u64 ((l.g : Int) + 1))).setCell ⟨x, 3, none⟩ (.int .i64 0)) := by
 subst hf
 have s1 : LogAt (w5.setCell ⟨x, 1, none⟩ (.int .i64 (DS.fi (!l.f)))) x c { l with f := !l.f } := by
  have := heap_set (i := 1) (.int .i64 (DS.fi (!l.f))) hl
  simpa [LogAt, logBlock] using this
 have s2 : LogAt ((w5.setCell ⟨x, 1, none⟩ (.int .i64 (DS.fi (!l.f)))).setCell ⟨x, 2, none⟩ (.int .u64 ((l.g : Int) + 1))) x c { l with f := !l.f, g := l.g + 1 } := by
  have := heap_set (i := 2) (.int .u64 ((l.g : Int) + 1)) s1
  simpa [LogAt, logBlock] using this
 have t1 := ht.setCell (a := ⟨x, 1, none⟩) (.int .i64 (DS.fi (!l.f))) (fun _ => .inr rfl)
 have t2 := t1.setCell (a := ⟨x, 2, none⟩) (.int .u64 ((l.g : Int) + 1)) (fun _ => .inr rfl)
 have t3 := t2.setCell (a := ⟨x, 3, none⟩) (.int .i64 0) (fun _ => .inr rfl)
 exact ⟨s2.setN 0, ⟨rb2, ((hp.1.setLog hl 1 _).setLog s1 2 _).setLog s2 3 _, hp.2⟩, t3⟩
/-- What Checkpoint's work makes of the log and of the disk. -/
def cpD (l : Wal.LS) (d : DS) (snap : List UInt8) : DS × Int :=
 if (Wal.lays d (!l.f) (l.g + 1) snap).2 ≠ 0 then Wal.lays d (!l.f) (l.g + 1) snap else (Wal.lays d (!l.f) (l.g + 1) snap).1.cut (DS.fi l.f) 0
def cpL (l : Wal.LS) (r : Int) : Wal.LS := if r = 0 then { l with f := !l.f, g := l.g + 1, n := 0 } else l
theorem lays_died {d : DS} {f : Bool} {g : Nat} {snap : List UInt8} (h : (Wal.lays d f g snap).2 = 0) : (Wal.lays d f g snap).1.dead = d.dead ∧ d.dead = false := by
 unfold Wal.lays at h ⊢
 split at h
 ·rename_i h1; exact absurd h h1
 ·rename_i h1
  rw [if_neg h1]
  replace h1 := Classical.not_not.1 h1
  generalize hE : (d.append (DS.fi f) (Wal.head g snap)).1 = E at h ⊢
  have hd : d.dead = false := by
   cases hd : d.dead
   ·rfl
   ·unfold DS.append at h1; rw [if_pos hd] at h1; cases h1
  have hEd : E.dead = false := by
   rw [← hE]
   unfold DS.append at h1 ⊢
   rw [if_neg (by simp [hd]), DS.fileNo_of] at h1 ⊢
   simp only at h1 ⊢
   split
   ·exact hd
   ·rename_i h2
    rw [if_neg h2] at h1
    split
    ·rename_i h3; rw [if_pos h3] at h1; cases h1
    ·exact hd
  refine ⟨?_, hd⟩
  rw [hd]
  unfold DS.sync at h ⊢
  rw [if_neg (by simp [hEd])] at h ⊢
  split
  ·rename_i h3; rw [if_pos h3] at h; cases h
  ·exact hEd
set_option maxHeartbeats 4000000 in
set_option maxRecDepth 100000 in
theorem check1_any (x c bl br : Nat) (w : World) (l : Wal.LS) (d : DS) (m : Nat) (rb : Option Nat) (s : List UInt8) (hl : LogAt w x c l) (h : DiskAt w c d m rb) (hm : m < 5000000000000) (hs : s.length ≤ 524288) (hlg : l.g < 4611686018427387904)
  (hb : w.cell? ⟨bl, 0, none⟩ = some (.pointer (some ⟨x, 0, none⟩))) (hbs : w.cell? ⟨br, 0, none⟩ = some (.string ⟨s.toArray⟩)) (hbl : ¬ own2 c rb bl) (hbr : ¬ own2 c rb br) (_hblx : bl ≠ x) (hblw : bl < w.heap.size) :
  Calls Tryz.prog 155 #[.pointer (some ⟨bl, 0, none⟩), .pointer (some ⟨br, 0, none⟩)] w fun e w' => Ends (cpD l d s).2 e ∧ Worked x c (cpL l (cpD l d s).2) d (cpD l d s).1 (m + 1) rb w w' := by
 obtain ⟨c0, c1, c2, _⟩ := hl.cells
 obtain ⟨R, n, hR⟩ : ∃ R n, Wal.lays d (!l.f) (l.g + 1) s = (R, n) := ⟨_, _, rfl⟩
 have HR := Lib.hid hR
 have HL := Lib.hid hl
 have HD := Lib.hid h
 have HAP := Lib.hid (hl.apart h)
 have hfi : (1 : Int) - DS.fi l.f = DS.fi (!l.f) := by cases l.f <;> rfl
 have hg1 : ((l.g : Int) + 1) = ((l.g + 1 : Nat) : Int) := by omega
 have HFI := Lib.hid hfi
 have HG1 := Lib.hid hg1
 have hf01 : DS.fi l.f = 0 ∨ DS.fi l.f = 1 := by cases l.f <;> simp [DS.fi]
 obtain ⟨F, hF⟩ : ∃ F, DS.fi l.f = F := ⟨_, rfl⟩
 obtain ⟨F2, hF2⟩ : ∃ F2, DS.fi (!l.f) = F2 := ⟨_, rfl⟩
 have HF := Lib.hid hF
 have HF2 := Lib.hid hF2
 rw [hF] at hf01 c1 hfi
 rw [hF2] at hfi
 have hwr : IntKind.i64.wrap (1 - F) = F2 := by rw [IntWalk.i64_in _ (by omega)]; exact hfi
 have hwg : IntKind.u64.wrap ((l.g : Int) + 1) = (l.g : Int) + 1 := IntWalk.u64_in _ ⟨by omega, by omega⟩
 have hwr2 : IntKind.i64.wrap F2 = F2 := by rw [← hfi]; exact IntWalk.i64_in _ (by omega)
 clear hl h hR hF hF2 hg1
 go_enter Tryz.func155, Tryz.ntmps155
 go_wp2
 have hS0 : w.drew.cell? ⟨bl, 0, none⟩ = some (.pointer (some ⟨x, 0, none⟩)) ∧ w.drew.cell? ⟨x, 1, none⟩ = some (.int .i64 F) ∧ w.drew.cell? ⟨x, 2, none⟩ = some (.int .u64 l.g) ∧ w.drew.cell? ⟨br, 0, none⟩ = some (.string ⟨s.toArray⟩) := ⟨hb, c1, c2, hbs⟩
 refine wp_region_heldL (S := fun w' => w'.cell? ⟨bl, 0, none⟩ = some (.pointer (some ⟨x, 0, none⟩)) ∧ w'.cell? ⟨x, 1, none⟩ = some (.int .i64 F) ∧ w'.cell? ⟨x, 2, none⟩ = some (.int .u64 l.g) ∧ w'.cell? ⟨br, 0, none⟩ = some (.string ⟨s.toArray⟩)) (by kernel_rfl) ?_
 refine planned [0, 1, 2, 3, 4, 5, 6, 7, 8, 9, 10, 11] ?_
 iterate 12 (refine planned_take (v := ?_) rfl (by kernel_rfl) (by kernel_rfl) (by kernel_rfl) (fun _ _ _ h => h) ?_ (by assumption) ?_; rotate_left; (focus (first | (refine Or.inr ⟨by rfl, ?_⟩; with_reducible rfl) | (refine Or.inl ⟨by rfl, ?_⟩; (intro w hSw; (try dsimp only at hSw); go_simp); try with_reducible rfl))); try simp only [Act.put, List.setIfInBounds_toArray, List.set_cons_zero, List.set_cons_succ])
 refine planned_end ?_
 refine wpAnyH_oneL (i := 12) rfl (by kernel_rfl) ?_
 intro K hK
 rw [if_pos (by rfl)]
 go_simp
 go_at_call 88
 rw [← HF2.out, HG1.out]
 refine (lays_any x c _ l d m rb (!l.f) (l.g + 1) s (HL.out.below ((Below.refl _ _).drew)) (HD.out.below ((Below.refl _ _).drew)) hm (by omega) hs).mono ?_
 rw [HR.out]
 rintro e w3 ⟨he, rb', hd3, hn3, ht3, hf3⟩
 have hn3' : Newer w rb rb' := hn3
 have ht3' : Touch (own2 c rb) w w3 := Touch.trans (Touch.of_below ((Below.refl _ _).drew)) ht3 (fun _ _ h => h)
 have hS3 : w3.cell? ⟨bl, 0, none⟩ = some (.pointer (some ⟨x, 0, none⟩)) ∧ w3.cell? ⟨x, 1, none⟩ = some (.int .i64 F) ∧ w3.cell? ⟨x, 2, none⟩ = some (.int .u64 l.g) ∧ w3.cell? ⟨br, 0, none⟩ = some (.string ⟨s.toArray⟩) := ⟨cell_touch hS0.1 ht3 hbl, cell_touch hS0.2.1 ht3 HAP.out, cell_touch hS0.2.2.1 ht3 HAP.out, cell_touch hS0.2.2.2 ht3 hbr⟩
 have HL3 : Hid (LogAt w3 x c l) := Lib.hid (HL.out.touch ht3' HAP.out)
 have HD3 := Lib.hid hd3
 have HN3 := Lib.hid hn3'
 have HT3 := Lib.hid ht3'
 have HF3 := Lib.hid hf3
 clear hd3 hn3 hn3' ht3 ht3' hf3
 rcases he with ⟨h0, rfl⟩ | ⟨h0, rfl⟩
 ·replace h0 : n = 0 := h0
  subst h0
  have hdd := lays_died (d := d) (f := !l.f) (g := l.g + 1) (snap := s) (by rw [HR.out])
  rw [HR.out] at hdd
  have HDD := Lib.hid hdd
  obtain ⟨q, hq⟩ : ∃ q, (R.cut (DS.fi l.f) 0).2 = q := ⟨_, rfl⟩
  have HQ := Lib.hid hq
  have HCP : Hid (cpD l d s = R.cut (DS.fi l.f) 0) := Lib.hid (by unfold cpD; rw [HR.out, if_neg (by simp)])
  clear hq hdd
  refine hK _ _ hS3 ?_
  clear hK K
  try simp only [Act.put, List.setIfInBounds_toArray, List.set_cons_zero, List.set_cons_succ]
  refine wpAnyH_done (by kernel_rfl) ?_ _
  clear hS0 hb hbs c0 c1 c2
  go_wp2
  obtain ⟨e0, e1, _⟩ := HL3.out.cells
  have hS4 : w3.drew.cell? ⟨bl, 0, none⟩ = some (.pointer (some ⟨x, 0, none⟩)) ∧ w3.drew.cell? ⟨x, 0, none⟩ = some (.pointer (some ⟨c, 0, none⟩)) ∧ w3.drew.cell? ⟨x, 1, none⟩ = some (.int .i64 F) := ⟨hS3.1, e0, hS3.2.1⟩
  refine wp_region_heldL (S := fun w' => w'.cell? ⟨bl, 0, none⟩ = some (.pointer (some ⟨x, 0, none⟩)) ∧ w'.cell? ⟨x, 0, none⟩ = some (.pointer (some ⟨c, 0, none⟩)) ∧ w'.cell? ⟨x, 1, none⟩ = some (.int .i64 F)) (by kernel_rfl) ?_
  refine planned [0, 1, 2, 3, 4, 5, 6, 7, 8] ?_
  iterate 9 (refine planned_take (v := ?_) rfl (by kernel_rfl) (by kernel_rfl) (by kernel_rfl) (fun _ _ _ h => h) ?_ (by assumption) ?_; rotate_left; (focus (first | (refine Or.inr ⟨by rfl, ?_⟩; with_reducible rfl) | (refine Or.inl ⟨by rfl, ?_⟩; (intro w hSw; (try dsimp only at hSw); go_simp); try with_reducible rfl))); try simp only [Act.put, List.setIfInBounds_toArray, List.set_cons_zero, List.set_cons_succ])
  refine planned_end ?_
  refine wpAnyH_oneL (i := 9) rfl (by kernel_rfl) ?_
  intro K hK
  rw [if_pos (by rfl)]
  go_simp
  go_at_call 98
  rw [← HF.out]
  have hap3 := HL3.out.apart HD3.out
  have hbl3 : ¬ own2 c rb' bl := fun ho => by
   rcases ho with ho | ho
   ·exact hbl (.inl ho)
   ·rcases HN3.out _ ho with h1 | h1
    ·exact hbl (.inr h1)
    ·omega
  refine (cut_anyN c _ R (m + 1) rb' (DS.fi l.f) 0 (HD3.out.below ((Below.refl _ _).drew))).mono ?_
  rw [HQ.out]
  rintro e w5 ⟨rfl, rb2, hd5, hn5, ht5, hf5⟩
  have hS5 : w5.cell? ⟨bl, 0, none⟩ = some (.pointer (some ⟨x, 0, none⟩)) ∧ w5.cell? ⟨x, 0, none⟩ = some (.pointer (some ⟨c, 0, none⟩)) ∧ w5.cell? ⟨x, 1, none⟩ = some (.int .i64 F) := ⟨cell_touch hS4.1 ht5 hbl3, cell_touch hS4.2.1 ht5 hap3, cell_touch hS4.2.2 ht5 hap3⟩
  have HL5 : Hid (LogAt w5 x c l) := Lib.hid ((HL3.out.below ((Below.refl _ _).drew)).touch ht5 hap3)
  have HP5 : Hid (DiskAt w5 c (R.cut (DS.fi l.f) 0).1 (m + 1) rb2 ∧ Newer w rb rb2 ∧ ((R.cut (DS.fi l.f) 0).1.dead = true → d.dead = false → rb2 = none)) := Lib.hid ⟨hd5, HN3.out.trans hn5 HT3.out.size, fun h1 h2 => hf5 h1 (HDD.out.1.trans h2)⟩
  have HT5 : Hid (Touch (own2 c rb) w w5) := Lib.hid (own2_trans HT3.out HN3.out (Touch.trans (Touch.of_below ((Below.refl _ _).drew)) ht5 (fun _ _ h => h)))
  clear hd5 hn5 ht5 hf5 hap3 hbl3
  refine hK _ _ hS5 ?_
  clear hK K
  try simp only [Act.put, List.setIfInBounds_toArray, List.set_cons_zero, List.set_cons_succ]
  refine wpAnyH_oneL (i := 10) rfl (by kernel_rfl) ?_
  intro K hK
  rw [if_pos (by rfl)]
  go_simp
  go_at_call 97
  by_cases hq0 : q = 0
  ·subst hq0
   refine (must_ok _ _).mono ?_
   rintro e w6 ⟨rfl, rfl⟩
   refine hK _ _ hS5 ?_
   clear hK K
   try simp only [Act.put, List.setIfInBounds_toArray, List.set_cons_zero, List.set_cons_succ]
   refine wpAnyH_done (by kernel_rfl) ?_ _
   clear hS3 hS4 e0 e1
   obtain ⟨_, k1, k2, k3, _, kf, _⟩ := HL5.out.cells
   rw [HF.out] at k1
   have k0 := hS5.1
   have kf1 := kf 1
   have kf2 := kf 2
   have kf3 := kf 3
   clear hS5 kf
   go_wp2
   go_region
   go_end0
   rw [HCP.out, HQ.out]
   refine ⟨.inl ⟨rfl, rfl⟩, Worked.drew ?_⟩
   unfold cpL
   rw [if_pos rfl]
   exact worked_set3 HL5.out HP5.out (own3_of HT5.out) HF2.out
  ·refine (must_bad _ q hq0 _).mono ?_
   rintro e w6 ⟨rfl, rfl⟩
   refine ⟨rfl, ?_⟩
   rw [HCP.out, HQ.out]
   refine ⟨.inr ⟨hq0, rfl⟩, ?_⟩
   unfold cpL
   rw [if_neg hq0]
   exact ⟨HL5.out, ⟨rb2, HP5.out⟩, own3_of HT5.out⟩
 ·refine ⟨rfl, ?_⟩
  have HCP : cpD l d s = (R, n) := by unfold cpD; rw [HR.out, if_pos h0]
  rw [HCP]
  refine ⟨.inr ⟨h0, rfl⟩, ?_⟩
  unfold cpL
  rw [if_neg h0]
  exact ⟨HL3.out, ⟨rb', HD3.out, HN3.out, HF3.out⟩, own3_of HT3.out⟩
end Go.Proofs.YtpjpknndfhablaaGreat
namespace Go.Proofs.YtpjpknndfhablaaGreat
open Go.RowKit
section
variable {P : Program} {ol tl : List Oper} {Q : Exit → Act → List Frame → World → Prop} {i : Nat} {rest : List Nat} {a : Act} {cs : List Frame} {w w' : World} {o : Oper}
/-- One operation of a deferred function's region that yields a value. -/
theorem wpOpsS_value {v : Value} (hi : ol.drop i = o :: tl) (hw : Region.wanted o (yielded ol.toArray a.tmps) = true) (hr : (execOp a.eval o).run P w = .ok (.value v) w') (h : wpOpsS P ol.toArray Q rest (a.put o.dst v) cs w') : wpOpsS P ol.toArray Q (i :: rest) a cs w := by
 simp only [wpOpsS, at_drop hi, hw, if_true, hr]
 exact h
theorem wpOpsS_skip (hi : ol.drop i = o :: tl) (hw : Region.wanted o (yielded ol.toArray a.tmps) = true) (hr : (execOp a.eval o).run P w = .ok .skip w') (h : wpOpsS P ol.toArray Q rest (a.put o.dst undef) cs w') : wpOpsS P ol.toArray Q (i :: rest) a cs w := by
 simp only [wpOpsS, at_drop hi, hw, if_true, hr]
 exact h
/-- recover, where the frame below panics. -/
theorem wpOpsS_recover {v : Value} {cs' : List Frame} (hi : ol.drop i = o :: tl) (hw : Region.wanted o (yielded ol.toArray a.tmps) = true) (hr : (execOp a.eval o).run P w = .ok .recover w') (hc : recoverD cs = some (v, cs')) (h : wpOpsS P ol.toArray Q rest (a.put o.dst v) cs' w') : wpOpsS P ol.toArray Q (i :: rest) a cs w := by
 simp only [wpOpsS, at_drop hi, hw, if_true, hr, hc]
 exact h
theorem wpOpsS_idle (hi : ol.drop i = o :: tl) (hw : Region.wanted o (yielded ol.toArray a.tmps) = true) (hr : (execOp a.eval o).run P w = .ok .recover w') (hc : recoverD cs = none) (h : wpOpsS P ol.toArray Q rest (a.put o.dst .nilIface) cs w') : wpOpsS P ol.toArray Q (i :: rest) a cs w := by
 simp only [wpOpsS, at_drop hi, hw, if_true, hr, hc]
 exact h
theorem wpS_regionL {id : Nat} (h : wpOpsS P ol.toArray Q (List.range ol.length) a cs w) : (Code.region id ol.toArray false).wpS P Q a cs w := wpS_region (by simpa using h)
end
set_option maxHeartbeats 2000000 in
set_option maxRecDepth 100000 in
theorem catch_gone (b0 b1 x c : Nat) (l : Wal.LS) (w : World) (v : Value) (older : List PanicEntry) (h0 : w.cell? ⟨b0, 0, none⟩ = some (.pointer (some ⟨x, 0, none⟩))) (hl : LogAt w x c l) (h1 : w.cell? ⟨b1, 0, none⟩ = some v) (hz : w.frozen? ⟨b1, 0, none⟩ = false) (_hne : b1 ≠ x) :
  CallsD Tryz.prog 140 #[.pointer (some ⟨b0, 0, none⟩), .pointer (some ⟨b1, 0, none⟩)] (.panicking ({ v := goneV, recovered := false } :: older)) w fun e u' w' =>
   e = .returned (.tuple #[]) ∧ u' = .panicking ({ v := goneV, recovered := true } :: older) ∧ w' = ((w.alloc (.cells #[] 198)).setCell ⟨x, 4, none⟩ (.bool true)).setCell ⟨b1, 0, none⟩ (.int .i64 2) := by
 obtain ⟨_, _, _, _, c4, cf, _⟩ := hl.cells
 have cf4 := cf 4
 refine callsD_of_wpS Tryz.func140 rfl fun c₀ cs hu => ?_
 simp only [Tryz.ntmps140, List.size_toArray, List.length_cons, List.length_nil, Nat.reduceAdd, Nat.reduceSub, Array.replicate_succ, Array.replicate_zero, List.push_toArray, List.append_toArray, List.nil_append, List.cons_append]
 apply wpS_seq
 refine wpS_regionL ?_
 refine wpOpsS_recover (i := 0) (w' := w) rfl (by rfl) (by rfl) (v := goneV) (cs' := { c₀ with mode := .panicking ({ v := goneV, recovered := true } :: older) } :: cs) (by simp only [recoverD, hu]) ?_
 try simp only [Act.put, List.setIfInBounds_toArray, List.set_cons_zero, List.set_cons_succ]
 refine wpOpsS_value (i := 1) (w' := w) (v := .tuple #[.agg #[], .bool true]) rfl (by rfl) (by kernel_rfl) ?_
 try simp only [Act.put, List.setIfInBounds_toArray, List.set_cons_zero, List.set_cons_succ]
 refine wpOpsS_value (i := 2) (w' := w) (v := .tuple #[.agg #[], .bool true]) rfl (by rfl) (by rfl) ?_
 try simp only [Act.put, List.setIfInBounds_toArray, List.set_cons_zero, List.set_cons_succ]
 refine wpOpsS_value (i := 3) (w' := w) (v := .agg #[]) rfl (by rfl) (by rfl) ?_
 try simp only [Act.put, List.setIfInBounds_toArray, List.set_cons_zero, List.set_cons_succ]
 refine wpOpsS_value (i := 4) (w' := w) (v := .bool true) rfl (by rfl) (by rfl) ?_
 try simp only [Act.put, List.setIfInBounds_toArray, List.set_cons_zero, List.set_cons_succ]
 refine wpOpsS_value (i := 5) (w' := w.alloc (.cells #[] 198)) (v := .pointer (some ⟨w.heap.size, 0, none⟩)) rfl (by rfl) (by kernel_rfl) ?_
 try simp only [Act.put, List.setIfInBounds_toArray, List.set_cons_zero, List.set_cons_succ]
 refine wpOpsS_skip (i := 6) (w' := w.alloc (.cells #[] 198)) rfl (by rfl) (by kernel_rfl) ?_
 try simp only [Act.put]
 refine wpOpsS_value (i := 7) (w' := w.alloc (.cells #[] 198)) (v := .bool true) rfl (by rfl) (by rfl) ?_
 try simp only [Act.put, List.setIfInBounds_toArray, List.set_cons_zero, List.set_cons_succ]
 have hb := balloc w (.cells #[] 198)
 have h0' := cell_later hb h0
 have h1' := cell_later hb h1
 have hl' := hl.below hb
 obtain ⟨_, _, _, _, c4', cf', _⟩ := hl'.cells
 have cf4' := cf' 4
 have hz' : (w.alloc (.cells #[] 198)).frozen? ⟨b1, 0, none⟩ = false := (hb.frozen (p := ⟨b1, 0, none⟩) (World.block_lt_of_cell? _ _ h1)).trans hz
 obtain ⟨W1, hW1⟩ : ∃ W1, w.alloc (.cells #[] 198) = W1 := ⟨_, rfl⟩
 rw [hW1] at h0' h1' c4' cf4' hz' ⊢
 have h1'' : (W1.setCell ⟨x, 4, none⟩ (.bool true)).cell? ⟨b1, 0, none⟩ = some v := by
  rw [World.cell?_setCell_other _ _ _ _ (by intro h; simp only [Addr.mk.injEq] at h; omega)]; exact h1'
 have hz'' : (W1.setCell ⟨x, 4, none⟩ (.bool true)).frozen? ⟨b1, 0, none⟩ = false := by rw [World.frozen?_setCell]; exact hz'
 clear hW1 hb h0 h1 hz hl hl' cf cf' c4 cf4
 change Code.wpS _ _ _ _ _ _
 refine wpS_of_wp ?_
 go_wp2
 exact ⟨rfl, _, rfl, _, results_none rfl _ _ _, rfl, rfl, rfl⟩
set_option maxHeartbeats 2000000 in
set_option maxRecDepth 100000 in
theorem catch_idle (b0 b1 : Nat) (w : World) :
  CallsD Tryz.prog 140 #[.pointer (some ⟨b0, 0, none⟩), .pointer (some ⟨b1, 0, none⟩)] .returning w fun e u' w' => e = .returned (.tuple #[]) ∧ u' = .returning ∧ w' = w.alloc (.cells #[] 198) := by
 refine callsD_of_wpS Tryz.func140 rfl fun c₀ cs hu => ?_
 simp only [Tryz.ntmps140, List.size_toArray, List.length_cons, List.length_nil, Nat.reduceAdd, Nat.reduceSub, Array.replicate_succ, Array.replicate_zero, List.push_toArray, List.append_toArray, List.nil_append, List.cons_append]
 apply wpS_seq
 refine wpS_regionL ?_
 refine wpOpsS_idle (i := 0) (w' := w) rfl (by rfl) (by rfl) (by simp only [recoverD, hu]) ?_
 try simp only [Act.put, List.setIfInBounds_toArray, List.set_cons_zero, List.set_cons_succ]
 refine wpOpsS_value (i := 1) (w' := w) (v := .tuple #[.agg #[], .bool false]) rfl (by rfl) (by kernel_rfl) ?_
 try simp only [Act.put, List.setIfInBounds_toArray, List.set_cons_zero, List.set_cons_succ]
 refine wpOpsS_value (i := 2) (w' := w) (v := .tuple #[.agg #[], .bool false]) rfl (by rfl) (by rfl) ?_
 try simp only [Act.put, List.setIfInBounds_toArray, List.set_cons_zero, List.set_cons_succ]
 refine wpOpsS_value (i := 3) (w' := w) (v := .agg #[]) rfl (by rfl) (by rfl) ?_
 try simp only [Act.put, List.setIfInBounds_toArray, List.set_cons_zero, List.set_cons_succ]
 refine wpOpsS_value (i := 4) (w' := w) (v := .bool false) rfl (by rfl) (by rfl) ?_
 try simp only [Act.put, List.setIfInBounds_toArray, List.set_cons_zero, List.set_cons_succ]
 refine wpOpsS_value (i := 5) (w' := w.alloc (.cells #[] 198)) (v := .pointer (some ⟨w.heap.size, 0, none⟩)) rfl (by rfl) (by kernel_rfl) ?_
 try simp only [Act.put, List.setIfInBounds_toArray, List.set_cons_zero, List.set_cons_succ]
 refine wpOpsS_skip (i := 6) (w' := w.alloc (.cells #[] 198)) rfl (by rfl) (by kernel_rfl) ?_
 try simp only [Act.put]
 refine wpOpsS_value (i := 7) (w' := w.alloc (.cells #[] 198)) (v := .bool false) rfl (by rfl) (by rfl) ?_
 try simp only [Act.put, List.setIfInBounds_toArray, List.set_cons_zero, List.set_cons_succ]
 change Code.wpS _ _ _ _ _ _
 refine wpS_of_wp ?_
 go_wp2
 cases c₀
 simp only at hu
 subst hu
 exact ⟨rfl, _, rfl, _, results_none rfl _ _ _, rfl, rfl, rfl⟩
end Go.Proofs.YtpjpknndfhablaaGreat
namespace Go.Proofs.YtpjpknndfhablaaGreat
open Go.RowKit
/-- What face makes of a log. -/
def faceL (l1 : Wal.LS) (r : Int) : Wal.LS := if r = 0 then l1 else { l1 with dead := true }
/-- What lies behind face. -/
structure FaceLeft (x c : Nat) (w w' W W1 : World) (l1 : Wal.LS) (S : Nat → Prop) (r : Int) (R : World → World → Prop) : Prop where
 below : Below w.heap.size w W
 size : W.heap.size = w.heap.size + 2
 post : R W W1
 log : LogAt W1 x c l1
 touch : Touch S W W1
 box : ∃ v, W1.heap[w.heap.size + 1]? = some (.cells #[v] 24 (0, 0))
 log' : LogAt w' x c (faceL l1 r)
 touch' : Touch (fun k => k = w.heap.size + 1 ∨ (r ≠ 0 ∧ k = x)) W1 w'
def FaceEnds (x c : Nat) (w : World) (l1 : Wal.LS) (S : Nat → Prop) (r : Int) (R : World → World → Prop) (e : Ending) (w' : World) : Prop :=
 e = .returned (.int .i64 (if r = 0 then 0 else 2)) ∧ ∃ W W1, FaceLeft x c w w' W W1 l1 S r R
set_option maxHeartbeats 4000000 in
set_option maxRecDepth 100000 in
theorem face_any (x c F : Nat) (cap : Array Value) (w : World) (l l1 : Wal.LS) (S : Nat → Prop) (r : Int) (R : World → World → Prop) (hF : ∀ (args : Array Value) (w : World), (callFunc F args).run Tryz.prog w = .ok (.enter F args) w) (hl : LogAt w x c l) (hd : l.dead = false) (hS : ∀ k, S k → k < w.heap.size)
  (hw : ∀ W, Below w.heap.size w W → Calls Tryz.prog F cap W fun e W' => Ends r e ∧ LogAt W' x c l1 ∧ Touch S W W' ∧ R W W') :
  Calls Tryz.prog 86 #[.pointer (some ⟨x, 0, none⟩), .func (.func F) #[] cap] w (FaceEnds x c w l1 S r R) := by
 obtain ⟨_, _, _, _, c4, _, hlt⟩ := hl.cells
 rw [hd] at c4
 have hmf : ∀ (fn : Fn) (first cap : Array Value) (w : World), (Instr.makeFunc fn first cap).run Tryz.prog w = .ok (.func fn first cap) w := fun _ _ _ _ => rfl
 have HL := Lib.hid hl
 have HW := Lib.hid hw
 have HS := Lib.hid hS
 clear hl hw hS
 go_enter_defers Tryz.func86, Tryz.ntmps86
 go_wp2_with fail
 have n0 := heap_new w (.cells #[.pointer (some ⟨x, 0, none⟩)] 98)
 have b0 := balloc w (.cells #[.pointer (some ⟨x, 0, none⟩)] 98)
 have z0 : (w.alloc (.cells #[.pointer (some ⟨x, 0, none⟩)] 98)).heap.size = w.heap.size + 1 := by simp
 generalize w.alloc (.cells #[.pointer (some ⟨x, 0, none⟩)] 98) = wa at n0 b0 z0 ⊢
 have n1 := heap_new wa (.cells #[.int .i64 0] 24)
 have b1 := balloc wa (.cells #[.int .i64 0] 24)
 have z1 : (wa.alloc (.cells #[.int .i64 0] 24)).heap.size = w.heap.size + 2 := by simp [z0]
 rw [z0] at n1
 generalize wa.alloc (.cells #[.int .i64 0] 24) = W at n1 b1 z1 ⊢
 have m0 := stays n0 b1
 have BW := Lib.hid (bthen b0 b1)
 clear b0 b1 n0 z0 hF
 refine (HW.out W BW.out).mono ?_
 rintro e W1 ⟨he, hl1, ht, hr⟩
 have k0 : W1.heap[w.heap.size]? = some (.cells #[.pointer (some ⟨x, 0, none⟩)] 98 (0, 0)) := (ht.block _ (by omega) (fun h => by have := HS.out _ h; omega)).trans m0
 have k1 : W1.heap[w.heap.size + 1]? = some (.cells #[.int .i64 0] 24 (0, 0)) := (ht.block _ (by omega) (fun h => by have := HS.out _ h; omega)).trans n1
 have HL1 := Lib.hid hl1
 have HT := Lib.hid ht
 have HR := Lib.hid hr
 have K0 := Lib.hid k0
 have K1 := Lib.hid k1
 have Z1 := Lib.hid z1
 clear hl1 ht hr k0 k1 m0 n1 c4 z1
 rcases he with ⟨h0, rfl⟩ | ⟨h0, rfl⟩
 ·subst h0
  obtain ⟨g1, g2, _⟩ := cells1 K1.out
  have g3 := g2 0
  go_wp2
  refine leaves_cons (f := 140) (args := #[.pointer (some ⟨w.heap.size, 0, none⟩), .pointer (some ⟨w.heap.size + 1, 0, none⟩)]) (by simp) (by simp [go_sem]) ?_
  refine (catch_idle _ _ _).mono ?_
  rintro e u' w'' ⟨rfl, rfl, rfl⟩
  have hset := heap_set (i := 0) (.int .i64 0) K1.out
  have hst := stays hset (balloc _ (.cells #[] 198))
  have hcell := (cells1 hst).1
  refine ⟨.int .i64 0, ?_, rfl, W, W1, BW.out, Z1.out, HR.out, HL1.out, HT.out, ⟨_, K1.out⟩, ?_, ?_⟩
  ·simp [results, Tryz.f86, go_sem, hcell]
  ·unfold faceL
   rw [if_pos rfl]
   exact ((HL1.out.touch ((Touch.refl (· = w.heap.size + 1) W1).setCell _ (fun _ => rfl)) (by omega)).below (balloc _ _))
  ·exact Touch.alloc ((Touch.refl _ W1).setCell _ (fun _ => .inl rfl)) _
 ·obtain ⟨f0, _, _⟩ := cells1 K0.out
  obtain ⟨g1, g2, _⟩ := cells1 K1.out
  refine leaves_cons (f := 140) (args := #[.pointer (some ⟨w.heap.size, 0, none⟩), .pointer (some ⟨w.heap.size + 1, 0, none⟩)]) (by simp) (by simp [go_sem]) ?_
  refine (catch_gone _ _ x c l1 _ (.int .i64 0) [] f0 HL1.out g1 (g2 0) (by omega)).mono ?_
  rintro e u' w'' ⟨rfl, rfl, rfl⟩
  have bg := balloc W1 (.cells #[] 198)
  have lg := HL1.out.below bg
  have kg := stays K1.out bg
  have tg : Touch (fun k => k = w.heap.size + 1 ∨ (r ≠ 0 ∧ k = x)) W1 (W1.alloc (.cells #[] 198)) := Touch.of_below bg
  generalize W1.alloc (.cells #[] 198) = W2 at lg kg tg ⊢
  have ls := lg.setDead
  have ks : (W2.setCell ⟨x, 4, none⟩ (.bool true)).heap[w.heap.size + 1]? = some (.cells #[.int .i64 0] 24 (0, 0)) := (heap_set_ne _ (by omega)).trans kg
  have ts := tg.setCell (a := ⟨x, 4, none⟩) (.bool true) (fun _ => .inr ⟨h0, rfl⟩)
  generalize W2.setCell ⟨x, 4, none⟩ (.bool true) = W3 at ls ks ts ⊢
  have hcell := (cells1 (heap_set (i := 0) (.int .i64 2) ks)).1
  have lf : LogAt (W3.setCell ⟨w.heap.size + 1, 0, none⟩ (.int .i64 2)) x c { l1 with dead := true } := ls.touch ((Touch.refl (· = w.heap.size + 1) W3).setCell _ (fun _ => rfl)) (by omega)
  have tf := ts.setCell (a := ⟨w.heap.size + 1, 0, none⟩) (.int .i64 2) (fun _ => .inl rfl)
  have HLF := Lib.hid lf
  have HTF := Lib.hid tf
  have hfin : FaceEnds x c w l1 S r R (.returned (.int .i64 2)) (W3.setCell ⟨w.heap.size + 1, 0, none⟩ (.int .i64 2)) := by
   refine ⟨by rw [if_neg h0], W, W1, BW.out, Z1.out, HR.out, HL1.out, HT.out, ⟨_, K1.out⟩, ?_, HTF.out⟩
   unfold faceL
   rw [if_neg h0]
   exact HLF.out
  generalize W3.setCell ⟨w.heap.size + 1, 0, none⟩ (.int .i64 2) = W4 at hcell hfin ⊢
  have HFIN := Lib.hid hfin
  clear hfin lf tf ts ks ls
  simp [Leaves, settle, results, Tryz.f86, go_sem, hcell]
  exact HFIN.out
end Go.Proofs.YtpjpknndfhablaaGreat
namespace Go.Proofs.YtpjpknndfhablaaGreat
open Go.RowKit
theorem not_own {w : World} {k : Nat} {cur : Array Value} {T : TypeId} {fr : Nat × Nat} (hk : w.heap[k]? = some (.cells cur T fr)) (h1 : T ≠ 89) (h2 : T ≠ 106) {c : Nat} {d : DS} {m : Nat} {rb : Option Nat} (hd : DiskAt w c d m rb) : ¬ own2 c rb k := by
 obtain ⟨_, rs, r, hr, _, hrb⟩ := hd
 rintro (rfl | ho)
 ·have := hr.blk; rw [hk] at this; simp [diskBlock] at this; exact h1 this.2.1
 ·rw [← hrb] at ho
  rcases hr.own.2 with ⟨hv, _⟩ | ⟨g, cap, cur', hv, _, hg, _⟩
  ·rw [hv] at ho; cases ho
  ·rw [hv] at ho
   have e1 : g = k := Option.some.inj ho
   subst e1
   rw [hk] at hg; simp at hg; exact h2 hg.2.1
/-- What work on a disk leaves of it, told to face. -/
def OnDisk (c : Nat) (d d' : DS) (m : Nat) (rb : Option Nat) (W W' : World) : Prop := ∃ rb', DiskAt W' c d' m rb' ∧ Newer W rb rb' ∧ (d'.dead = true → d.dead = false → rb' = none)
theorem Worked.face {x c : Nat} {w w' W W1 : World} {l1 : Wal.LS} {d d' : DS} {m : Nat} {rb : Option Nat} {r : Int} (h : FaceLeft x c w w' W W1 l1 (own3 c rb x) r (OnDisk c d d' m rb)) (hlt : x < w.heap.size) : Worked x c (faceL l1 r) d d' m rb w w' := by
 obtain ⟨rb', hd, hn, hf⟩ := h.post
 obtain ⟨v, hbox⟩ := h.box
 refine ⟨h.log', ⟨rb', hd.touch h.touch' ?_, hn.later h.below.size, hf⟩, ?_⟩
 ·intro k hk ho
  rcases ho with rfl | ⟨_, rfl⟩
  ·exact not_own hbox (by decide) (by decide) hd hk
  ·exact h.log.apart hd hk
 ·refine Touch.trans (Touch.trans (Touch.of_below h.below) h.touch (fun _ _ h => h)) h.touch' (fun k hk ho => ?_)
  rcases ho with rfl | ⟨_, rfl⟩
  ·omega
  ·exact .inr rfl
theorem Worked.closure {x c : Nat} {l1 : Wal.LS} {d d' : DS} {m : Nat} {rb : Option Nat} {W W' : World} (h : Worked x c l1 d d' m rb W W') : LogAt W' x c l1 ∧ Touch (own3 c rb x) W W' ∧ OnDisk c d d' m rb W W' :=
 ⟨h.log, h.touch, h.disk⟩
theorem own3_lt {w : World} {x c : Nat} {l : Wal.LS} {d : DS} {m : Nat} {rb : Option Nat} (hl : LogAt w x c l) (h : DiskAt w c d m rb) : ∀ k, own3 c rb x k → k < w.heap.size := by
 rintro k ((rfl | hk) | rfl)
 ·exact h.lt
 ·exact h.rb_lt k hk
 ·exact heap_lt hl
/-- What a call on a log leaves, some new blocks laid before and after. -/
theorem Worked.before {x c : Nat} {l1 : Wal.LS} {d d' : DS} {m : Nat} {rb : Option Nat} {w w0 w' : World} (h : Worked x c l1 d d' m rb w0 w') (hb : Below w.heap.size w w0) : Worked x c l1 d d' m rb w w' :=
 ⟨h.log, by obtain ⟨rb', h1, h2, h3⟩ := h.disk; exact ⟨rb', h1, h2.later hb.size, h3⟩, Touch.trans (Touch.of_below hb) h.touch (fun _ _ h => h)⟩
theorem Worked.stay {x c : Nat} {l : Wal.LS} {d : DS} {m : Nat} {rb : Option Nat} {w w' : World} (hl : LogAt w x c l) (h : DiskAt w c d m rb) (hb : Below w.heap.size w w') : Worked x c l d d m rb w w' :=
 ⟨hl.below hb, ⟨rb, h.below hb, Newer.refl _ _, fun h1 h2 => by rw [h1] at h2; cases h2⟩, Touch.of_below hb⟩
theorem Worked.more {x c : Nat} {l : Wal.LS} {d d' : DS} {m n : Nat} {rb : Option Nat} {w w' : World} (h : Worked x c l d d' m rb w w') (hmn : m ≤ n) : Worked x c l d d' n rb w w' :=
 ⟨h.log, by obtain ⟨rb', h1, h2⟩ := h.disk; exact ⟨rb', h1.mono hmn, h2⟩, h.touch⟩
set_option maxHeartbeats 4000000 in
set_option maxRecDepth 100000 in
theorem face_dead (x c : Nat) (v : Value) (w : World) (l : Wal.LS) (hl : LogAt w x c l) (hd : l.dead = true) :
  Calls Tryz.prog 86 #[.pointer (some ⟨x, 0, none⟩), v] w fun e w' => e = .returned (.int .i64 2) ∧ Below w.heap.size w w' := by
 obtain ⟨_, _, _, _, c4, _, hlt⟩ := hl.cells
 rw [hd] at c4
 clear hl
 go_enter_defers Tryz.func86, Tryz.ntmps86
 go_wp2_with fail
 have b0 := balloc w (.cells #[.pointer (some ⟨x, 0, none⟩)] 98)
 have z0 : (w.alloc (.cells #[.pointer (some ⟨x, 0, none⟩)] 98)).heap.size = w.heap.size + 1 := by simp
 generalize w.alloc (.cells #[.pointer (some ⟨x, 0, none⟩)] 98) = wa at b0 z0 ⊢
 have n1 := heap_new wa (.cells #[.int .i64 2] 24)
 have b1 := balloc wa (.cells #[.int .i64 2] 24)
 rw [z0] at n1
 generalize wa.alloc (.cells #[.int .i64 2] 24) = W at n1 b1 ⊢
 have hcell := (cells1 n1).1
 refine ⟨.int .i64 2, ?_, rfl, bthen b0 b1⟩
 simp [results, Tryz.f86, go_sem, hcell]
set_option maxHeartbeats 4000000 in
set_option maxRecDepth 100000 in
theorem wsync_any (x c : Nat) (w : World) (l : Wal.LS) (d : DS) (m : Nat) (rb : Option Nat) (hl : LogAt w x c l) (h : DiskAt w c d m rb) :
  Calls Tryz.prog 84 #[.pointer (some ⟨x, 0, none⟩)] w fun e w' => e = .returned (.int .i64 (Wal.sync l d).2.2) ∧ Worked x c (Wal.sync l d).1 d (Wal.sync l d).2.1 m rb w w' := by
 have hmf : ∀ (fn : Fn) (first cap : Array Value) (w : World), (Instr.makeFunc fn first cap).run Tryz.prog w = .ok (.func fn first cap) w := fun _ _ _ _ => rfl
 have HL := Lib.hid hl
 have HD := Lib.hid h
 clear hl h
 go_enter Tryz.func84, Tryz.ntmps84
 go_wp2_with fail
 have n0 := heap_new w (.cells #[.pointer (some ⟨x, 0, none⟩)] 98)
 have b0 := balloc w (.cells #[.pointer (some ⟨x, 0, none⟩)] 98)
 generalize w.alloc (.cells #[.pointer (some ⟨x, 0, none⟩)] 98) = w0 at n0 b0 ⊢
 have HL0 := HL.out.below b0
 have HD0 := HD.out.below b0
 have N0 := Lib.hid n0
 have B0 := Lib.hid b0
 cases hdd : l.dead with
 | true =>
  refine (face_dead x c _ w0 l HL0 hdd).mono ?_
  rintro e w1 ⟨rfl, b1⟩
  have HX : Hid (Wal.sync l d = (l, d, 2)) := Lib.hid (by unfold Wal.sync; rw [if_pos hdd])
  have HW : Hid (Worked x c l d d m rb w w1) := Lib.hid (Worked.stay HL.out HD.out (bthen b0 b1))
  clear n0 b0 b1 HL0 HD0 hdd
  go_wp2_with fail
  go_ret
  rw [HX.out]
  exact ⟨rfl, HW.out⟩
 | false =>
  refine (face_any x c 138 _ w0 l l (own3 c rb x) d.sync.2 (OnDisk c d d.sync.1 m rb) (enters_of Tryz.func138 (by kernel_rfl) rfl) HL0 hdd (own3_lt HL0 HD0) (fun W hb => ?_)).mono ?_
  ·have hn := stays n0 hb
   exact (sync1_any x c w.heap.size W l d m rb (HL0.below hb) (HD0.below hb) (cells1 hn).1 (not_own hn (by decide) (by decide) (HD0.below hb))).mono fun e W' ⟨he, hw⟩ => ⟨he, hw.closure⟩
  ·rintro e w1 ⟨rfl, W, W1, hfl⟩
   have HW : Hid (Worked x c (faceL l d.sync.2) d d.sync.1 m rb w w1) := Lib.hid ((Worked.face hfl (heap_lt HL0)).before b0)
   have HX : Hid (Wal.sync l d = (faceL l d.sync.2, d.sync.1, if d.sync.2 = 0 then 0 else 2)) := Lib.hid (by
    unfold Wal.sync faceL
    rw [if_neg (by simp [hdd])]
    by_cases h0 : d.sync.2 = 0
    ·rw [if_neg (by simp [h0]), if_pos h0, if_pos h0]
    ·rw [if_pos h0, if_neg h0, if_neg h0])
   generalize (if d.sync.2 = 0 then (0 : Int) else 2) = q at HX ⊢
   clear n0 b0 HL0 HD0 hdd hfl
   go_wp2_with fail
   go_ret
   rw [HX.out]
   exact ⟨rfl, HW.out⟩
theorem size_at (c : Nat) (w : World) (d : DS) (m : Nat) (rb : Option Nat) (f : Bool) (h : DiskAt w c d m rb) : Calls Tryz.prog 85 #[.pointer (some ⟨c, 0, none⟩), .int .i64 (DS.fi f)] w fun e w' => e = .returned (.int .i64 (d.size f)) ∧ Below w.heap.size w w' := by
 obtain ⟨ok, rs, r, hr, _, _⟩ := h
 have := size_any c w d rs r (DS.fi f) hr ok
 have e : d.sizeI (DS.fi f) = (d.size f : Int) := by simp [DS.sizeI, DS.fileNo_of]
 rwa [e] at this
theorem log_box (w : World) (x : Nat) {wa : World} (h : wa = w.alloc (.cells #[.pointer (some ⟨x, 0, none⟩)] 98)) (s : List UInt8) {wb : World} (h' : wb = wa.alloc (.cells #[.string ⟨s.toArray⟩] 9)) :
  wb.heap[w.heap.size]? = some (.cells #[.pointer (some ⟨x, 0, none⟩)] 98 (0, 0)) ∧ wb.heap[w.heap.size + 1]? = some (.cells #[.string ⟨s.toArray⟩] 9 (0, 0)) ∧ Below w.heap.size w wb ∧ wb.heap.size = w.heap.size + 2 := by
 subst h; subst h'
 have z0 : (w.alloc (.cells #[.pointer (some ⟨x, 0, none⟩)] 98)).heap.size = w.heap.size + 1 := by simp
 refine ⟨stays (heap_new w _) (balloc _ _), ?_, bthen (balloc _ _) (balloc _ _), by simp⟩
 have := heap_new (w.alloc (.cells #[.pointer (some ⟨x, 0, none⟩)] 98)) (.cells #[.string ⟨s.toArray⟩] 9)
 rwa [z0] at this
theorem append_faceL (l : Wal.LS) (r : Int) (n : Nat) : faceL (if r = 0 then { l with n := n } else l) r = if r = 0 then { l with n := n } else { l with dead := true } := by
 unfold faceL
 by_cases h : r = 0
 ·rw [if_pos h, if_pos h]; simp [h]
 ·rw [if_neg h, if_neg h, if_neg h]
set_option maxHeartbeats 4000000 in
set_option maxRecDepth 100000 in
theorem wappend_any (x c : Nat) (w : World) (l : Wal.LS) (d : DS) (m : Nat) (rb : Option Nat) (s : List UInt8) (hl : LogAt w x c l) (h : DiskAt w c d m rb) (hm : m < 5000000000000) (hs : s.length ≤ 140737488355328) (hln : l.n ≤ 4611686018427387904) :
  Calls Tryz.prog 69 #[.pointer (some ⟨x, 0, none⟩), .string ⟨s.toArray⟩] w fun e w' => e = .returned (.int .i64 (Wal.append l d s).2.2) ∧ Worked x c (Wal.append l d s).1 d (Wal.append l d s).2.1 (m + 1) rb w w' := by
 have hmf : ∀ (fn : Fn) (first cap : Array Value) (w : World), (Instr.makeFunc fn first cap).run Tryz.prog w = .ok (.func fn first cap) w := fun _ _ _ _ => rfl
 have HL := Lib.hid hl
 have HD := Lib.hid h
 have hz := h.1.base_len' l.f
 obtain ⟨z, hzz⟩ : ∃ z, d.size l.f = z := ⟨_, rfl⟩
 rw [hzz] at hz
 have HZ := Lib.hid hzz
 obtain ⟨c0, c1, _, _, c4, _, hlt⟩ := hl.cells
 clear hl h hzz
 cases hdd : l.dead with
 | true =>
  rw [hdd] at c4
  have HX : Hid (Wal.append l d s = (l, d, 2)) := Lib.hid (by unfold Wal.append; rw [if_pos hdd])
  clear hdd
  go_enter Tryz.func69, Tryz.ntmps69
  go_wp2_with fail
  go_ret
  rw [HX.out]
  exact ⟨rfl, (Worked.stay HL.out HD.out (bthen (balloc _ _) (balloc _ _))).more (by omega)⟩
 | false =>
  rw [hdd] at c4
  have HDD := Lib.hid hdd
  clear hdd
  by_cases hlong : 65536 < s.length
  ·have HX : Hid (Wal.append l d s = (l, d, 101)) := Lib.hid (by unfold Wal.append; rw [if_neg (by simp [HDD.out]), if_pos hlong])
   go_enter Tryz.func69, Tryz.ntmps69
   go_wp2_with fail
   go_ret
   rw [HX.out]
   exact ⟨rfl, (Worked.stay HL.out HD.out (bthen (balloc _ _) (balloc _ _))).more (by omega)⟩
  ·go_enter Tryz.func69, Tryz.ntmps69
   go_wp2_with fail
   obtain ⟨wa, hwa⟩ : ∃ wa, wa = w.alloc (.cells #[.pointer (some ⟨x, 0, none⟩)] 98) := ⟨_, rfl⟩
   obtain ⟨w0, hw0⟩ : ∃ w0, w0 = wa.alloc (.cells #[.string ⟨s.toArray⟩] 9) := ⟨_, rfl⟩
   obtain ⟨n0, n1, b0, z0⟩ := log_box w x hwa s hw0
   rw [← hwa, ← hw0]
   clear hwa hw0
   have HL0 := Lib.hid (HL.out.below b0)
   have HD0 := Lib.hid (HD.out.below b0)
   have N0 := Lib.hid n0
   have N1 := Lib.hid n1
   have B0 := Lib.hid b0
   have Z0 := Lib.hid z0
   obtain ⟨e0, _, _⟩ := cells1 n0
   obtain ⟨e1, _, _⟩ := cells1 n1
   have f0 := cell_later b0 c0
   have f1 := cell_later b0 c1
   have HB : Hid (∀ w' : World, Below w0.heap.size w0 w' → (Below w0.heap.size w0 w' ∧ w'.cell? ⟨w.heap.size, 0, none⟩ = some (.pointer (some ⟨x, 0, none⟩)) ∧ w'.cell? ⟨w.heap.size + 1, 0, none⟩ = some (.string ⟨s.toArray⟩) ∧ w'.cell? ⟨x, 0, none⟩ = some (.pointer (some ⟨c, 0, none⟩)) ∧ w'.cell? ⟨x, 1, none⟩ = some (.int .i64 (DS.fi l.f)))) :=
    fun w' hb => ⟨hb, cell_later hb e0, cell_later hb e1, cell_later hb f0, cell_later hb f1⟩
   have hwrap : IntKind.i64.wrap (1048568 - (s.length : Int)) = 1048568 - (s.length : Int) := IntWalk.i64_in _ (by omega)
   clear c0 c1 c4 n0 n1 b0 z0
   go_region_held3 (fun w' => Below w0.heap.size w0 w' ∧ w'.cell? ⟨w.heap.size, 0, none⟩ = some (.pointer (some ⟨x, 0, none⟩)) ∧ w'.cell? ⟨w.heap.size + 1, 0, none⟩ = some (.string ⟨s.toArray⟩) ∧ w'.cell? ⟨x, 0, none⟩ = some (.pointer (some ⟨c, 0, none⟩)) ∧ w'.cell? ⟨x, 1, none⟩ = some (.int .i64 (DS.fi l.f)))
    (first | exact HB.out _ (Below.refl _ _).drew | exact HB.out _ (bthen (by assumption : Below w0.heap.size w0 _ ∧ _).1 (by assumption)))
    (first | (go_at_call 85; refine (size_at c _ d m rb l.f (HD0.out.below (by assumption : Below w0.heap.size w0 _ ∧ _).1)).mono ?_; rw [HZ.out]; rintro e w' ⟨rfl, hb⟩))
   rename_i hheld
   have g0 := hheld.2.1
   have HB1 := Lib.hid hheld.1
   clear hheld hb hwrap f0 f1 e0 e1
   by_cases hfull : 1048576 < z + 8 + s.length
   ·have HX : Hid (Wal.append l d s = (l, d, 102)) := Lib.hid (by unfold Wal.append; rw [if_neg (by simp [HDD.out]), if_neg hlong, HZ.out, if_pos hfull])
    go_wp2_with fail
    go_ret
    rw [HX.out]
    exact ⟨rfl, (Worked.stay HL.out HD.out (bthen B0.out HB1.out)).more (by omega)⟩
   ·go_wp2_with fail
    have HLx := HL0.out.below HB1.out
    have HDx := HD0.out.below HB1.out
    obtain ⟨r, hr⟩ : ∃ r, (d.append (DS.fi l.f) (Wal.frame s)).2 = r := ⟨_, rfl⟩
    obtain ⟨E, hE⟩ : ∃ E, (d.append (DS.fi l.f) (Wal.frame s)).1 = E := ⟨_, rfl⟩
    refine (face_any x c 125 _ w' l (if r = 0 then { l with n := l.n + 1 } else l) (own3 c rb x) r (OnDisk c d E (m + 1) rb) (enters_of Tryz.func125 (by kernel_rfl) rfl) HLx HDD.out (own3_lt HLx HDx) (fun W hb => ?_)).mono ?_
    ·have hn0 := stays (stays N0.out HB1.out) hb
     have hn1 := stays (stays N1.out HB1.out) hb
     have := wappend1_any x c w.heap.size (w.heap.size + 1) W l d m rb s (HLx.below hb) (HDx.below hb) hm (by omega) hln (cells1 hn0).1 (cells1 hn1).1 (not_own hn0 (by decide) (by decide) (HDx.below hb)) (not_own hn1 (by decide) (by decide) (HDx.below hb)) (by omega)
     rw [hr, hE] at this
     exact this.mono fun e W' ⟨he, hw⟩ => ⟨he, hw.closure⟩
    ·rintro e w1 ⟨rfl, W, W1, hfl⟩
     have HW : Hid (Worked x c (faceL (if r = 0 then { l with n := l.n + 1 } else l) r) d E (m + 1) rb w w1) := Lib.hid ((Worked.face hfl (heap_lt HLx)).before (bthen B0.out HB1.out))
     have HX : Hid (Wal.append l d s = (faceL (if r = 0 then { l with n := l.n + 1 } else l) r, E, if r = 0 then 0 else 2)) := Lib.hid (by
      unfold Wal.append
      rw [if_neg (by simp [HDD.out]), if_neg hlong, HZ.out, if_neg hfull, hr, hE, append_faceL]
      by_cases h0 : r = 0
      ·rw [if_neg (by simp [h0]), if_pos h0, if_pos h0]
      ·rw [if_pos h0, if_neg h0, if_neg h0])
     generalize (if r = 0 then (0 : Int) else 2) = q at HX ⊢
     clear HLx HDx hfl hr hE g0
     go_wp2_with fail
     go_ret
     rw [HX.out]
     exact ⟨rfl, HW.out⟩
end Go.Proofs.YtpjpknndfhablaaGreat
namespace Go.Proofs.YtpjpknndfhablaaGreat
open Go.RowKit
theorem checkpoint_eq (l : Wal.LS) (d : DS) (s : List UInt8) (h1 : l.dead = false) (h2 : ¬ 524288 < s.length) (h3 : ¬ l.g = 4611686018427387904) : Wal.checkpoint l d s = (faceL (cpL l (cpD l d s).2) (cpD l d s).2, (cpD l d s).1, if (cpD l d s).2 = 0 then 0 else 2) := by
 unfold Wal.checkpoint
 rw [if_neg (by simp [h1]), if_neg h2, if_neg h3]
 by_cases h : (Wal.lays d (!l.f) (l.g + 1) s).2 = 0
 ·have e : cpD l d s = (Wal.lays d (!l.f) (l.g + 1) s).1.cut (DS.fi l.f) 0 := by unfold cpD; rw [if_neg (fun h' => h' h)]
  rw [e, if_neg (fun h' => h' h)]
  generalize (Wal.lays d (!l.f) (l.g + 1) s).1.cut (DS.fi l.f) 0 = p
  unfold faceL cpL
  by_cases h0 : p.2 = 0
  ·rw [if_neg (fun h' => h' h0), if_pos h0, if_pos h0, if_pos h0]
  ·rw [if_pos h0, if_neg h0, if_neg h0, if_neg h0]
 ·have e : cpD l d s = Wal.lays d (!l.f) (l.g + 1) s := by unfold cpD; rw [if_pos h]
  rw [e, if_pos h]
  generalize Wal.lays d (!l.f) (l.g + 1) s = p at h
  unfold faceL cpL
  rw [if_neg h, if_neg h, if_neg h]
set_option maxHeartbeats 4000000 in
set_option maxRecDepth 100000 in
theorem wcheck_any (x c : Nat) (w : World) (l : Wal.LS) (d : DS) (m : Nat) (rb : Option Nat) (s : List UInt8) (hl : LogAt w x c l) (h : DiskAt w c d m rb) (hm : m < 5000000000000) (hs : s.length ≤ 140737488355328) (hlg : l.g ≤ 4611686018427387904) :
  Calls Tryz.prog 116 #[.pointer (some ⟨x, 0, none⟩), .string ⟨s.toArray⟩] w fun e w' => e = .returned (.int .i64 (Wal.checkpoint l d s).2.2) ∧ Worked x c (Wal.checkpoint l d s).1 d (Wal.checkpoint l d s).2.1 (m + 1) rb w w' := by
 have hmf : ∀ (fn : Fn) (first cap : Array Value) (w : World), (Instr.makeFunc fn first cap).run Tryz.prog w = .ok (.func fn first cap) w := fun _ _ _ _ => rfl
 have HL := Lib.hid hl
 have HD := Lib.hid h
 obtain ⟨_, _, c2, _, c4, _, hlt⟩ := hl.cells
 clear hl h
 cases hdd : l.dead with
 | true =>
  rw [hdd] at c4
  have HX : Hid (Wal.checkpoint l d s = (l, d, 2)) := Lib.hid (by unfold Wal.checkpoint; rw [if_pos hdd])
  clear hdd
  go_enter Tryz.func116, Tryz.ntmps116
  go_wp2_with fail
  go_ret
  rw [HX.out]
  exact ⟨rfl, (Worked.stay HL.out HD.out (bthen (balloc _ _) (balloc _ _))).more (by omega)⟩
 | false =>
  rw [hdd] at c4
  have HDD := Lib.hid hdd
  clear hdd
  by_cases hlong : 524288 < s.length
  ·have HX : Hid (Wal.checkpoint l d s = (l, d, 101)) := Lib.hid (by unfold Wal.checkpoint; rw [if_neg (by simp [HDD.out]), if_pos hlong])
   go_enter Tryz.func116, Tryz.ntmps116
   go_wp2_with fail
   go_ret
   rw [HX.out]
   exact ⟨rfl, (Worked.stay HL.out HD.out (bthen (balloc _ _) (balloc _ _))).more (by omega)⟩
  by_cases hfull : l.g = 4611686018427387904
  ·have HX : Hid (Wal.checkpoint l d s = (l, d, 102)) := Lib.hid (by unfold Wal.checkpoint; rw [if_neg (by simp [HDD.out]), if_neg hlong, if_pos hfull])
   have c2' : w.cell? ⟨x, 2, none⟩ = some (.int .u64 4611686018427387904) := by rw [c2, hfull]; rfl
   clear c2 hfull
   go_enter Tryz.func116, Tryz.ntmps116
   go_wp2_with fail
   go_ret
   rw [HX.out]
   exact ⟨rfl, (Worked.stay HL.out HD.out (bthen (balloc _ _) (balloc _ _))).more (by omega)⟩
  ·have hne : ((l.g : Int) == 4611686018427387904) = false := by simp; omega
   have HFU := Lib.hid hfull
   clear hfull
   go_enter Tryz.func116, Tryz.ntmps116
   go_wp2_with fail
   obtain ⟨wa, hwa⟩ : ∃ wa, wa = w.alloc (.cells #[.pointer (some ⟨x, 0, none⟩)] 98) := ⟨_, rfl⟩
   obtain ⟨w0, hw0⟩ : ∃ w0, w0 = wa.alloc (.cells #[.string ⟨s.toArray⟩] 9) := ⟨_, rfl⟩
   obtain ⟨n0, n1, b0, z0⟩ := log_box w x hwa s hw0
   rw [← hwa, ← hw0]
   clear hwa hw0
   have HLx := HL.out.below b0
   have HDx := HD.out.below b0
   obtain ⟨r, hr⟩ : ∃ r, (cpD l d s).2 = r := ⟨_, rfl⟩
   obtain ⟨E, hE⟩ : ∃ E, (cpD l d s).1 = E := ⟨_, rfl⟩
   refine (face_any x c 155 _ w0 l (cpL l r) (own3 c rb x) r (OnDisk c d E (m + 1) rb) (enters_of Tryz.func155 (by kernel_rfl) rfl) HLx HDD.out (own3_lt HLx HDx) (fun W hb => ?_)).mono ?_
   ·have hn0 := stays n0 hb
    have hn1 := stays n1 hb
    have := check1_any x c w.heap.size (w.heap.size + 1) W l d m rb s (HLx.below hb) (HDx.below hb) hm (by omega) (by have := HFU.out; omega) (cells1 hn0).1 (cells1 hn1).1 (not_own hn0 (by decide) (by decide) (HDx.below hb)) (not_own hn1 (by decide) (by decide) (HDx.below hb)) (by omega) (cells1 hn0).2.2
    rw [hr, hE] at this
    exact this.mono fun e W' ⟨he, hw⟩ => ⟨he, hw.closure⟩
   ·rintro e w1 ⟨rfl, W, W1, hfl⟩
    have HW : Hid (Worked x c (faceL (cpL l r) r) d E (m + 1) rb w w1) := Lib.hid ((Worked.face hfl (heap_lt HLx)).before b0)
    have HX : Hid (Wal.checkpoint l d s = (faceL (cpL l r) r, E, if r = 0 then 0 else 2)) := Lib.hid (by rw [checkpoint_eq l d s HDD.out hlong HFU.out, hr, hE])
    generalize (if r = 0 then (0 : Int) else 2) = q at HX ⊢
    clear HLx HDx hfl hr hE n0 n1 b0 z0 c2 c4
    go_wp2_with fail
    go_ret
    rw [HX.out]
    exact ⟨rfl, HW.out⟩
set_option maxHeartbeats 2000000 in
set_option maxRecDepth 100000 in
theorem room_any (x c : Nat) (w : World) (l : Wal.LS) (d : DS) (m : Nat) (rb : Option Nat) (hl : LogAt w x c l) (h : DiskAt w c d m rb) :
  Calls Tryz.prog 67 #[.pointer (some ⟨x, 0, none⟩)] w fun e w' => e = .returned (.int .i64 (Wal.room l d)) ∧ Below w.heap.size w w' := by
 obtain ⟨c0, c1, _⟩ := hl.cells
 have hz := h.1.base_len' l.f
 obtain ⟨z, hzz⟩ : ∃ z, d.size l.f = z := ⟨_, rfl⟩
 rw [hzz] at hz
 have HZ := Lib.hid hzz
 have HD := Lib.hid h
 have HB : Hid (∀ w' : World, Below w.heap.size w w' → (Below w.heap.size w w' ∧ w'.cell? ⟨x, 0, none⟩ = some (.pointer (some ⟨c, 0, none⟩)) ∧ w'.cell? ⟨x, 1, none⟩ = some (.int .i64 (DS.fi l.f)))) := fun w' hb => ⟨hb, cell_later hb c0, cell_later hb c1⟩
 have hw1 : IntKind.i64.wrap (1048576 - (z : Int)) = 1048576 - (z : Int) := IntWalk.i64_in _ (by omega)
 have hw2 : IntKind.i64.wrap (1048576 - (z : Int) - 8) = 1048576 - (z : Int) - 8 := IntWalk.i64_in _ (by omega)
 have hcase : ¬ (1048576 - (z : Int) - 8 < 65536) ∨ (1048576 - (z : Int) - 8 < 65536 ∧ (-1 : Int) < 1048576 - (z : Int) - 8) ∨ (1048576 - (z : Int) - 8 < 65536 ∧ ¬ ((-1 : Int) < 1048576 - (z : Int) - 8)) := by omega
 clear hl h hzz
 rcases hcase with k1 | ⟨k1, k2⟩ | ⟨k1, k2⟩
 all_goals go_enter Tryz.func67, Tryz.ntmps67
 all_goals go_wp2
 all_goals go_region_held3 (fun w' => Below w.heap.size w w' ∧ w'.cell? ⟨x, 0, none⟩ = some (.pointer (some ⟨c, 0, none⟩)) ∧ w'.cell? ⟨x, 1, none⟩ = some (.int .i64 (DS.fi l.f)))
  (first | assumption | exact HB.out _ (Below.refl _ _).drew | exact HB.out _ (bthen (by assumption : Below w.heap.size w _ ∧ _).1 (by assumption)))
  (first | (go_at_call 85; refine (size_at c _ d m rb l.f (HD.out.below (by assumption : Below w.heap.size w _ ∧ _).1)).mono ?_; rw [HZ.out]; rintro e w' ⟨rfl, hb⟩))
 all_goals rename_i hheld
 all_goals go_wp2
 all_goals go_ret
 all_goals exact ⟨ret_int (by unfold Wal.room; rw [HZ.out]; omega), hheld.1⟩
set_option maxHeartbeats 2000000 in
set_option maxRecDepth 100000 in
theorem wclone_any (x c c' : Nat) (w : World) (l : Wal.LS) (hl : LogAt w x c l) :
  Calls Tryz.prog 71 #[.pointer (some ⟨x, 0, none⟩), .pointer (some ⟨c', 0, none⟩)] w fun e w' => ∃ x', e = .returned (.pointer (some ⟨x', 0, none⟩)) ∧ w.heap.size ≤ x' ∧ LogAt w' x' c' l ∧ Below w.heap.size w w' := by
 obtain ⟨c0, c1, c2, c3, c4, _, hlt⟩ := hl.cells
 go_enter Tryz.func71, Tryz.ntmps71
 go_wp2
 go_ret
 exact ⟨w.heap.size, rfl, Nat.le_refl _, heap_new w _, balloc _ _⟩
/-- How New ends. -/
def NewEnds (c : Nat) (w : World) (o : Option Wal.LS) (d d' : DS) (m : Nat) (rb : Option Nat) (r : Int) (e : Ending) (w' : World) : Prop :=
 ∃ v, e = .returned (.tuple #[v, .int .i64 r]) ∧ (∀ l, o = some l → ∃ x, v = .pointer (some ⟨x, 0, none⟩) ∧ w.heap.size ≤ x ∧ LogAt w' x c l) ∧ (o = none → v = .pointer none) ∧
  ∃ rb', DiskAt w' c d' m rb' ∧ Newer w rb rb' ∧ Touch (own2 c rb) w w' ∧ (d'.dead = true → d.dead = false → rb' = none)
theorem NewEnds.refused {c : Nat} {w w' : World} {d : DS} {m : Nat} {rb : Option Nat} {r : Int} (h : DiskAt w c d m rb) (hb : Below w.heap.size w w') : NewEnds c w none d d (m + 1) rb r (.returned (.tuple #[.pointer none, .int .i64 r])) w' :=
 ⟨_, rfl, (fun _ h => by cases h), fun _ => rfl, rb, (h.below hb).mono (by omega), Newer.refl _ _, Touch.of_below hb, fun h1 h2 => by rw [h1] at h2; cases h2⟩
set_option maxHeartbeats 4000000 in
set_option maxRecDepth 100000 in
theorem wnew_any (c : Nat) (w : World) (d : DS) (m : Nat) (rb : Option Nat) (h : DiskAt w c d m rb) (hm : m < 5000000000000) :
  Calls Tryz.prog 44 #[.pointer (some ⟨c, 0, none⟩)] w (NewEnds c w (Wal.new d).1 d (Wal.new d).2.1 (m + 1) rb (Wal.new d).2.2) := by
 have hmf : ∀ (fn : Fn) (first cap : Array Value) (w : World), (Instr.makeFunc fn first cap).run Tryz.prog w = .ok (.func fn first cap) w := fun _ _ _ _ => rfl
 have HD := Lib.hid h
 have hok := h.1
 clear h
 cases hdd : d.dead with
 | true =>
  have HX : Hid (Wal.new d = (none, d, 2)) := Lib.hid (by unfold Wal.new; rw [if_pos hdd])
  go_enter Tryz.func44, Tryz.ntmps44
  go_wp2_with fail
  refine (dead_any c w d m rb HD.out).mono ?_
  rw [hdd]
  rintro e w1 ⟨rfl, rfl⟩
  clear hdd
  go_wp2_with fail
  go_ret2
  rw [HX.out]
  exact NewEnds.refused HD.out (Below.refl _ _)
 | false =>
  have HDD := Lib.hid hdd
  clear hdd
  obtain ⟨z0, hz0⟩ : ∃ z, d.size false = z := ⟨_, rfl⟩
  obtain ⟨z1, hz1⟩ : ∃ z, d.size true = z := ⟨_, rfl⟩
  have hb0 := hok.s0
  have hb1 := hok.s1
  rw [hz0] at hb0
  rw [hz1] at hb1
  have HZ0 := Lib.hid hz0
  have HZ1 := Lib.hid hz1
  clear hz0 hz1
  go_enter Tryz.func44, Tryz.ntmps44
  go_wp2_with fail
  refine (dead_any c w d m rb HD.out).mono ?_
  rw [HDD.out]
  rintro e w1 ⟨rfl, rfl⟩
  go_wp2_with fail
  refine (size_at c w d m rb false HD.out).mono ?_
  rw [HZ0.out]
  rintro e w2 ⟨rfl, b2⟩
  have B2 := Lib.hid b2
  clear b2
  go_wp2_with fail
  refine (size_at c w2 d m rb true (HD.out.below B2.out)).mono ?_
  rw [HZ1.out]
  rintro e w3 ⟨rfl, b3⟩
  have B3 := Lib.hid (bthen B2.out b3)
  clear b3
  by_cases hpos : 0 < z0 + z1
  ·have HX : Hid (Wal.new d = (none, d, 100)) := Lib.hid (by unfold Wal.new; rw [if_neg (by simp [HDD.out]), HZ0.out, HZ1.out, if_pos hpos])
   go_wp2_with fail
   go_ret2
   rw [HX.out]
   exact NewEnds.refused HD.out B3.out
  ·have hp0 : ¬ (0 < (z0 : Int) + (z1 : Int)) := by omega
   go_wp2_with fail
   obtain ⟨l0, hl0⟩ : ∃ l0 : Wal.LS, l0 = { f := false, g := 1, n := 0, dead := false } := ⟨_, rfl⟩
   have n0 : LogAt (w3.alloc (.cells #[.pointer (some ⟨c, 0, none⟩), .int .i64 0, .int .u64 1, .int .i64 0, .bool false] 148)) w3.heap.size c l0 := by
    subst hl0
    exact heap_new w3 _
   have b0 := balloc w3 (.cells #[.pointer (some ⟨c, 0, none⟩), .int .i64 0, .int .u64 1, .int .i64 0, .bool false] 148)
   have s0 : (w3.alloc (.cells #[.pointer (some ⟨c, 0, none⟩), .int .i64 0, .int .u64 1, .int .i64 0, .bool false] 148)).heap.size = w3.heap.size + 1 := by simp
   generalize w3.alloc (.cells #[.pointer (some ⟨c, 0, none⟩), .int .i64 0, .int .u64 1, .int .i64 0, .bool false] 148) = w4 at n0 b0 s0 ⊢
   have n1 := heap_new w4 (.cells #[.pointer (some ⟨w3.heap.size, 0, none⟩)] 98)
   have b1 := balloc w4 (.cells #[.pointer (some ⟨w3.heap.size, 0, none⟩)] 98)
   rw [s0] at n1
   generalize w4.alloc (.cells #[.pointer (some ⟨w3.heap.size, 0, none⟩)] 98) = w5 at n1 b1 ⊢
   have HLx := n0.below b1
   have hb35 := bthen b0 b1
   have hb5 := bthen B3.out hb35
   have HDx := HD.out.below hb5
   obtain ⟨r, hr⟩ : ∃ r, (Wal.lays d false 1 []).2 = r := ⟨_, rfl⟩
   obtain ⟨E, hE⟩ : ∃ E, (Wal.lays d false 1 []).1 = E := ⟨_, rfl⟩
   refine (face_any w3.heap.size c 87 _ w5 l0 l0 (own3 c rb w3.heap.size) r (OnDisk c d E (m + 1) rb) (enters_of Tryz.func87 (by kernel_rfl) rfl) HLx (by rw [hl0]) (own3_lt HLx HDx) (fun W hb => ?_)).mono ?_
   ·have hn1 := stays n1 hb
    have := new1_any w3.heap.size c (w3.heap.size + 1) W l0 d m rb (HLx.below hb) (HDx.below hb) hm (cells1 hn1).1
    rw [hr, hE] at this
    exact this.mono fun e W' ⟨he, hw⟩ => ⟨he, hw.closure⟩
   ·rintro e w6 ⟨rfl, W, W1, hfl⟩
    have hwk := Worked.face hfl (heap_lt HLx)
    have ht : Touch (own2 c rb) w w6 := Touch.trans (Touch.of_below hb5) hwk.touch (fun k hk ho => by
     rcases ho with ho | rfl
     ·exact ho
     ·have := B3.out.size; omega)
    obtain ⟨rb', hd', hn', hf'⟩ := hwk.disk
    have HP : Hid (DiskAt w6 c E (m + 1) rb' ∧ Newer w rb rb' ∧ Touch (own2 c rb) w w6 ∧ (E.dead = true → d.dead = false → rb' = none)) := Lib.hid ⟨hd', hn'.later hb5.size, ht, hf'⟩
    have HLF : Hid (r = 0 → LogAt w6 w3.heap.size c l0) := Lib.hid (fun h0 => by
     have := hwk.log
     unfold faceL at this
     rwa [if_pos h0] at this)
    obtain ⟨p0, _, _⟩ := cells1 n1
    have hbox : w6.cell? ⟨w3.heap.size + 1, 0, none⟩ = some (.pointer (some ⟨w3.heap.size, 0, none⟩)) := by
     refine cell_touch p0 hwk.touch ?_
     rintro (ho | ho)
     ·exact not_own n1 (by decide) (by decide) HDx ho
     ·omega
    have HX : Hid (Wal.new d = if r = 0 then (some l0, E, 0) else (none, E, 2)) := Lib.hid (by
     unfold Wal.new
     rw [if_neg (by simp [HDD.out]), HZ0.out, HZ1.out, if_neg hpos, hr, hE, hl0]
     by_cases h0 : r = 0
     ·rw [if_neg (fun h => h h0), if_pos h0]
     ·rw [if_pos h0, if_neg h0])
    clear hwk ht hd' hn' hf' hfl HLx HDx hb35 hb5 n0 n1 b0 b1 s0 p0 hr hE hl0
    have hsz := B3.out.size
    by_cases h0 : r = 0
    ·subst h0
     have HLF' := Lib.hid (HLF.out rfl)
     clear HLF
     go_wp2_with fail
     go_ret2
     rw [HX.out]
     exact ⟨_, rfl, fun l hl => by cases hl; exact ⟨_, rfl, hsz, HLF'.out⟩, (fun h => by cases h), rb', HP.out⟩
    ·rw [if_neg h0]
     go_wp2_with fail
     go_ret2
     rw [HX.out, if_neg h0]
     exact ⟨_, rfl, (fun l hl => by cases hl), fun _ => rfl, rb', HP.out⟩
end Go.Proofs.YtpjpknndfhablaaGreat
