/- The closure of Open: its cuts. The walk of Open's closure. Reading records one by one. Plain Lean. -/
import Derived.Deep.QuietTactic
import Derived.BigQuiet
import Derived.Test.YtpjpknndfhablaaGreatK2
import Derived.Test.YtpjpknndfhablaaGreatK4
import Derived.Test.YtpjpknndfhablaaGreatK10
namespace Go.Proofs.YtpjpknndfhablaaGreat
open Go.RowKit
/-- What lies in the boxes of Open: where the records end, the files, which is best, the log, the disk, the other one. -/
structure Boxes (w : World) (ba bf bb bl bd bo q : Nat) (p : Nat) (F0 F1 : List UInt8) (f : Bool) (x c : Nat) : Prop where
 a : w.cell? ⟨ba, 0, none⟩ = some (.int .i64 p)
 fs : w.cell? ⟨bf, 0, none⟩ = some (.slice (some ⟨q, 0, none⟩) 2 2)
 b : w.cell? ⟨bb, 0, none⟩ = some (.int .i64 (DS.fi f))
 l : w.cell? ⟨bl, 0, none⟩ = some (.pointer (some ⟨x, 0, none⟩))
 d : w.cell? ⟨bd, 0, none⟩ = some (.pointer (some ⟨c, 0, none⟩))
 o : w.cell? ⟨bo, 0, none⟩ = some (.int .i64 (DS.fi (!f)))
 f0 : w.cell? ⟨q, 0, none⟩ = some (.string ⟨F0.toArray⟩)
 f1 : w.cell? ⟨q, 1, none⟩ = some (.string ⟨F1.toArray⟩)
def NotIn (S : Nat → Prop) (ba bf bb bl bd bo q : Nat) : Prop := ¬ S ba ∧ ¬ S bf ∧ ¬ S bb ∧ ¬ S bl ∧ ¬ S bd ∧ ¬ S bo ∧ ¬ S q
theorem Boxes.touch {w w' : World} {ba bf bb bl bd bo q p : Nat} {F0 F1 : List UInt8} {f : Bool} {x c : Nat} (h : Boxes w ba bf bb bl bd bo q p F0 F1 f x c) {S : Nat → Prop} (ht : Touch S w w') (hn : NotIn S ba bf bb bl bd bo q) : Boxes w' ba bf bb bl bd bo q p F0 F1 f x c := by
 obtain ⟨n1, n2, n3, n4, n5, n6, n7⟩ := hn
 exact ⟨cell_touch h.a ht n1, cell_touch h.fs ht n2, cell_touch h.b ht n3, cell_touch h.l ht n4, cell_touch h.d ht n5, cell_touch h.o ht n6, cell_touch h.f0 ht n7, cell_touch h.f1 ht n7⟩
theorem Boxes.lt {w : World} {ba bf bb bl bd bo q p : Nat} {F0 F1 : List UInt8} {f : Bool} {x c : Nat} (h : Boxes w ba bf bb bl bd bo q p F0 F1 f x c) : ba < w.heap.size ∧ bf < w.heap.size ∧ bb < w.heap.size ∧ bl < w.heap.size ∧ bd < w.heap.size ∧ bo < w.heap.size ∧ q < w.heap.size :=
 ⟨World.block_lt_of_cell? _ _ h.a, World.block_lt_of_cell? _ _ h.fs, World.block_lt_of_cell? _ _ h.b, World.block_lt_of_cell? _ _ h.l, World.block_lt_of_cell? _ _ h.d, World.block_lt_of_cell? _ _ h.o, World.block_lt_of_cell? _ _ h.f0⟩
theorem NotIn.newer {w : World} {c : Nat} {rb rb' : Option Nat} {ba bf bb bl bd bo q : Nat} (h : NotIn (own2 c rb) ba bf bb bl bd bo q) (hn : Newer w rb rb') (hlt : ba < w.heap.size ∧ bf < w.heap.size ∧ bb < w.heap.size ∧ bl < w.heap.size ∧ bd < w.heap.size ∧ bo < w.heap.size ∧ q < w.heap.size) : NotIn (own2 c rb') ba bf bb bl bd bo q := by
 have key : ∀ b, b < w.heap.size → ¬ own2 c rb b → ¬ own2 c rb' b := fun b hb h0 ho => by
  rcases ho with ho | ho
  ·exact h0 (.inl ho)
  ·rcases hn b ho with h1 | h1
   ·exact h0 (.inr h1)
   ·omega
 obtain ⟨n1, n2, n3, n4, n5, n6, n7⟩ := h
 obtain ⟨l1, l2, l3, l4, l5, l6, l7⟩ := hlt
 exact ⟨key _ l1 n1, key _ l2 n2, key _ l3 n3, key _ l4 n4, key _ l5 n5, key _ l6 n6, key _ l7 n7⟩
/-- The second half of the closure: the other file is cut, where it has bytes. -/
structure Half (W w' : World) (ba bf bb bl bd bo q p : Nat) (F0 F1 : List UInt8) (f : Bool) (x c : Nat) (l : Wal.LS) (d E : DS) (m : Nat) (rb : Option Nat) : Prop where
 boxes : Boxes w' ba bf bb bl bd bo q p F0 F1 f x c
 log : LogAt w' x c l
 ex : ∃ rb', DiskAt w' c E m rb' ∧ Newer W rb rb' ∧ (E.dead = true → d.dead = false → rb' = none) ∧ NotIn (own2 c rb') ba bf bb bl bd bo q
 touch : Touch (own2 c rb) W w'
theorem Half.worked {W w' : World} {ba bf bb bl bd bo q p : Nat} {F0 F1 : List UInt8} {f : Bool} {x c : Nat} {l : Wal.LS} {d E : DS} {m : Nat} {rb : Option Nat} (h : Half W w' ba bf bb bl bd bo q p F0 F1 f x c l d E m rb) : Worked x c l d E m rb W w' :=
 ⟨h.log, by obtain ⟨rb', h1, h2, h3, _⟩ := h.ex; exact ⟨rb', h1, h2, h3⟩, own3_of h.touch⟩
theorem Half.drew {W w' : World} {ba bf bb bl bd bo q p : Nat} {F0 F1 : List UInt8} {f : Bool} {x c : Nat} {l : Wal.LS} {d E : DS} {m : Nat} {rb : Option Nat} (h : Half W w' ba bf bb bl bd bo q p F0 F1 f x c l d E m rb) {n : Nat} : Half W (w'.drewN n) ba bf bb bl bd bo q p F0 F1 f x c l d E m rb := by
 have hb : Below w'.heap.size w' (w'.drewN n) := below_drewN (Below.refl _ _) n
 obtain ⟨rb', h1, h2, h3, h4⟩ := h.ex
 exact ⟨h.boxes.touch (Touch.of_below (S := fun _ => False) hb) ⟨id, id, id, id, id, id, id⟩, h.log.below hb, ⟨rb', h1.below hb, h2, h3, h4⟩, Touch.trans h.touch (Touch.of_below (S := fun _ => False) hb) (fun _ _ h => h.elim)⟩
/-- A cut within the closure. -/
theorem half_cut {W w1 : World} {ba bf bb bl bd bo q p : Nat} {F0 F1 : List UInt8} {f : Bool} {x c : Nat} {l : Wal.LS} {d E : DS} {m : Nat} {rb : Option Nat} (h : Half W w1 ba bf bb bl bd bo q p F0 F1 f x c l d E m rb) (g n : Int) (hEd : d.dead = false → E.dead = false) :
  Calls Tryz.prog 98 #[.pointer (some ⟨c, 0, none⟩), .int .i64 g, .int .i64 n] w1 fun e w' => e = .returned (.int .i64 (E.cut g n).2) ∧ Half W w' ba bf bb bl bd bo q p F0 F1 f x c l d (E.cut g n).1 m rb := by
 obtain ⟨rb', h1, h2, h3, h4⟩ := h.ex
 refine (cut_anyN c w1 E m rb' g n h1).mono ?_
 rintro e w' ⟨he, rb2, k1, k2, k3, k4⟩
 exact ⟨he, h.boxes.touch k3 h4, h.log.touch k3 (h.log.apart h1), ⟨rb2, k1, h2.trans k2 h.touch.size, fun a b => k4 a (hEd b), h4.newer k2 h.boxes.lt⟩, own2_trans h.touch h2 k3⟩
theorem cut_dead {d : DS} {f n : Int} (h : (d.cut f n).2 = 0) : d.dead = false → (d.cut f n).1.dead = false := by
 intro hd
 unfold DS.cut at h ⊢
 rw [if_neg (by simp [hd])] at h ⊢
 split
 ·exact hd
 ·rename_i q hq
  rw [hq] at h
  simp only at h
  split
  ·exact hd
  ·rename_i h1
   rw [if_neg h1] at h
   split
   ·rename_i h2; rw [if_pos h2] at h; cases h
   ·cases q <;> exact hd
end Go.Proofs.YtpjpknndfhablaaGreat
namespace Go.Proofs.YtpjpknndfhablaaGreat
open Go.RowKit

set_option maxHeartbeats 4000000 in
set_option maxRecDepth 100000 in
theorem open1_false (x c ba bf bb bl bd bo q p : Nat) (W : World) (l : Wal.LS) (d : DS) (m : Nat) (rb : Option Nat) (hb : Boxes W ba bf bb bl bd bo q p (d.file false) (d.file true) false x c) (hn : NotIn (own2 c rb) ba bf bb bl bd bo q) (hl : LogAt W x c l) (h : DiskAt W c d m rb) :
  Calls Tryz.prog 96 #[.pointer (some ⟨ba, 0, none⟩), .pointer (some ⟨bf, 0, none⟩), .pointer (some ⟨bb, 0, none⟩), .pointer (some ⟨bl, 0, none⟩), .pointer (some ⟨bd, 0, none⟩), .pointer (some ⟨bo, 0, none⟩)] W fun e w' => Ends (Wal.cuts d false p).2 e ∧ Worked x c l d (Wal.cuts d false p).1 m rb W w' := by
 obtain ⟨F0, hF0⟩ : ∃ F, d.file false = F := ⟨_, rfl⟩
 obtain ⟨F1, hF1⟩ : ∃ F, d.file true = F := ⟨_, rfl⟩
 have H0 : Half W W ba bf bb bl bd bo q p (d.file false) (d.file true) false x c l d d m rb := ⟨hb, hl, ⟨rb, h, Newer.refl _ _, fun h1 h2 => (by rw [h1] at h2; cases h2), hn⟩, Touch.refl _ _⟩
 rw [hF0, hF1] at H0
 have hlF : F0.length ≤ 1048576 := by rw [← hF0]; exact h.1.base_len' false
 have hlO : F1.length ≤ 1048576 := by rw [← hF1]; exact h.1.base_len' true
 have ca := H0.boxes.a
 have cf := H0.boxes.fs
 have cb : W.cell? ⟨bb, 0, none⟩ = some (.int .i64 0) := H0.boxes.b
 have cf0 := H0.boxes.f0
 obtain ⟨R, r, hR⟩ : ∃ R r, Wal.cutEnd d false p = (R, r) := ⟨_, _, rfl⟩
 have HR := Lib.hid hR
 have HH := Lib.hid H0
 have HG := Lib.hid hF0
 have HK := Lib.hid hF1
 clear hb hn hl h H0 hR hF0 hF1
 go_enter Tryz.func96, Tryz.ntmps96
 go_wp2_with fail
 go_quiet (fail)
 have H1 := Lib.hid (HH.out.drew (n := nq))
 clear ca cf cb cf0 HH
 generalize W.drewN nq = w1 at H1 ⊢
 by_cases hp : p < F0.length
 ·have HCU : Hid (d.cut (DS.fi false) p = (R, r)) := Lib.hid (by have := HR.out; unfold Wal.cutEnd at this; rwa [HG.out, if_pos hp] at this)
  go_wp2_with fail
  have hS0 : w1.drew.cell? ⟨bl, 0, none⟩ = some (.pointer (some ⟨x, 0, none⟩)) ∧ w1.drew.cell? ⟨bd, 0, none⟩ = some (.pointer (some ⟨c, 0, none⟩)) ∧ w1.drew.cell? ⟨bb, 0, none⟩ = some (.int .i64 0) ∧ w1.drew.cell? ⟨ba, 0, none⟩ = some (.int .i64 p) := ⟨H1.out.boxes.l, H1.out.boxes.d, H1.out.boxes.b, H1.out.boxes.a⟩
  refine wp_region_heldL (S := fun w' => w'.cell? ⟨bl, 0, none⟩ = some (.pointer (some ⟨x, 0, none⟩)) ∧ w'.cell? ⟨bd, 0, none⟩ = some (.pointer (some ⟨c, 0, none⟩)) ∧ w'.cell? ⟨bb, 0, none⟩ = some (.int .i64 0) ∧ w'.cell? ⟨ba, 0, none⟩ = some (.int .i64 p)) (by kernel_rfl) ?_
  refine planned [0, 1, 2, 3] ?_
  iterate 4 (refine planned_take (v := ?_) rfl (by kernel_rfl) (by kernel_rfl) (by kernel_rfl) (fun _ _ _ h => h) ?_ (by assumption) ?_; rotate_left; (focus (first | (refine Or.inr ⟨by rfl, ?_⟩; with_reducible rfl) | (refine Or.inl ⟨by rfl, ?_⟩; (intro w hSw; (try dsimp only at hSw); go_simp); try with_reducible rfl))); try simp only [Act.put, List.setIfInBounds_toArray, List.set_cons_zero, List.set_cons_succ])
  refine planned_end ?_
  refine wpAnyH_oneL (i := 4) rfl (by kernel_rfl) ?_
  intro K hK
  rw [if_pos (by rfl)]
  go_simp
  go_at_call 98
  have H1d := H1.out.drew (n := 1)
  refine (half_cut (w1 := w1.drew) H1d 0 p id).mono ?_
  have hcu : d.cut 0 p = (R, r) := HCU.out
  rw [hcu]
  rintro e w2 ⟨rfl, h2⟩
  have hS2 : w2.cell? ⟨bl, 0, none⟩ = some (.pointer (some ⟨x, 0, none⟩)) ∧ w2.cell? ⟨bd, 0, none⟩ = some (.pointer (some ⟨c, 0, none⟩)) ∧ w2.cell? ⟨bb, 0, none⟩ = some (.int .i64 0) ∧ w2.cell? ⟨ba, 0, none⟩ = some (.int .i64 p) := ⟨h2.boxes.l, h2.boxes.d, h2.boxes.b, h2.boxes.a⟩
  have H2 := Lib.hid h2
  clear h2 hcu
  refine hK _ _ hS2 ?_
  clear hK K
  refine wpAnyH_oneL (i := 5) rfl (by kernel_rfl) ?_
  intro K hK
  rw [if_pos (by rfl)]
  go_simp
  go_at_call 97
  by_cases hr0 : r = 0
  ·subst hr0
   have hRd : d.dead = false → R.dead = false := fun h0 => by
    have := cut_dead (d := d) (f := DS.fi false) (n := p) (by rw [HCU.out]) h0
    rwa [HCU.out] at this
   refine (must_ok _ _).mono ?_
   rintro e w3 ⟨rfl, rfl⟩
   refine hK _ _ hS2 ?_
   clear hK K
   try simp only [Act.put, List.setIfInBounds_toArray, List.set_cons_zero, List.set_cons_succ]
   refine wpAnyH_done (by kernel_rfl) ?_ _
   clear hS0 hS2
   obtain ⟨hhk, hhc⟩ : Hid (F1 = [] → Wal.cuts d false p = (R, 0)) ∧ Hid (F1 ≠ [] → Wal.cuts d false p = R.cut (DS.fi true) 0) := ⟨Lib.hid (fun h0 => by unfold Wal.cuts Wal.cutOther; rw [HR.out, if_neg (fun h => h rfl)]; show (if d.file true ≠ [] then _ else _) = _; rw [HK.out, if_neg (fun h => h h0)]), Lib.hid (fun h0 => by unfold Wal.cuts Wal.cutOther; rw [HR.out, if_neg (fun h => h rfl)]; show (if d.file true ≠ [] then _ else _) = _; rw [HK.out, if_pos h0]; rfl)⟩
   have ef := H2.out.boxes.fs
   have eo : w2.cell? ⟨bo, 0, none⟩ = some (.int .i64 1) := H2.out.boxes.o
   have ek := H2.out.boxes.f1
   clear HR HG HK
   cases F1 with
   | nil =>
    have HC := Lib.hid (hhk.out rfl)
    clear hhk hhc
    go_wp2_with fail
    go_end0
    rw [HC.out]
    exact ⟨.inl ⟨rfl, rfl⟩, H2.out.worked⟩
   | cons y ys =>
    have HC := Lib.hid (hhc.out (by simp))
    clear hhk hhc
    obtain ⟨R2, r2, hR2⟩ : ∃ R2 r2, R.cut (DS.fi true) 0 = (R2, r2) := ⟨_, _, rfl⟩
    have hcu2 : R.cut 1 0 = (R2, r2) := hR2
    rw [hR2] at HC
    clear hR2
    go_wp2_with fail
    clear ef eo ek
    have hS3 : w2.drew.cell? ⟨bl, 0, none⟩ = some (.pointer (some ⟨x, 0, none⟩)) ∧ w2.drew.cell? ⟨bd, 0, none⟩ = some (.pointer (some ⟨c, 0, none⟩)) ∧ w2.drew.cell? ⟨bo, 0, none⟩ = some (.int .i64 1) := ⟨H2.out.boxes.l, H2.out.boxes.d, H2.out.boxes.o⟩
    refine wp_region_heldL (S := fun w' => w'.cell? ⟨bl, 0, none⟩ = some (.pointer (some ⟨x, 0, none⟩)) ∧ w'.cell? ⟨bd, 0, none⟩ = some (.pointer (some ⟨c, 0, none⟩)) ∧ w'.cell? ⟨bo, 0, none⟩ = some (.int .i64 1)) (by kernel_rfl) ?_
    refine planned [0, 1, 2] ?_
    iterate 3 (refine planned_take (v := ?_) rfl (by kernel_rfl) (by kernel_rfl) (by kernel_rfl) (fun _ _ _ h => h) ?_ (by assumption) ?_; rotate_left; (focus (first | (refine Or.inr ⟨by rfl, ?_⟩; with_reducible rfl) | (refine Or.inl ⟨by rfl, ?_⟩; (intro w hSw; (try dsimp only at hSw); go_simp); try with_reducible rfl))); try simp only [Act.put, List.setIfInBounds_toArray, List.set_cons_zero, List.set_cons_succ])
    refine planned_end ?_
    refine wpAnyH_oneL (i := 3) rfl (by kernel_rfl) ?_
    intro K hK
    rw [if_pos (by rfl)]
    go_simp
    go_at_call 98
    have H2d := H2.out.drew (n := 1)
    refine (half_cut (w1 := w2.drew) H2d 1 0 hRd).mono ?_
    rw [hcu2]
    rintro e w4 ⟨rfl, h4⟩
    have hS4 : w4.cell? ⟨bl, 0, none⟩ = some (.pointer (some ⟨x, 0, none⟩)) ∧ w4.cell? ⟨bd, 0, none⟩ = some (.pointer (some ⟨c, 0, none⟩)) ∧ w4.cell? ⟨bo, 0, none⟩ = some (.int .i64 1) := ⟨h4.boxes.l, h4.boxes.d, h4.boxes.o⟩
    have H4 := Lib.hid h4
    clear h4 hcu2 H2d
    refine hK _ _ hS4 ?_
    clear hK K
    refine wpAnyH_oneL (i := 4) rfl (by kernel_rfl) ?_
    intro K hK
    rw [if_pos (by rfl)]
    go_simp
    go_at_call 97
    by_cases hr2 : r2 = 0
    ·subst hr2
     refine (must_ok _ _).mono ?_
     rintro e w5 ⟨rfl, rfl⟩
     refine hK _ _ hS4 ?_
     clear hK K
     try simp only [Act.put, List.setIfInBounds_toArray, List.set_cons_zero, List.set_cons_succ]
     refine wpAnyH_done (by kernel_rfl) ?_ _
     go_wp2_with fail
     go_end0
     rw [HC.out]
     exact ⟨.inl ⟨rfl, rfl⟩, H4.out.worked⟩
    ·refine (must_bad _ r2 hr2 _).mono ?_
     rintro e w5 ⟨rfl, rfl⟩
     refine ⟨rfl, ?_⟩
     rw [HC.out]
     exact ⟨.inr ⟨hr2, rfl⟩, H4.out.worked⟩
  ·refine (must_bad _ r hr0 _).mono ?_
   rintro e w3 ⟨rfl, rfl⟩
   have hcc : Wal.cuts d false p = (R, r) := by unfold Wal.cuts; rw [HR.out, if_pos hr0]
   refine ⟨rfl, ?_⟩
   rw [hcc]
   exact ⟨.inr ⟨hr0, rfl⟩, H2.out.worked⟩
 ·have hE : (d, (0 : Int)) = (R, r) := by have := HR.out; unfold Wal.cutEnd at this; rwa [HG.out, if_neg hp] at this
  obtain ⟨rfl, rfl⟩ := Prod.mk.inj hE
  have hRd : d.dead = false → d.dead = false := id
  have H2 := H1
  clear hE
  obtain ⟨hhk, hhc⟩ : Hid (F1 = [] → Wal.cuts d false p = (d, 0)) ∧ Hid (F1 ≠ [] → Wal.cuts d false p = d.cut (DS.fi true) 0) := ⟨Lib.hid (fun h0 => by unfold Wal.cuts Wal.cutOther; rw [HR.out, if_neg (fun h => h rfl)]; show (if d.file true ≠ [] then _ else _) = _; rw [HK.out, if_neg (fun h => h h0)]), Lib.hid (fun h0 => by unfold Wal.cuts Wal.cutOther; rw [HR.out, if_neg (fun h => h rfl)]; show (if d.file true ≠ [] then _ else _) = _; rw [HK.out, if_pos h0]; rfl)⟩
  have ef := H2.out.boxes.fs
  have eo : w1.cell? ⟨bo, 0, none⟩ = some (.int .i64 1) := H2.out.boxes.o
  have ek := H2.out.boxes.f1
  clear HR HG HK
  cases F1 with
  | nil =>
   have HC := Lib.hid (hhk.out rfl)
   clear hhk hhc
   go_wp2_with fail
   go_end0
   rw [HC.out]
   exact ⟨.inl ⟨rfl, rfl⟩, H2.out.worked⟩
  | cons y ys =>
   have HC := Lib.hid (hhc.out (by simp))
   clear hhk hhc
   obtain ⟨R2, r2, hR2⟩ : ∃ R2 r2, d.cut (DS.fi true) 0 = (R2, r2) := ⟨_, _, rfl⟩
   have hcu2 : d.cut 1 0 = (R2, r2) := hR2
   rw [hR2] at HC
   clear hR2
   go_wp2_with fail
   clear ef eo ek
   have hS3 : w1.drew.cell? ⟨bl, 0, none⟩ = some (.pointer (some ⟨x, 0, none⟩)) ∧ w1.drew.cell? ⟨bd, 0, none⟩ = some (.pointer (some ⟨c, 0, none⟩)) ∧ w1.drew.cell? ⟨bo, 0, none⟩ = some (.int .i64 1) := ⟨H2.out.boxes.l, H2.out.boxes.d, H2.out.boxes.o⟩
   refine wp_region_heldL (S := fun w' => w'.cell? ⟨bl, 0, none⟩ = some (.pointer (some ⟨x, 0, none⟩)) ∧ w'.cell? ⟨bd, 0, none⟩ = some (.pointer (some ⟨c, 0, none⟩)) ∧ w'.cell? ⟨bo, 0, none⟩ = some (.int .i64 1)) (by kernel_rfl) ?_
   refine planned [0, 1, 2] ?_
   iterate 3 (refine planned_take (v := ?_) rfl (by kernel_rfl) (by kernel_rfl) (by kernel_rfl) (fun _ _ _ h => h) ?_ (by assumption) ?_; rotate_left; (focus (first | (refine Or.inr ⟨by rfl, ?_⟩; with_reducible rfl) | (refine Or.inl ⟨by rfl, ?_⟩; (intro w hSw; (try dsimp only at hSw); go_simp); try with_reducible rfl))); try simp only [Act.put, List.setIfInBounds_toArray, List.set_cons_zero, List.set_cons_succ])
   refine planned_end ?_
   refine wpAnyH_oneL (i := 3) rfl (by kernel_rfl) ?_
   intro K hK
   rw [if_pos (by rfl)]
   go_simp
   go_at_call 98
   have H2d := H2.out.drew (n := 1)
   refine (half_cut (w1 := w1.drew) H2d 1 0 hRd).mono ?_
   rw [hcu2]
   rintro e w4 ⟨rfl, h4⟩
   have hS4 : w4.cell? ⟨bl, 0, none⟩ = some (.pointer (some ⟨x, 0, none⟩)) ∧ w4.cell? ⟨bd, 0, none⟩ = some (.pointer (some ⟨c, 0, none⟩)) ∧ w4.cell? ⟨bo, 0, none⟩ = some (.int .i64 1) := ⟨h4.boxes.l, h4.boxes.d, h4.boxes.o⟩
   have H4 := Lib.hid h4
   clear h4 hcu2 H2d
   refine hK _ _ hS4 ?_
   clear hK K
   refine wpAnyH_oneL (i := 4) rfl (by kernel_rfl) ?_
   intro K hK
   rw [if_pos (by rfl)]
   go_simp
   go_at_call 97
   by_cases hr2 : r2 = 0
   ·subst hr2
    refine (must_ok _ _).mono ?_
    rintro e w5 ⟨rfl, rfl⟩
    refine hK _ _ hS4 ?_
    clear hK K
    try simp only [Act.put, List.setIfInBounds_toArray, List.set_cons_zero, List.set_cons_succ]
    refine wpAnyH_done (by kernel_rfl) ?_ _
    go_wp2_with fail
    go_end0
    rw [HC.out]
    exact ⟨.inl ⟨rfl, rfl⟩, H4.out.worked⟩
   ·refine (must_bad _ r2 hr2 _).mono ?_
    rintro e w5 ⟨rfl, rfl⟩
    refine ⟨rfl, ?_⟩
    rw [HC.out]
    exact ⟨.inr ⟨hr2, rfl⟩, H4.out.worked⟩

set_option maxHeartbeats 4000000 in
set_option maxRecDepth 100000 in
theorem open1_true (x c ba bf bb bl bd bo q p : Nat) (W : World) (l : Wal.LS) (d : DS) (m : Nat) (rb : Option Nat) (hb : Boxes W ba bf bb bl bd bo q p (d.file false) (d.file true) true x c) (hn : NotIn (own2 c rb) ba bf bb bl bd bo q) (hl : LogAt W x c l) (h : DiskAt W c d m rb) :
  Calls Tryz.prog 96 #[.pointer (some ⟨ba, 0, none⟩), .pointer (some ⟨bf, 0, none⟩), .pointer (some ⟨bb, 0, none⟩), .pointer (some ⟨bl, 0, none⟩), .pointer (some ⟨bd, 0, none⟩), .pointer (some ⟨bo, 0, none⟩)] W fun e w' => Ends (Wal.cuts d true p).2 e ∧ Worked x c l d (Wal.cuts d true p).1 m rb W w' := by
 obtain ⟨F1, hF1⟩ : ∃ F, d.file true = F := ⟨_, rfl⟩
 obtain ⟨F0, hF0⟩ : ∃ F, d.file false = F := ⟨_, rfl⟩
 have H0 : Half W W ba bf bb bl bd bo q p (d.file false) (d.file true) true x c l d d m rb := ⟨hb, hl, ⟨rb, h, Newer.refl _ _, fun h1 h2 => (by rw [h1] at h2; cases h2), hn⟩, Touch.refl _ _⟩
 rw [hF1, hF0] at H0
 have hlF : F1.length ≤ 1048576 := by rw [← hF1]; exact h.1.base_len' true
 have hlO : F0.length ≤ 1048576 := by rw [← hF0]; exact h.1.base_len' false
 have ca := H0.boxes.a
 have cf := H0.boxes.fs
 have cb : W.cell? ⟨bb, 0, none⟩ = some (.int .i64 1) := H0.boxes.b
 have cf1 := H0.boxes.f1
 obtain ⟨R, r, hR⟩ : ∃ R r, Wal.cutEnd d true p = (R, r) := ⟨_, _, rfl⟩
 have HR := Lib.hid hR
 have HH := Lib.hid H0
 have HG := Lib.hid hF1
 have HK := Lib.hid hF0
 clear hb hn hl h H0 hR hF1 hF0
 go_enter Tryz.func96, Tryz.ntmps96
 go_wp2_with fail
 go_quiet (fail)
 have H1 := Lib.hid (HH.out.drew (n := nq))
 clear ca cf cb cf1 HH
 generalize W.drewN nq = w1 at H1 ⊢
 by_cases hp : p < F1.length
 ·have HCU : Hid (d.cut (DS.fi true) p = (R, r)) := Lib.hid (by have := HR.out; unfold Wal.cutEnd at this; rwa [HG.out, if_pos hp] at this)
  go_wp2_with fail
  have hS0 : w1.drew.cell? ⟨bl, 0, none⟩ = some (.pointer (some ⟨x, 0, none⟩)) ∧ w1.drew.cell? ⟨bd, 0, none⟩ = some (.pointer (some ⟨c, 0, none⟩)) ∧ w1.drew.cell? ⟨bb, 0, none⟩ = some (.int .i64 1) ∧ w1.drew.cell? ⟨ba, 0, none⟩ = some (.int .i64 p) := ⟨H1.out.boxes.l, H1.out.boxes.d, H1.out.boxes.b, H1.out.boxes.a⟩
  refine wp_region_heldL (S := fun w' => w'.cell? ⟨bl, 0, none⟩ = some (.pointer (some ⟨x, 0, none⟩)) ∧ w'.cell? ⟨bd, 0, none⟩ = some (.pointer (some ⟨c, 0, none⟩)) ∧ w'.cell? ⟨bb, 0, none⟩ = some (.int .i64 1) ∧ w'.cell? ⟨ba, 0, none⟩ = some (.int .i64 p)) (by kernel_rfl) ?_
  refine planned [0, 1, 2, 3] ?_
  iterate 4 (refine planned_take (v := ?_) rfl (by kernel_rfl) (by kernel_rfl) (by kernel_rfl) (fun _ _ _ h => h) ?_ (by assumption) ?_; rotate_left; (focus (first | (refine Or.inr ⟨by rfl, ?_⟩; with_reducible rfl) | (refine Or.inl ⟨by rfl, ?_⟩; (intro w hSw; (try dsimp only at hSw); go_simp); try with_reducible rfl))); try simp only [Act.put, List.setIfInBounds_toArray, List.set_cons_zero, List.set_cons_succ])
  refine planned_end ?_
  refine wpAnyH_oneL (i := 4) rfl (by kernel_rfl) ?_
  intro K hK
  rw [if_pos (by rfl)]
  go_simp
  go_at_call 98
  have H1d := H1.out.drew (n := 1)
  refine (half_cut (w1 := w1.drew) H1d 1 p id).mono ?_
  have hcu : d.cut 1 p = (R, r) := HCU.out
  rw [hcu]
  rintro e w2 ⟨rfl, h2⟩
  have hS2 : w2.cell? ⟨bl, 0, none⟩ = some (.pointer (some ⟨x, 0, none⟩)) ∧ w2.cell? ⟨bd, 0, none⟩ = some (.pointer (some ⟨c, 0, none⟩)) ∧ w2.cell? ⟨bb, 0, none⟩ = some (.int .i64 1) ∧ w2.cell? ⟨ba, 0, none⟩ = some (.int .i64 p) := ⟨h2.boxes.l, h2.boxes.d, h2.boxes.b, h2.boxes.a⟩
  have H2 := Lib.hid h2
  clear h2 hcu
  refine hK _ _ hS2 ?_
  clear hK K
  refine wpAnyH_oneL (i := 5) rfl (by kernel_rfl) ?_
  intro K hK
  rw [if_pos (by rfl)]
  go_simp
  go_at_call 97
  by_cases hr0 : r = 0
  ·subst hr0
   have hRd : d.dead = false → R.dead = false := fun h0 => by
    have := cut_dead (d := d) (f := DS.fi true) (n := p) (by rw [HCU.out]) h0
    rwa [HCU.out] at this
   refine (must_ok _ _).mono ?_
   rintro e w3 ⟨rfl, rfl⟩
   refine hK _ _ hS2 ?_
   clear hK K
   try simp only [Act.put, List.setIfInBounds_toArray, List.set_cons_zero, List.set_cons_succ]
   refine wpAnyH_done (by kernel_rfl) ?_ _
   clear hS0 hS2
   obtain ⟨hhk, hhc⟩ : Hid (F0 = [] → Wal.cuts d true p = (R, 0)) ∧ Hid (F0 ≠ [] → Wal.cuts d true p = R.cut (DS.fi false) 0) := ⟨Lib.hid (fun h0 => by unfold Wal.cuts Wal.cutOther; rw [HR.out, if_neg (fun h => h rfl)]; show (if d.file false ≠ [] then _ else _) = _; rw [HK.out, if_neg (fun h => h h0)]), Lib.hid (fun h0 => by unfold Wal.cuts Wal.cutOther; rw [HR.out, if_neg (fun h => h rfl)]; show (if d.file false ≠ [] then _ else _) = _; rw [HK.out, if_pos h0]; rfl)⟩
   have ef := H2.out.boxes.fs
   have eo : w2.cell? ⟨bo, 0, none⟩ = some (.int .i64 0) := H2.out.boxes.o
   have ek := H2.out.boxes.f0
   clear HR HG HK
   cases F0 with
   | nil =>
    have HC := Lib.hid (hhk.out rfl)
    clear hhk hhc
    go_wp2_with fail
    go_end0
    rw [HC.out]
    exact ⟨.inl ⟨rfl, rfl⟩, H2.out.worked⟩
   | cons y ys =>
    have HC := Lib.hid (hhc.out (by simp))
    clear hhk hhc
    obtain ⟨R2, r2, hR2⟩ : ∃ R2 r2, R.cut (DS.fi false) 0 = (R2, r2) := ⟨_, _, rfl⟩
    have hcu2 : R.cut 0 0 = (R2, r2) := hR2
    rw [hR2] at HC
    clear hR2
    go_wp2_with fail
    clear ef eo ek
    have hS3 : w2.drew.cell? ⟨bl, 0, none⟩ = some (.pointer (some ⟨x, 0, none⟩)) ∧ w2.drew.cell? ⟨bd, 0, none⟩ = some (.pointer (some ⟨c, 0, none⟩)) ∧ w2.drew.cell? ⟨bo, 0, none⟩ = some (.int .i64 0) := ⟨H2.out.boxes.l, H2.out.boxes.d, H2.out.boxes.o⟩
    refine wp_region_heldL (S := fun w' => w'.cell? ⟨bl, 0, none⟩ = some (.pointer (some ⟨x, 0, none⟩)) ∧ w'.cell? ⟨bd, 0, none⟩ = some (.pointer (some ⟨c, 0, none⟩)) ∧ w'.cell? ⟨bo, 0, none⟩ = some (.int .i64 0)) (by kernel_rfl) ?_
    refine planned [0, 1, 2] ?_
    iterate 3 (refine planned_take (v := ?_) rfl (by kernel_rfl) (by kernel_rfl) (by kernel_rfl) (fun _ _ _ h => h) ?_ (by assumption) ?_; rotate_left; (focus (first | (refine Or.inr ⟨by rfl, ?_⟩; with_reducible rfl) | (refine Or.inl ⟨by rfl, ?_⟩; (intro w hSw; (try dsimp only at hSw); go_simp); try with_reducible rfl))); try simp only [Act.put, List.setIfInBounds_toArray, List.set_cons_zero, List.set_cons_succ])
    refine planned_end ?_
    refine wpAnyH_oneL (i := 3) rfl (by kernel_rfl) ?_
    intro K hK
    rw [if_pos (by rfl)]
    go_simp
    go_at_call 98
    have H2d := H2.out.drew (n := 1)
    refine (half_cut (w1 := w2.drew) H2d 0 0 hRd).mono ?_
    rw [hcu2]
    rintro e w4 ⟨rfl, h4⟩
    have hS4 : w4.cell? ⟨bl, 0, none⟩ = some (.pointer (some ⟨x, 0, none⟩)) ∧ w4.cell? ⟨bd, 0, none⟩ = some (.pointer (some ⟨c, 0, none⟩)) ∧ w4.cell? ⟨bo, 0, none⟩ = some (.int .i64 0) := ⟨h4.boxes.l, h4.boxes.d, h4.boxes.o⟩
    have H4 := Lib.hid h4
    clear h4 hcu2 H2d
    refine hK _ _ hS4 ?_
    clear hK K
    refine wpAnyH_oneL (i := 4) rfl (by kernel_rfl) ?_
    intro K hK
    rw [if_pos (by rfl)]
    go_simp
    go_at_call 97
    by_cases hr2 : r2 = 0
    ·subst hr2
     refine (must_ok _ _).mono ?_
     rintro e w5 ⟨rfl, rfl⟩
     refine hK _ _ hS4 ?_
     clear hK K
     try simp only [Act.put, List.setIfInBounds_toArray, List.set_cons_zero, List.set_cons_succ]
     refine wpAnyH_done (by kernel_rfl) ?_ _
     go_wp2_with fail
     go_end0
     rw [HC.out]
     exact ⟨.inl ⟨rfl, rfl⟩, H4.out.worked⟩
    ·refine (must_bad _ r2 hr2 _).mono ?_
     rintro e w5 ⟨rfl, rfl⟩
     refine ⟨rfl, ?_⟩
     rw [HC.out]
     exact ⟨.inr ⟨hr2, rfl⟩, H4.out.worked⟩
  ·refine (must_bad _ r hr0 _).mono ?_
   rintro e w3 ⟨rfl, rfl⟩
   have hcc : Wal.cuts d true p = (R, r) := by unfold Wal.cuts; rw [HR.out, if_pos hr0]
   refine ⟨rfl, ?_⟩
   rw [hcc]
   exact ⟨.inr ⟨hr0, rfl⟩, H2.out.worked⟩
 ·have hE : (d, (0 : Int)) = (R, r) := by have := HR.out; unfold Wal.cutEnd at this; rwa [HG.out, if_neg hp] at this
  obtain ⟨rfl, rfl⟩ := Prod.mk.inj hE
  have hRd : d.dead = false → d.dead = false := id
  have H2 := H1
  clear hE
  obtain ⟨hhk, hhc⟩ : Hid (F0 = [] → Wal.cuts d true p = (d, 0)) ∧ Hid (F0 ≠ [] → Wal.cuts d true p = d.cut (DS.fi false) 0) := ⟨Lib.hid (fun h0 => by unfold Wal.cuts Wal.cutOther; rw [HR.out, if_neg (fun h => h rfl)]; show (if d.file false ≠ [] then _ else _) = _; rw [HK.out, if_neg (fun h => h h0)]), Lib.hid (fun h0 => by unfold Wal.cuts Wal.cutOther; rw [HR.out, if_neg (fun h => h rfl)]; show (if d.file false ≠ [] then _ else _) = _; rw [HK.out, if_pos h0]; rfl)⟩
  have ef := H2.out.boxes.fs
  have eo : w1.cell? ⟨bo, 0, none⟩ = some (.int .i64 0) := H2.out.boxes.o
  have ek := H2.out.boxes.f0
  clear HR HG HK
  cases F0 with
  | nil =>
   have HC := Lib.hid (hhk.out rfl)
   clear hhk hhc
   go_wp2_with fail
   go_end0
   rw [HC.out]
   exact ⟨.inl ⟨rfl, rfl⟩, H2.out.worked⟩
  | cons y ys =>
   have HC := Lib.hid (hhc.out (by simp))
   clear hhk hhc
   obtain ⟨R2, r2, hR2⟩ : ∃ R2 r2, d.cut (DS.fi false) 0 = (R2, r2) := ⟨_, _, rfl⟩
   have hcu2 : d.cut 0 0 = (R2, r2) := hR2
   rw [hR2] at HC
   clear hR2
   go_wp2_with fail
   clear ef eo ek
   have hS3 : w1.drew.cell? ⟨bl, 0, none⟩ = some (.pointer (some ⟨x, 0, none⟩)) ∧ w1.drew.cell? ⟨bd, 0, none⟩ = some (.pointer (some ⟨c, 0, none⟩)) ∧ w1.drew.cell? ⟨bo, 0, none⟩ = some (.int .i64 0) := ⟨H2.out.boxes.l, H2.out.boxes.d, H2.out.boxes.o⟩
   refine wp_region_heldL (S := fun w' => w'.cell? ⟨bl, 0, none⟩ = some (.pointer (some ⟨x, 0, none⟩)) ∧ w'.cell? ⟨bd, 0, none⟩ = some (.pointer (some ⟨c, 0, none⟩)) ∧ w'.cell? ⟨bo, 0, none⟩ = some (.int .i64 0)) (by kernel_rfl) ?_
   refine planned [0, 1, 2] ?_
   iterate 3 (refine planned_take (v := ?_) rfl (by kernel_rfl) (by kernel_rfl) (by kernel_rfl) (fun _ _ _ h => h) ?_ (by assumption) ?_; rotate_left; (focus (first | (refine Or.inr ⟨by rfl, ?_⟩; with_reducible rfl) | (refine Or.inl ⟨by rfl, ?_⟩; (intro w hSw; (try dsimp only at hSw); go_simp); try with_reducible rfl))); try simp only [Act.put, List.setIfInBounds_toArray, List.set_cons_zero, List.set_cons_succ])
   refine planned_end ?_
   refine wpAnyH_oneL (i := 3) rfl (by kernel_rfl) ?_
   intro K hK
   rw [if_pos (by rfl)]
   go_simp
   go_at_call 98
   have H2d := H2.out.drew (n := 1)
   refine (half_cut (w1 := w1.drew) H2d 0 0 hRd).mono ?_
   rw [hcu2]
   rintro e w4 ⟨rfl, h4⟩
   have hS4 : w4.cell? ⟨bl, 0, none⟩ = some (.pointer (some ⟨x, 0, none⟩)) ∧ w4.cell? ⟨bd, 0, none⟩ = some (.pointer (some ⟨c, 0, none⟩)) ∧ w4.cell? ⟨bo, 0, none⟩ = some (.int .i64 0) := ⟨h4.boxes.l, h4.boxes.d, h4.boxes.o⟩
   have H4 := Lib.hid h4
   clear h4 hcu2 H2d
   refine hK _ _ hS4 ?_
   clear hK K
   refine wpAnyH_oneL (i := 4) rfl (by kernel_rfl) ?_
   intro K hK
   rw [if_pos (by rfl)]
   go_simp
   go_at_call 97
   by_cases hr2 : r2 = 0
   ·subst hr2
    refine (must_ok _ _).mono ?_
    rintro e w5 ⟨rfl, rfl⟩
    refine hK _ _ hS4 ?_
    clear hK K
    try simp only [Act.put, List.setIfInBounds_toArray, List.set_cons_zero, List.set_cons_succ]
    refine wpAnyH_done (by kernel_rfl) ?_ _
    go_wp2_with fail
    go_end0
    rw [HC.out]
    exact ⟨.inl ⟨rfl, rfl⟩, H4.out.worked⟩
   ·refine (must_bad _ r2 hr2 _).mono ?_
    rintro e w5 ⟨rfl, rfl⟩
    refine ⟨rfl, ?_⟩
    rw [HC.out]
    exact ⟨.inr ⟨hr2, rfl⟩, H4.out.worked⟩
end Go.Proofs.YtpjpknndfhablaaGreat
namespace Go.Proofs.YtpjpknndfhablaaGreat
namespace Wal
theorem whole_le {file : List UInt8} {p most : Nat} (h : (whole file p most).2 = true) : p + 8 + (whole file p most).1.length ≤ file.length ∧ (whole file p most).1.length ≤ most := by
 unfold whole at h ⊢
 split at h
 ·cases h
 ·rename_i h1
  split at h
  ·cases h
  ·rename_i h2
   rw [if_neg h1, if_neg h2]
   simp only [List.length_take, List.length_drop]
   omega
theorem reads_fuel {file : List UInt8} : ∀ {k j p : Nat}, file.length + 1 - p ≤ k → file.length + 1 - p ≤ j → reads file k p = reads file j p
 | 0, 0, _, _, _ => rfl
 | 0, j + 1, p, h1, h2 => by
  have hw : (whole file p 65536).2 = false := by
   cases hb : (whole file p 65536).2
   ·rfl
   ·have := (whole_le hb).1; omega
  simp [reads, hw]
 | k + 1, 0, p, h1, h2 => by
  have hw : (whole file p 65536).2 = false := by
   cases hb : (whole file p 65536).2
   ·rfl
   ·have := (whole_le hb).1; omega
  simp [reads, hw]
 | k + 1, j + 1, p, h1, h2 => by
  cases hb : (whole file p 65536).2
  ·simp [reads, hb]
  ·have := (whole_le hb).1
   simp only [reads, hb, if_true]
   rw [reads_fuel (k := k) (j := j) (by omega) (by omega)]
theorem recs_done {file : List UInt8} {p : Nat} (h : (whole file p 65536).2 = false) : recs file p = ([], p) := by
 unfold recs
 cases file.length + 1 - p with
 | zero => rfl
 | succ k => simp [reads, h]
theorem recs_more {file : List UInt8} {p : Nat} (h : (whole file p 65536).2 = true) : recs file p = ((whole file p 65536).1 :: (recs file (p + 8 + (whole file p 65536).1.length)).1, (recs file (p + 8 + (whole file p 65536).1.length)).2) := by
 have hle := (whole_le h).1
 unfold recs
 obtain ⟨k, hk⟩ : ∃ k, file.length + 1 - p = k + 1 := ⟨file.length - p, by omega⟩
 rw [hk]
 simp only [reads, h, if_true]
 rw [reads_fuel (k := k) (j := file.length + 1 - (p + 8 + (whole file p 65536).1.length)) (by omega) (by omega)]
theorem recs_count {file : List UInt8} : ∀ (n p : Nat), file.length + 1 - p ≤ n → (recs file p).1.length ≤ file.length
 | 0, p, h => by
  have hw : (whole file p 65536).2 = false := by
   cases hb : (whole file p 65536).2
   ·rfl
   ·have := (whole_le hb).1; omega
  rw [recs_done hw]; simp
 | n + 1, p, h => by
  have key : ∀ (n p : Nat), file.length + 1 - p ≤ n → (recs file p).1.length ≤ file.length - p := by
   intro n
   induction n with
   | zero =>
    intro p h
    have hw : (whole file p 65536).2 = false := by
     cases hb : (whole file p 65536).2
     ·rfl
     ·have := (whole_le hb).1; omega
    rw [recs_done hw]; simp
   | succ n ih =>
    intro p h
    cases hb : (whole file p 65536).2
    ·rw [recs_done hb]; simp
    ·rw [recs_more hb]
     have h1 := (whole_le hb).1
     have h2 := ih (p + 8 + (whole file p 65536).1.length) (by omega)
     simp only [List.length_cons]
     omega
  exact Nat.le_trans (key (n + 1) p h) (by omega)
/-- What is read on from a place. -/
def Onward (file : List UInt8) (p0 p : Nat) (pre : List (List UInt8)) : Prop := (recs file p0).1 = pre ++ (recs file p).1 ∧ (recs file p0).2 = (recs file p).2
theorem Onward.start (file : List UInt8) (p : Nat) : Onward file p p [] := ⟨rfl, rfl⟩
theorem Onward.step {file : List UInt8} {p0 p : Nat} {pre : List (List UInt8)} (h : Onward file p0 p pre) {s : List UInt8} (hs : whole file p 65536 = (s, true)) : Onward file p0 (p + 8 + s.length) (pre ++ [s]) := by
 have h2 := recs_more (file := file) (p := p) (by rw [hs])
 rw [hs] at h2
 exact ⟨by rw [h.1, h2]; simp, by rw [h.2, h2]⟩
theorem Onward.done {file : List UInt8} {p0 p : Nat} {pre : List (List UInt8)} (h : Onward file p0 p pre) (hs : (whole file p 65536).2 = false) : recs file p0 = (pre, p) := by
 have h2 := recs_done hs
 exact Prod.ext (by rw [h.1, h2]; simp) (by rw [h.2, h2])
end Wal
end Go.Proofs.YtpjpknndfhablaaGreat
