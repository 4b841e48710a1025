/- The program's changes. The program's store: where it lies; told, Sync, Checkpoint, Keys, Bytes, Dead, Get, Scan. The program's store: Checkpoint, Keys, Bytes, Dead, Get, Scan. The program's transactions: Begin, Put, Delete, Abort, Get, Scan. What a commit needs: lengths of changes and their record; a checkpoint that went well leaves the disk alive; two pieces of work on a store, one behind the other. -/
import Derived.Test.YtpjpknndfhablaaGreatK5
import Derived.Test.YtpjpknndfhablaaGreatK10
import Derived.Test.YtpjpknndfhablaaGreatK12
import Derived.Test.YtpjpknndfhablaaGreatK13
namespace Go.Proofs.YtpjpknndfhablaaGreat
open Go.RowKit Go.Shelf Go.Maps Go.Sort
attribute [local go_sem] Oper.semAt_some
/-- A transaction's block. -/
def txBlock (sv : Value) (pm wm : Option Nat) (tv ov : Value) : Obj := .cells #[sv, .map pm, .map wm, tv, ov] 131 (0, 0)
theorem tx_cells {w : World} {y : Nat} {sv tv ov : Value} {pm wm : Option Nat} (h : w.heap[y]? = some (txBlock sv pm wm tv ov)) : w.cell? ⟨y, 0, none⟩ = some sv ∧ w.cell? ⟨y, 1, none⟩ = some (.map pm) ∧ w.cell? ⟨y, 2, none⟩ = some (.map wm) ∧ w.cell? ⟨y, 3, none⟩ = some tv ∧ w.cell? ⟨y, 4, none⟩ = some ov ∧ (∀ i, w.frozen? ⟨y, i, none⟩ = false) ∧ y < w.heap.size :=
 ⟨cell_of h rfl, cell_of h rfl, cell_of h rfl, cell_of h rfl, cell_of h rfl, free_of h, heap_lt h⟩
/-- The puts and the deletes that have been found of some pairs. -/
def gotP (was : Sto.Pairs) (pre : List GP) : List Sto.Ch := ((pre.map (·.1)).filter (Sto.isPut was)).map fun q => ⟨true, q.1, q.2⟩
def gotD (now : Sto.Pairs) (pre : List GP) : List Sto.Ch := ((pre.map (·.1)).filter (Sto.isDel now)).map fun q => ⟨false, q.1, []⟩
theorem gotP_hit {was : Sto.Pairs} (pre : List GP) {x : GP} (h : Sto.isPut was x.1 = true) : gotP was (pre ++ [x]) = gotP was pre ++ [⟨true, x.1.1, x.1.2⟩] := by simp [gotP, h]
theorem gotP_miss {was : Sto.Pairs} (pre : List GP) {x : GP} (h : Sto.isPut was x.1 = false) : gotP was (pre ++ [x]) = gotP was pre := by simp [gotP, h]
theorem gotD_hit {now : Sto.Pairs} (pre : List GP) {x : GP} (h : Sto.isDel now x.1 = true) : gotD now (pre ++ [x]) = gotD now pre ++ [⟨false, x.1.1, []⟩] := by simp [gotD, h]
theorem gotD_miss {now : Sto.Pairs} (pre : List GP) {x : GP} (h : Sto.isDel now x.1 = false) : gotD now (pre ++ [x]) = gotD now pre := by simp [gotD, h]
theorem gotP_all {was now : Sto.Pairs} {xs : List GP} (h : xs.map (·.1) = now) : gotP was xs = Sto.putsOf was now := by unfold gotP Sto.putsOf; rw [h]
theorem gotD_all {was now : Sto.Pairs} {xs : List GP} (h : xs.map (·.1) = was) : gotD now xs = Sto.delsOf was now := by unfold gotD Sto.delsOf; rw [h]
theorem gotP_len (was : Sto.Pairs) (pre : List GP) : (gotP was pre).length ≤ pre.length := by
 unfold gotP
 rw [List.length_map]
 exact Nat.le_trans (List.length_filter_le _ _) (by simp)
theorem gotD_len (now : Sto.Pairs) (pre : List GP) : (gotD now pre).length ≤ pre.length := by
 unfold gotD
 rw [List.length_map]
 exact Nat.le_trans (List.length_filter_le _ _) (by simp)
/-- What a transaction's search keeps in its blocks. -/
structure ChgAt (w : World) (B y b1 b2 : Nat) (now was : Sto.Pairs) (W : World) (c : List Sto.Ch) : Prop where
 row : ∃ v, Boxed W (B + 1) 111 v ∧ W.ownsRow B 116 3 v c.length (cCells c) ∧ True
 box : Boxed W B 55 (.pointer (some ⟨y, 0, none⟩))
 below : Below B w W
theorem ChgAt.own {w : World} {B y b1 b2 : Nat} {now was : Sto.Pairs} {n : Nat} (f : List GP → List Sto.Ch) (hB : B ≤ w.heap.size) (hn : B ≤ n) : OwnFrom n (fun pre W => ChgAt w B y b1 b2 now was W (f pre)) := by
 intro s A C row hs hg hr
 have h1 := Own.from (holdsRow_own B (B + 1) 111 116 3 (fun pre => (f pre).length) (fun pre => cCells (f pre)) (fun _ _ => True)) n
 have h2 := Own.from (boxed_own (β := List GP) B 55 (fun _ => .pointer (some ⟨y, 0, none⟩))) n
 exact ⟨h1 s A C row hs.row hg hr, h2 s A C row hs.box hg hr, ownFrom_below (β := List GP) hB hn s A C row hs.below hg hr⟩
theorem deferred_own {D n : Nat} (hD : D < n) : OwnFrom n (fun (_ : List GP) W => W.heap[D]? = some (.deferred (some []))) := by
 intro s A C row hs hg hr
 refine (hg.block D (heap_lt hs) (fun e => ?_)).trans hs
 have := (hr D e.symm).1
 omega
/-- Behind one more change. -/
theorem ChgAt.more {w W w1 : World} {B y b1 b2 : Nat} {now was : Sto.Pairs} {c : List Sto.Ch} {x : Sto.Ch} {v v' : Value} {tmp : Obj} (h : ChgAt w B y b1 b2 now was W c) (hv : Boxed W (B + 1) 111 v) (hrow : W.ownsRow B 116 3 v c.length (cCells c)) (hB : B ≤ W.heap.size)
  (hown : w1.ownsRow B 116 3 v' (c.length + 1) (cCells c ++ [.bool x.put, .string ⟨x.key.toArray⟩, .string ⟨x.value.toArray⟩])) (hgrow : (W.alloc tmp).grownBy w1 v.ownBlock) :
  Boxed w1 (B + 1) 111 v ∧ ChgAt w B y b1 b2 now was (w1.setCell ⟨B + 1, 0, none⟩ v') (c ++ [x]) ∧ KeepsOthers W (w1.setCell ⟨B + 1, 0, none⟩ v') ∧ KpR B W (w1.setCell ⟨B + 1, 0, none⟩ v') := by
 have hkt := appended_keeps (v' := v') ((hv.alloc tmp).kept hgrow (hv.not_row (by decide) hrow)) hrow (by decide) (by decide) hgrow
 obtain ⟨hv1, hv2, hr2, hk2, hb2⟩ := hv.appended (by decide) hrow hB (by omega) hown hgrow
 have hz := ((h.box.alloc tmp).kept hgrow (h.box.not_row (by decide) hrow)).other (B' := B + 1) (by omega) v'
 refine ⟨hv1, ⟨⟨v', hv2, ?_, trivial⟩, hz, h.below.trans hb2⟩, hk2, hb2, hkt⟩
 rw [List.length_append, cCells_append]
 exact hr2
set_option maxHeartbeats 4000000 in
set_option maxRecDepth 100000 in
theorem changes11_any (y b1 b2 : Nat) (sv tv ov : Value) (now was : Sto.Pairs) (w : World) (hy : w.heap[y]? = some (txBlock sv (some b1) (some b2) tv ov)) (h1 : MapAt w b1 now) (h2 : MapAt w b2 was) (hg1 : Sto.Good now) (hg2 : Sto.Good was) (hl1 : now.length ≤ 2199023259648) (hl2 : was.length ≤ 4096) :
  Calls Tryz.prog 64 #[.pointer (some ⟨y, 0, none⟩)] w fun e w' => ∃ v, e = .returned v ∧ ChsAt w' v (Sto.changes was now) ∧ (∀ g, v.ownBlock = some g → w.heap.size ≤ g) ∧ Below w.heap.size w w' := by
 obtain ⟨_, c1, c2, _, _, _, hylt⟩ := tx_cells hy
 obtain ⟨B, hBq⟩ : ∃ B, w.heap.size = B := ⟨_, rfl⟩
 have n1 := Boxed.new w 55 (.pointer (some ⟨y, 0, none⟩))
 have q1 := balloc w (.cells #[.pointer (some ⟨y, 0, none⟩)] 55)
 have s1 : (w.alloc (.cells #[.pointer (some ⟨y, 0, none⟩)] 55)).heap.size = B + 1 := by simp [hBq]
 obtain ⟨wa, hwa⟩ : ∃ W, w.alloc (.cells #[.pointer (some ⟨y, 0, none⟩)] 55) = W := ⟨_, rfl⟩
 rw [hwa] at n1 q1 s1
 have n2 := Boxed.new wa 111 (.slice none 0 0)
 have q2 := balloc wa (.cells #[.slice none 0 0] 111)
 have s2 : (wa.alloc (.cells #[.slice none 0 0] 111)).heap.size = B + 1 + 1 := by simp [s1]
 obtain ⟨wb, hwb⟩ : ∃ W, wa.alloc (.cells #[.slice none 0 0] 111) = W := ⟨_, rfl⟩
 rw [hwb] at n2 q2 s2
 rw [hBq] at n1
 rw [s1] at n2
 have x1 : Boxed wb B 55 (.pointer (some ⟨y, 0, none⟩)) := stays n1 q2
 have d1 := x1.cell
 have d2 : wb.cell? ⟨y, 1, none⟩ = some (.map (some b1)) := cell_later (bthen q1 q2) c1
 refine (callsIn_wide (n := 3)).1 ?_
 refine callsIn_of_wp_marks Tryz.func64 rfl trivial ?_ rfl
 simp only [Tryz.ntmps64, List.size_toArray, List.length_cons, List.length_nil, Nat.reduceAdd, Nat.reduceSub, Array.replicate_succ, Array.replicate_zero, List.push_toArray, List.append_toArray, List.nil_append, List.cons_append]
 gi_wp2_with (first | (refine ⟨trivial, ?_⟩; gi_at_call 114; refine (callsIn_wide.2 (rising_any (some b1) _)).mono ?_; rintro e w' ⟨rfl, rfl⟩))
 have x2 : Boxed wb (B + 1) 111 (.slice none 0 0) := n2
 have n4 := heap_new wb (.cells #[.map (some b1)] 101)
 have q4 := balloc wb (.cells #[.map (some b1)] 101)
 have s4 : (wb.alloc (.cells #[.map (some b1)] 101)).heap.size = B + 1 + 1 + 1 := by simp [s2]
 clear hwa hwb d1 d2
 generalize wb.alloc (.cells #[.map (some b1)] 101) = W0 at n4 q4 s4 ⊢
 rw [s2] at n4
 have hBW : Below B w W0 := by rw [← hBq]; exact bthen q1 (bthen q2 q4)
 have HC0 : Hid (ChgAt w B y b1 b2 now was W0 []) := Lib.hid ⟨⟨_, stays x2 q4, World.ownsRow_nil _ _ _ _, trivial⟩, stays x1 q4, hBW⟩
 have hm0 : MapO W0 (some b1) now := h1.below (by rw [hBq]; exact hBW)
 have hmlt : ∀ b, some b1 = some b → b < B := by
  rintro b e
  cases e
  rw [← hBq]; exact h1.lt
 have hmlt2 : ∀ b, some b2 = some b → b < B := by
  rintro b e
  cases e
  rw [← hBq]; exact h2.lt
 have H1 := Lib.hid h1
 have H2 := Lib.hid h2
 have HY := Lib.hid hy
 have HG1 := Lib.hid hg1
 have HG2 := Lib.hid hg2
 have hBle : B ≤ w.heap.size := by omega
 clear q1 q2 q4 n1 n2 x1 x2 s1 s2 h1 h2 hy hg1 hg2 c1 c2 hBW
 refine wpIn_rangeFunc_ownG rfl (by omega) (gf := 152) (lb := #[.pointer (some ⟨B + 1 + 1, 0, none⟩)]) rfl trivial (enters_of Tryz.func152 (by kernel_rfl) rfl)
  (rising_stops (3 - 1) (B + 1 + 1) B (by omega) (some b1) now HG1.out (by omega) W0 n4 hm0 hmlt (by omega)) KpR.t (KpR.b (by omega)) (Below.refl _ _) (fun _ => rfl)
  (fun pre W => ChgAt w B y b1 b2 now was W (gotP was pre))
  (fun c pre W => False)
  (ChgAt.own _ hBle (by omega))
  (fun _ _ _ _ _ hs _ _ => hs)
  HC0.out
  (fun x => { tmps := #[.pointer (some ⟨y, 0, none⟩), .pointer (some ⟨B, 0, none⟩), .slice none 0 0, .pointer (some ⟨B + 1, 0, none⟩), .string ⟨x.1.1.toArray⟩, .string ⟨x.1.2.toArray⟩, undef, undef, undef, undef, undef, .pointer (some ⟨y, 0, none⟩), .pointer (some ⟨y, 0, none⟩), .pointer (some ⟨y, 1, none⟩), .map (some b1), .func (.func 152) #[] #[.pointer (some ⟨B + 1 + 1, 0, none⟩)], .string ⟨x.1.1.toArray⟩, .string ⟨x.1.2.toArray⟩, undef, undef, undef, undef, undef, undef, undef, undef, undef, undef, undef, undef, undef, undef, undef, undef, undef, undef, undef, undef, undef, undef, undef, undef, undef, undef, undef, undef, undef, undef, undef, undef, undef, undef, undef, undef, undef, undef, undef, undef, undef, undef, undef, undef, undef, undef, undef, undef], defers := [] }) ?assign ?body ?done ?stop
 case assign =>
  intro l x W K hK
  dsimp only [encP]
  gi_wp2
  exact hK
 case body =>
  rintro l pre x W hC hlt
  have HC := Lib.hid hC
  obtain ⟨v, hv, hrow, _⟩ := hC.row
  have hc := hv.cell
  have hcb := hC.box.cell
  have hBsz : B ≤ W.heap.size := by have := hC.below.size; omega
  have hlg := gotP_len was pre
  have e2 : W.cell? ⟨y, 2, none⟩ = some (.map (some b2)) := (tx_cells (stays HY.out (by rw [hBq]; exact hC.below))).2.2.1
  have hkx := (Sto.keyOk_iff.1 x.2.1).2
  have hlook := (H2.out.below (by rw [hBq]; exact hC.below)).look HG2.out.rise x.1.1 (by unfold maxLen; omega)
  obtain ⟨o, ho⟩ : ∃ o, Sto.get was x.1.1 = o := ⟨_, rfl⟩
  have HO := Lib.hid ho
  rw [Sto.here_get, ho] at hlook
  clear hC n4 hm0 hmlt ho
  obtain ⟨i0, hi, hz0, hz1, hz2⟩ := info_parts chInfo
  have HI := Lib.hid hi
  have HI0 := Lib.hid hz0
  have HI1 := Lib.hid hz1
  have HI2 := Lib.hid hz2
  clear hi hz0 hz1 hz2
  cases o with
  | none =>
   have hip : Sto.isPut was x.1 = true := by unfold Sto.isPut; rw [HO.out]; simp
   gi_wp2_with (gi_at_builtin; refine wpListIn_append_own _ rfl _ _ 111 rfl B 116 i0 (.agg #[.bool false, .string ⟨#[]⟩, .string ⟨#[]⟩]) 3 40 Tryz.underlying111 HI.out HI0.out HI1.out HI2.out rfl (by decide) _ _ _ rfl (hrow.alloc _) ⟨W.heap.size, 0, none⟩ 1 1 [.bool true, .string ⟨x.1.1.toArray⟩, .string ⟨x.1.2.toArray⟩] rfl rfl (fun j u hu => by rw [addr_add, Nat.zero_add]; exact cell_of (heap_new W _) (by simpa using hu)) (by simp [Value.oneCell']) (by unfold maxLen; omega) (by omega) (by simp; omega) ?_; intro v' w1 hown' hgrow _; obtain ⟨g', cap', rfl⟩ := ownsRow_succ hown'; obtain ⟨hv1, hz1, hz2, hz3⟩ := ChgAt.more (x := ⟨true, x.1.1, x.1.2⟩) HC.out hv hrow hBsz hown' hgrow; have hc1 := hv1.cell; have hf1 := hv1.frozen; have HF := Lib.hid (And.intro hz1 (And.intro hz2 hz3)); clear hz1 hz2 hz3 hown' hgrow)
   obtain ⟨hz1, hz2, hz3⟩ := HF.out
   exact ⟨hz2.from _, hz3, by dsimp only; rw [gotP_hit pre hip]; exact hz1⟩
  | some z =>
   by_cases hzv : z = x.1.2
   ·have heq : (z == x.1.2) = true := beq_iff_eq.2 hzv
    have hip : Sto.isPut was x.1 = false := by unfold Sto.isPut; rw [HO.out, hzv]; simp
    gi_wp2
    exact ⟨KeepsFrom.refl _ _, ⟨Below.refl _ _, KeepsTy.refl _ _⟩, by dsimp only; rw [gotP_miss pre hip]; exact HC.out⟩
   ·have heq : (z == x.1.2) = false := beq_eq_false_iff_ne.2 hzv
    have hip : Sto.isPut was x.1 = true := by unfold Sto.isPut; rw [HO.out]; simp [hzv]
    gi_wp2_with (gi_at_builtin; refine wpListIn_append_own _ rfl _ _ 111 rfl B 116 i0 (.agg #[.bool false, .string ⟨#[]⟩, .string ⟨#[]⟩]) 3 40 Tryz.underlying111 HI.out HI0.out HI1.out HI2.out rfl (by decide) _ _ _ rfl (hrow.alloc _) ⟨W.heap.size, 0, none⟩ 1 1 [.bool true, .string ⟨x.1.1.toArray⟩, .string ⟨x.1.2.toArray⟩] rfl rfl (fun j u hu => by rw [addr_add, Nat.zero_add]; exact cell_of (heap_new W _) (by simpa using hu)) (by simp [Value.oneCell']) (by unfold maxLen; omega) (by omega) (by simp; omega) ?_; intro v' w1 hown' hgrow _; obtain ⟨g', cap', rfl⟩ := ownsRow_succ hown'; obtain ⟨hv1, hz1, hz2, hz3⟩ := ChgAt.more (x := ⟨true, x.1.1, x.1.2⟩) HC.out hv hrow hBsz hown' hgrow; have hc1 := hv1.cell; have hf1 := hv1.frozen; have HF := Lib.hid (And.intro hz1 (And.intro hz2 hz3)); clear hz1 hz2 hz3 hown' hgrow)
    obtain ⟨hz1, hz2, hz3⟩ := HF.out
    exact ⟨hz2.from _, hz3, by dsimp only; rw [gotP_hit pre hip]; exact hz1⟩
 case done =>
  rintro D1 ys W hD hx hC hK
  have hpl : (gotP was ys).length ≤ now.length := by
   have h := gotP_len was ys
   have h2 : ys.length = now.length := by rw [← hx]; simp
   omega
  have HPA := Lib.hid (gotP_all (was := was) hx)
  have HC := Lib.hid hC
  have HK := Lib.hid hK
  have hcb := hC.box.cell
  have hbb : Below w.heap.size w W := by rw [hBq]; exact hC.below
  have e2 : W.cell? ⟨y, 2, none⟩ = some (.map (some b2)) := (tx_cells (stays HY.out hbb)).2.2.1
  clear hC hK hx n4 hm0 hmlt hbb
  gi_wp2_with (refine ⟨trivial, ?_⟩; gi_at_call 114; refine (callsIn_wide.2 (rising_any (some b2) _)).mono ?_; rintro e w' ⟨rfl, rfl⟩)
  obtain ⟨C, hCq⟩ : ∃ C, W.heap.size = C := ⟨_, rfl⟩
  have hCB : B + 1 + 1 ≤ C := by
   have h1 := HC.out.box
   obtain ⟨v, hv, _⟩ := HC.out.row
   have := heap_lt hv
   omega
  have hDC : D1 < C := by have := heap_lt HK.out; omega
  have m4 := heap_new W (.cells #[.map (some b2)] 101)
  have r4 := balloc W (.cells #[.map (some b2)] 101)
  have t4 : (W.alloc (.cells #[.map (some b2)] 101)).heap.size = C + 1 := by simp [hCq]
  rw [hCq]
  generalize W.alloc (.cells #[.map (some b2)] 101) = V0 at m4 r4 t4 ⊢
  rw [hCq] at m4
  have HCV : Hid (ChgAt w B y b1 b2 now was V0 (gotP was ys)) := Lib.hid (by
   obtain ⟨v, hv, hrow, _⟩ := HC.out.row
   exact ⟨⟨v, stays hv r4, own_touch hrow (Touch.of_below (S := fun _ => False) r4) (fun _ _ h => h), trivial⟩, stays HC.out.box r4, HC.out.below.trans (r4.mono (by omega))⟩)
  have HKV := Lib.hid (stays HK.out r4)
  have hm1 : MapO V0 (some b2) was := H2.out.below (by rw [hBq]; exact HCV.out.below)
  clear r4
  refine wpIn_rangeFunc_ownG rfl (by omega) (gf := 152) (lb := #[.pointer (some ⟨C, 0, none⟩)]) rfl trivial (enters_of Tryz.func152 (by kernel_rfl) rfl)
   (rising_stops (3 - 1) C B (by omega) (some b2) was HG2.out (by omega) V0 m4 hm1 hmlt2 (by omega)) KpR.t (KpR.b (by omega)) (Below.refl _ _) (fun _ => rfl)
   (fun pre W => ChgAt w B y b1 b2 now was W (gotP was ys ++ gotD now pre) ∧ W.heap[D1]? = some (.deferred (some [])))
   (fun c pre W => False)
   (OwnFrom.and (ChgAt.own (fun pre => gotP was ys ++ gotD now pre) hBle (by omega)) (deferred_own (by omega)))
   (fun _ _ _ _ _ hs _ _ => hs)
   ⟨by simpa [gotD] using HCV.out, HKV.out⟩
   (fun x => { tmps := #[.pointer (some ⟨y, 0, none⟩), .pointer (some ⟨B, 0, none⟩), .slice none 0 0, .pointer (some ⟨B + 1, 0, none⟩), undef, undef, undef, undef, .string ⟨x.1.1.toArray⟩, undef, undef, .pointer (some ⟨y, 0, none⟩), .pointer (some ⟨y, 0, none⟩), .pointer (some ⟨y, 1, none⟩), .map (some b1), .func (.func 152) #[] #[.pointer (some ⟨B + 1 + 1, 0, none⟩)], undef, undef, undef, undef, undef, undef, undef, undef, undef, undef, undef, undef, undef, undef, undef, undef, undef, undef, undef, undef, undef, undef, undef, undef, .pointer (some ⟨y, 0, none⟩), .pointer (some ⟨y, 0, none⟩), .pointer (some ⟨y, 2, none⟩), .map (some b2), .func (.func 152) #[] #[.pointer (some ⟨C, 0, none⟩)], .string ⟨x.1.1.toArray⟩, .string ⟨x.1.2.toArray⟩, undef, undef, undef, undef, undef, undef, undef, undef, undef, undef, undef, undef, undef, undef, undef, undef, undef, undef, undef], defers := [] }) ?assign2 ?body2 ?done2 ?stop2
  case assign2 =>
   intro l x W K hK
   dsimp only [encP]
   gi_wp2
   exact hK
  case body2 =>
   rintro l pre x W ⟨hC, hKD⟩ hlt
   have HC := Lib.hid hC
   have HKD := Lib.hid hKD
   obtain ⟨v, hv, hrow, _⟩ := hC.row
   have hc := hv.cell
   have hcb := hC.box.cell
   have hBsz : B ≤ W.heap.size := by have := hC.below.size; omega
   have hlg := gotD_len now pre
   have hlc : (gotP was ys ++ gotD now pre).length ≤ now.length + pre.length := by rw [List.length_append]; omega
   have e2 : W.cell? ⟨y, 1, none⟩ = some (.map (some b1)) := (tx_cells (stays HY.out (by rw [hBq]; exact hC.below))).2.1
   have hkx := (Sto.keyOk_iff.1 x.2.1).2
   have hlook := (H1.out.below (by rw [hBq]; exact hC.below)).look HG1.out.rise x.1.1 (by unfold maxLen; omega)
   obtain ⟨o, ho⟩ : ∃ o, Sto.get now x.1.1 = o := ⟨_, rfl⟩
   have HO := Lib.hid ho
   rw [Sto.here_get, ho] at hlook
   obtain ⟨c0, hc0⟩ : ∃ c0, gotP was ys ++ gotD now pre = c0 := ⟨_, rfl⟩
   rw [hc0] at hrow hlc HC
   have HC0 := Lib.hid hc0
   clear hC hKD m4 hm1 hmlt2 ho hc0 hlg
   obtain ⟨i0, hi, hz0, hz1, hz2⟩ := info_parts chInfo
   have HI := Lib.hid hi
   have HI0 := Lib.hid hz0
   have HI1 := Lib.hid hz1
   have HI2 := Lib.hid hz2
   clear hi hz0 hz1 hz2
   cases o with
   | none =>
    have hip : Sto.isDel now x.1 = true := by unfold Sto.isDel; rw [Sto.here_get, HO.out]; rfl
    gi_wp2_with (gi_at_builtin; refine wpListIn_append_own _ rfl _ _ 111 rfl B 116 i0 (.agg #[.bool false, .string ⟨#[]⟩, .string ⟨#[]⟩]) 3 40 Tryz.underlying111 HI.out HI0.out HI1.out HI2.out rfl (by decide) _ _ _ rfl (hrow.alloc _) ⟨W.heap.size, 0, none⟩ 1 1 [.bool false, .string ⟨x.1.1.toArray⟩, .string ⟨#[]⟩] rfl rfl (fun j u hu => by rw [addr_add, Nat.zero_add]; exact cell_of (heap_new W _) (by simpa using hu)) (by simp [Value.oneCell']) (by unfold maxLen; omega) (by omega) (by simp; omega) ?_; intro v' w1 hown' hgrow _; obtain ⟨g', cap', rfl⟩ := ownsRow_succ hown'; obtain ⟨hv1, hz1, hz2, hz3⟩ := ChgAt.more (x := ⟨false, x.1.1, []⟩) HC.out hv hrow hBsz hown' hgrow; have hc1 := hv1.cell; have hf1 := hv1.frozen; have HF := Lib.hid (And.intro hz1 (And.intro hz2 hz3)); clear hz1 hz2 hz3 hown' hgrow)
    obtain ⟨hz1, hz2, hz3⟩ := HF.out
    have hd1 := hz2.same D1 _ HKD.out rfl
    exact ⟨hz2.from _, hz3, by (try dsimp only); rw [gotD_hit pre hip, ← List.append_assoc, HC0.out]; exact hz1, hd1⟩
   | some z =>
    have hip : Sto.isDel now x.1 = false := by unfold Sto.isDel; rw [Sto.here_get, HO.out]; rfl
    gi_wp2
    exact ⟨KeepsFrom.refl _ _, ⟨Below.refl _ _, KeepsTy.refl _ _⟩, by (try dsimp only); rw [gotD_miss pre hip, HC0.out]; exact HC.out, HKD.out⟩
  case done2 =>
   rintro D2 zs W2 hD2 hz ⟨hC2, hK1⟩ hK2
   have hdl := gotD_all (now := now) hz
   obtain ⟨v, hv, hrow, _⟩ := hC2.row
   rw [HPA.out, hdl] at hrow
   have hsort := sort_any v B (Sto.putsOf was now ++ Sto.delsOf was now) W2 (OwnF.of_owns hrow) (by
    have h1 := gotP_len was ys
    have h2 := gotD_len now zs
    have h3 : zs.length = was.length := by rw [← hz]; simp
    rw [← HPA.out, ← hdl, List.length_append]
    omega)
   have HSO := Lib.hid hsort
   have hvr := hv.not_row (by decide) hrow
   have HB2 := Lib.hid hC2.below
   have HV := Lib.hid hv
   have hc := hv.cell
   have hvB : ∀ g, v.ownBlock = some g → B ≤ g ∧ g ≠ D1 ∧ g ≠ D2 := fun g hg => by
    rcases hrow.2 with ⟨rfl, _⟩ | ⟨g', cap, cur, rfl, hbg, hg', _⟩
    ·cases hg
    ·have e1 : g' = g := Option.some.inj hg
     subst e1
     refine ⟨hbg, fun e => ?_, fun e => ?_⟩
     ·rw [e, hK1] at hg'; cases hg'
     ·rw [e, hK2] at hg'; cases hg'
   have HVB := Lib.hid hvB
   have HK1 := Lib.hid hK1
   have HK2 := Lib.hid hK2
   have hD12 : D1 ≠ D2 := by omega
   clear hrow hC2 hsort hK1 hK2 m4 hm1 hmlt2 hdl hz hvB hv
   gi_wp2_with (refine ⟨trivial, ?_⟩; gi_at_call 119; refine (callsIn_wide.2 HSO.out).mono ?_; rintro e W3 ⟨rfl, hso⟩; have HSD := Lib.hid hso; obtain ⟨c', hp', hpw, hch, htt⟩ := hso; have hc3 := Boxed.cell (show Boxed W3 (B + 1) 111 v from (htt.block (B + 1) (heap_lt HV.out) (fun e => hvr e.symm)).trans HV.out); clear hp' hpw hch htt)
   obtain ⟨c', hp', hpw, hch, htt⟩ := HSD.out
   have hce : c' = Sto.changes was now := Sto.sorted_changes HG2.out.rise HG1.out.rise hp' hpw
   have k1 : W3.heap[D1]? = some (.deferred (some [])) := (htt.block D1 (heap_lt HK1.out) (fun e => (HVB.out D1 e).2.1 rfl)).trans HK1.out
   have k2 : W3.heap[D2]? = some (.deferred (some [])) := (htt.block D2 (heap_lt HK2.out) (fun e => (HVB.out D2 e).2.2 rfl)).trans HK2.out
   refine ⟨by simp, .inl ⟨_, _, rfl, run_takeDeferred k2, ?_⟩⟩
   have k1' : (W3.putObj D2 (.deferred none)).heap[D1]? = some (.deferred (some [])) := (World.putObj_heap_other hD12).trans k1
   refine ⟨by simp, .inl ⟨_, _, rfl, run_takeDeferred k1', ?_⟩⟩
   have g1 := grownBy_putObj' W3 D2 (.deferred none)
   have g2 := grownBy_putObj' (W3.putObj D2 (.deferred none)) D1 (.deferred none)
   refine ⟨_, results_tmp rfl _ _ _, v, rfl, ?_, fun g hg => (by rw [hBq]; exact (HVB.out g hg).1), ?_⟩
   ·rw [← hce]
    exact (hch.touch (touch_of_grown g1) (fun g hg e => (HVB.out g hg).2.2 (Option.some.inj e).symm)).touch (touch_of_grown g2) (fun g hg e => (HVB.out g hg).2.1 (Option.some.inj e).symm)
   ·rw [hBq]
    have hb3 : Below B w W3 := HB2.out.trans (htt.below (B := B) (by have := HB2.out.size; omega) (fun k hk e => by have := (HVB.out k e).1; omega))
    exact (hb3.trans (belowK_b (w := w) (by omega) _ D2 _ _ (by omega) k2 rfl rfl)).trans (belowK_b (w := w) (by omega) _ D1 _ _ (by omega) k1' rfl rfl)
  case stop2 =>
   rintro D c pre W _ _ h _
   exact h.elim
 case stop =>
  rintro D c pre W _ _ h _
  exact h.elim
end Go.Proofs.YtpjpknndfhablaaGreat
namespace Go.Proofs.YtpjpknndfhablaaGreat
open Go.RowKit Go.Shelf
def storeBlock (lg mb : Nat) (s : SS) : Obj := stBlock (.pointer (some ⟨lg, 0, none⟩)) mb (Sto.size s.ps) (.int .i64 s.turn) (.bool s.dead)
/-- A store lies in block x: its log in block lg, over the disk in block c; its map in block mb. -/
structure StoAt (w : World) (x lg c mb : Nat) (s : SS) : Prop where
 blk : w.heap[x]? = some (storeBlock lg mb s)
 log : LogAt w lg c s.l
 map : MapAt w mb s.ps
 good : Sto.Good s.ps
 fits : Sto.fits s.ps = true
theorem StoAt.cells {w : World} {x lg c mb : Nat} {s : SS} (h : StoAt w x lg c mb s) : w.cell? ⟨x, 0, none⟩ = some (.pointer (some ⟨lg, 0, none⟩)) ∧ w.cell? ⟨x, 1, none⟩ = some (.map (some mb)) ∧ w.cell? ⟨x, 2, none⟩ = some (.int .i64 (Sto.size s.ps)) ∧ w.cell? ⟨x, 3, none⟩ = some (.int .i64 s.turn) ∧ w.cell? ⟨x, 4, none⟩ = some (.bool s.dead) ∧ (∀ i, w.frozen? ⟨x, i, none⟩ = false) ∧ x < w.heap.size :=
 ⟨cell_of h.blk rfl, cell_of h.blk rfl, cell_of h.blk rfl, cell_of h.blk rfl, cell_of h.blk rfl, free_of h.blk, heap_lt h.blk⟩
theorem StoAt.touch {S : Nat → Prop} {w w' : World} {x lg c mb : Nat} {s : SS} (h : StoAt w x lg c mb s) (ht : Touch S w w') (h1 : ¬ S x) (h2 : ¬ S lg) (h3 : ¬ S mb) : StoAt w' x lg c mb s :=
 ⟨(ht.block x (heap_lt h.blk) h1).trans h.blk, h.log.touch ht h2, h.map.touch ht h3, h.good, h.fits⟩
theorem StoAt.below {w w' : World} {x lg c mb : Nat} {s : SS} (h : StoAt w x lg c mb s) (hb : Below w.heap.size w w') : StoAt w' x lg c mb s :=
 h.touch (Touch.of_below (S := fun _ => False) hb) (fun h => h) (fun h => h) (fun h => h)
theorem StoAt.apart {w : World} {x lg c mb : Nat} {s : SS} (h : StoAt w x lg c mb s) {d : DS} {m : Nat} {rb : Option Nat} (hd : DiskAt w c d m rb) : ¬ own3 c rb lg x ∧ ¬ own3 c rb lg mb ∧ x ≠ mb := by
 have h3 := h.log.typed3 hd
 refine ⟨fun e => ?_, fun e => ?_, fun e => ?_⟩
 ·obtain ⟨a, t, f, h1, h2⟩ := h3 x e
  rw [h.blk] at h1
  simp [storeBlock, stBlock] at h1 h2
  rw [← h1.2.1] at h2
  exact absurd h2 (by decide)
 ·obtain ⟨a, t, f, h1, h2⟩ := h3 mb e
  obtain ⟨es, cl, h4⟩ := h.map.isMap
  rw [h4] at h1
  cases h1
 ·obtain ⟨es, cl, h4⟩ := h.map.isMap
  rw [← e, h.blk] at h4
  cases h4
/-- What a call on a store leaves. -/
structure SWorked (x lg c mb : Nat) (s' : SS) (d d' : DS) (m : Nat) (rb : Option Nat) (w w' : World) : Prop where
 store : ∃ mb', StoAt w' x lg c mb' s' ∧ (mb' = mb ∨ w.heap.size ≤ mb')
 disk : ∃ rb', DiskAt w' c d' m rb' ∧ Newer w rb rb' ∧ (d'.dead = true → d.dead = false → rb' = none)
 touch : Touch (fun k => own3 c rb lg k ∨ k = x) w w'
theorem SWorked.stay {x lg c mb : Nat} {s : SS} {d : DS} {m : Nat} {rb : Option Nat} {w w' : World} (h : StoAt w x lg c mb s) (hd : DiskAt w c d m rb) (hb : Below w.heap.size w w') : SWorked x lg c mb s d d m rb w w' :=
 ⟨⟨mb, h.below hb, .inl rfl⟩, ⟨rb, hd.below hb, Newer.refl _ _, fun h1 h2 => by rw [h1] at h2; cases h2⟩, Touch.of_below hb⟩
theorem SWorked.mono {x lg c mb : Nat} {s' : SS} {d d' : DS} {m n : Nat} {rb : Option Nat} {w w' : World} (h : SWorked x lg c mb s' d d' m rb w w') (hmn : m ≤ n) : SWorked x lg c mb s' d d' n rb w w' := by
 obtain ⟨rb', h1, h2, h3⟩ := h.disk
 exact ⟨h.store, ⟨rb', h1.mono hmn, h2, h3⟩, h.touch⟩
set_option maxHeartbeats 1000000 in
theorem told_any (x mb : Nat) (lv tv : Value) (n : Int) (db : Bool) (e : Int) (w : World) (h : w.heap[x]? = some (stBlock lv mb n tv (.bool db))) :
  Calls Tryz.prog 68 #[.pointer (some ⟨x, 0, none⟩), .int .i64 e] w fun r w' => r = .returned (.int .i64 e) ∧ w'.heap[x]? = some (stBlock lv mb n tv (.bool (db || decide (e = 2)))) ∧ Touch (· = x) w w' := by
 have c4 : w.cell? ⟨x, 4, none⟩ = some (.bool db) := cell_of h rfl
 have cf := free_of h 4
 have key : ∀ v : Bool, (w.setCell ⟨x, 4, none⟩ (.bool v)).heap[x]? = some (stBlock lv mb n tv (.bool v)) := fun v => by
  have := heap_set (i := 4) (.bool v) h
  simpa [stBlock] using this
 have HK := Lib.hid key
 clear key h
 cases db with
 | true =>
  go_enter Tryz.func68, Tryz.ntmps68
  go_wp2
  go_ret
  exact ⟨rfl, HK.out true, (Touch.refl (· = x) w).setCell _ (fun _ => rfl)⟩
 | false =>
  by_cases he : e = 2
  ·have hb : (e == 2) = true := beq_iff_eq.2 he
   have hd : (false || decide (e = 2)) = true := by rw [decide_eq_true he]; rfl
   rw [hd]
   go_enter Tryz.func68, Tryz.ntmps68
   go_wp2
   go_ret
   exact ⟨rfl, HK.out true, (Touch.refl (· = x) w).setCell _ (fun _ => rfl)⟩
  ·have hb : (e == 2) = false := beq_eq_false_iff_ne.2 he
   have hd : (false || decide (e = 2)) = false := by rw [decide_eq_false he]; rfl
   rw [hd]
   go_enter Tryz.func68, Tryz.ntmps68
   go_wp2
   go_ret
   exact ⟨rfl, HK.out false, (Touch.refl (· = x) w).setCell _ (fun _ => rfl)⟩
/-- Behind a piece of work on its log, ahead of told. -/
theorem StoAt.worked {w w1 : World} {x lg c mb : Nat} {s : SS} {l' : Wal.LS} {d d' : DS} {m m' : Nat} {rb : Option Nat} (h : StoAt w x lg c mb s) (hd : DiskAt w c d m rb) (hw : Worked lg c l' d d' m' rb w w1) : StoAt w1 x lg c mb { s with l := l' } := by
 obtain ⟨a1, a2, _⟩ := h.apart hd
 exact ⟨(hw.touch.block x (heap_lt h.blk) a1).trans h.blk, hw.log, h.map.touch hw.touch a2, h.good, h.fits⟩
theorem SWorked.of {w w1 w2 : World} {x lg c mb : Nat} {s : SS} {l' : Wal.LS} {d d' : DS} {m m' : Nat} {rb : Option Nat} {b : Bool} (h : StoAt w x lg c mb s) (hd : DiskAt w c d m rb) (hw : Worked lg c l' d d' m' rb w w1)
  (h2 : w2.heap[x]? = some (stBlock (.pointer (some ⟨lg, 0, none⟩)) mb (Sto.size s.ps) (.int .i64 s.turn) (.bool b))) (ht : Touch (· = x) w1 w2) : SWorked x lg c mb { s with l := l', dead := b } d d' m' rb w w2 := by
 obtain ⟨a1, a2, a3⟩ := h.apart hd
 have h1 := h.worked hd hw
 obtain ⟨rb', b1, b2, b3⟩ := hw.disk
 obtain ⟨a1', a2', a3'⟩ := h1.apart b1
 refine ⟨⟨mb, ⟨h2, h1.log.touch ht (fun e => a1' (.inr e.symm)), h1.map.touch ht (fun e => a3 e.symm), h.good, h.fits⟩, .inl rfl⟩, ⟨rb', b1.touch ht (fun k hk e => a1' (.inl (e ▸ hk))), b2, b3⟩, Touch.trans (hw.touch.mono (fun _ _ e => .inl e)) ht (fun _ _ e => .inr e)⟩
set_option maxHeartbeats 1000000 in
theorem sync11_any (x lg c mb : Nat) (w : World) (s : SS) (d : DS) (m : Nat) (rb : Option Nat) (h : StoAt w x lg c mb s) (hd : DiskAt w c d m rb) :
  Calls Tryz.prog 41 #[.pointer (some ⟨x, 0, none⟩)] w fun e w' => e = .returned (.int .i64 (s.sync d).2.2) ∧ SWorked x lg c mb (s.sync d).1 d (s.sync d).2.1 m rb w w' := by
 obtain ⟨c0, _, _, _, c4, _, _⟩ := h.cells
 have HS := Lib.hid h
 have HD := Lib.hid hd
 clear h hd
 cases hdd : s.dead with
 | true =>
  rw [hdd] at c4
  have HX : Hid (s.sync d = (s, d, 2)) := Lib.hid (by unfold SS.sync; rw [if_pos hdd])
  go_enter Tryz.func41, Tryz.ntmps41
  go_wp2
  go_ret
  rw [HX.out]
  exact ⟨rfl, SWorked.stay HS.out HD.out (Below.refl _ _)⟩
 | false =>
  rw [hdd] at c4
  have HX : Hid (s.sync d = ({ s with l := (Wal.sync s.l d).1, dead := decide ((Wal.sync s.l d).2.2 = 2) }, (Wal.sync s.l d).2.1, (Wal.sync s.l d).2.2)) := Lib.hid (by unfold SS.sync; rw [if_neg (by simp [hdd])])
  obtain ⟨q, hq⟩ : ∃ q, (Wal.sync s.l d).2.2 = q := ⟨_, rfl⟩
  have HDD := Lib.hid hdd
  have HW := Lib.hid (wsync_any lg c w s.l d m rb HS.out.log HD.out)
  rw [hq] at HW HX
  clear hdd hq
  go_enter Tryz.func41, Tryz.ntmps41
  go_wp2_with fail
  refine HW.out.mono ?_
  rintro e w1 ⟨rfl, hw1⟩
  have HW1 := Lib.hid hw1
  clear hw1
  go_wp2_with fail
  refine (told_any x mb _ _ _ false q w1 (by have := (HS.out.worked HD.out HW1.out).blk; rw [storeBlock, HDD.out] at this; exact this)).mono ?_
  rintro e w2 ⟨rfl, h2, ht2⟩
  have HZ := Lib.hid (SWorked.of HS.out HD.out HW1.out h2 ht2)
  clear h2 ht2
  go_wp2
  go_ret
  rw [HX.out]
  exact ⟨rfl, HZ.out⟩
end Go.Proofs.YtpjpknndfhablaaGreat
namespace Go.Proofs.YtpjpknndfhablaaGreat
open Go.RowKit Go.Shelf
set_option maxHeartbeats 2000000 in
set_option maxRecDepth 100000 in
theorem check11_any (x lg c mb : Nat) (w : World) (s : SS) (d : DS) (m : Nat) (rb : Option Nat) (h : StoAt w x lg c mb s) (hd : DiskAt w c d m rb) (hm : m < 5000000000000) (hlg : s.l.g ≤ 4611686018427387904) :
  Calls Tryz.prog 60 #[.pointer (some ⟨x, 0, none⟩)] w fun e w' => e = .returned (.int .i64 (s.check d).2.2) ∧ SWorked x lg c mb (s.check d).1 d (s.check d).2.1 (m + 1) rb w w' := by
 obtain ⟨c0, _, _, _, c4, _, _⟩ := h.cells
 have HS := Lib.hid h
 have HD := Lib.hid hd
 clear h hd
 cases hdd : s.dead with
 | true =>
  rw [hdd] at c4
  have HX : Hid (s.check d = (s, d, 2)) := Lib.hid (by unfold SS.check; rw [if_pos hdd])
  go_enter Tryz.func60, Tryz.ntmps60
  go_wp2
  go_ret
  rw [HX.out]
  exact ⟨rfl, (SWorked.stay HS.out HD.out (Below.refl _ _)).mono (by omega)⟩
 | false =>
  rw [hdd] at c4
  have HX : Hid (s.check d = ({ s with l := (Wal.checkpoint s.l d (Sto.image s.ps)).1, dead := decide ((Wal.checkpoint s.l d (Sto.image s.ps)).2.2 = 2) }, (Wal.checkpoint s.l d (Sto.image s.ps)).2.1, (Wal.checkpoint s.l d (Sto.image s.ps)).2.2)) := Lib.hid (by unfold SS.check; rw [if_neg (by simp [hdd])])
  have hil := Sto.image_length s.ps HS.out.fits
  obtain ⟨I, hI⟩ : ∃ I, Sto.image s.ps = I := ⟨_, rfl⟩
  obtain ⟨q, hq⟩ : ∃ q, (Wal.checkpoint s.l d I).2.2 = q := ⟨_, rfl⟩
  have HDD := Lib.hid hdd
  have HIM := Lib.hid (image_any x mb _ _ _ _ s.ps w.drew HS.out.blk HS.out.map HS.out.good HS.out.fits)
  rw [hI] at HIM HX hil
  rw [hq] at HX
  have HQ := Lib.hid hq
  clear hdd hq hI
  go_enter Tryz.func60, Tryz.ntmps60
  go_wp2_with fail
  have hS0 : w.drew.cell? ⟨x, 0, none⟩ = some (.pointer (some ⟨lg, 0, none⟩)) := c0
  refine wp_region_heldL (S := fun w' => w'.cell? ⟨x, 0, none⟩ = some (.pointer (some ⟨lg, 0, none⟩))) (by kernel_rfl) ?_
  refine planned [0, 1, 2, 3, 4, 5] ?_
  iterate 6 (refine planned_take (v := ?_) rfl (by kernel_rfl) (by kernel_rfl) (by kernel_rfl) (fun _ _ _ h => h) ?_ (by assumption) ?_; rotate_left; (focus (first | (refine Or.inr ⟨by rfl, ?_⟩; with_reducible rfl) | (refine Or.inl ⟨by rfl, ?_⟩; (intro w hSw; (try dsimp only at hSw); go_simp); try with_reducible rfl))); try simp only [Act.put, List.setIfInBounds_toArray, List.set_cons_zero, List.set_cons_succ])
  refine planned_end ?_
  refine wpAnyH_oneL (i := 6) rfl (by kernel_rfl) ?_
  intro K hK
  rw [if_pos (by rfl)]
  go_simp
  go_at_call 117
  refine HIM.out.mono ?_
  rintro e w1 ⟨rfl, b1⟩
  have HB1 := Lib.hid (bthen ((Below.refl _ w).drew) b1)
  have hS1 := cell_later b1 hS0
  clear b1
  refine hK _ _ hS1 ?_
  clear hK K
  try simp only [Act.put, List.setIfInBounds_toArray, List.set_cons_zero, List.set_cons_succ]
  refine wpAnyH_oneL (i := 7) rfl (by kernel_rfl) ?_
  intro K hK
  rw [if_pos (by rfl)]
  go_simp
  go_at_call 116
  refine (wcheck_any lg c w1 s.l d m rb I (HS.out.below HB1.out).log (HD.out.below HB1.out) hm (by omega) hlg).mono ?_
  rw [HQ.out]
  rintro e w2 ⟨rfl, hw2⟩
  have HS2 := Lib.hid ((HS.out.below HB1.out).worked (HD.out.below HB1.out) hw2)
  have HW2 := Lib.hid hw2
  have hS2 : w2.cell? ⟨x, 0, none⟩ = some (.pointer (some ⟨lg, 0, none⟩)) := cell_of HS2.out.blk rfl
  clear hw2
  refine hK _ _ hS2 ?_
  clear hK K
  try simp only [Act.put, List.setIfInBounds_toArray, List.set_cons_zero, List.set_cons_succ]
  refine wpAnyH_oneL (i := 8) rfl (by kernel_rfl) ?_
  intro K hK
  rw [if_pos (by rfl)]
  go_simp
  go_at_call 68
  refine (told_any x mb _ _ _ false q w2 (by have := HS2.out.blk; rw [storeBlock, HDD.out] at this; exact this)).mono ?_
  rintro e w3 ⟨rfl, h3, ht3⟩
  have HZ := Lib.hid (SWorked.of (HS.out.below HB1.out) (HD.out.below HB1.out) HW2.out h3 ht3)
  have hS3 : w3.cell? ⟨x, 0, none⟩ = some (.pointer (some ⟨lg, 0, none⟩)) := cell_of h3 rfl
  clear h3 ht3
  refine hK _ _ hS3 ?_
  clear hK K
  try simp only [Act.put, List.setIfInBounds_toArray, List.set_cons_zero, List.set_cons_succ]
  refine wpAnyH_takeL (i := 9) (v := ?_) rfl (by kernel_rfl) (by kernel_rfl) (by kernel_rfl) (fun _ _ _ h => h) ?_ (by assumption) ?_; rotate_left; focus (first | (refine Or.inr ⟨by rfl, ?_⟩; with_reducible rfl) | (refine Or.inl ⟨by rfl, ?_⟩; (intro w hSw; (try dsimp only at hSw); go_simp); try with_reducible rfl))
  try simp only [Act.put, List.setIfInBounds_toArray, List.set_cons_zero, List.set_cons_succ]
  refine wpAnyH_done (by kernel_rfl) ?_ _
  go_wp2
  go_ret
  rw [HX.out]
  obtain ⟨⟨mb', z1, z2⟩, ⟨rb', z3, z4, z5⟩, z6⟩ := HZ.out
  exact ⟨rfl, ⟨mb', z1, z2.imp id (fun h => Nat.le_trans HB1.out.size h)⟩, ⟨rb', z3, fun k hk => (z4 k hk).imp id (fun h => Nat.le_trans HB1.out.size h), z5⟩, Touch.trans (Touch.of_below HB1.out) z6 (fun _ _ h => h)⟩
section
variable {w : World} {x lg c mb : Nat} {s : SS} (h : StoAt w x lg c mb s)
include h
set_option maxHeartbeats 1000000 in
theorem keys11_any : Calls Tryz.prog 42 #[.pointer (some ⟨x, 0, none⟩)] w fun e w' => e = .returned (.int .i64 s.ps.length) ∧ w' = w := by
 obtain ⟨_, c1, _⟩ := h.cells
 have hlen0 : ∀ ty, (Builtin.len_ #[101] ty #[.map (some mb)]).run Tryz.prog w = .ok (.int .i64 s.ps.length) w := h.map.len
 clear h
 go_enter Tryz.func42, Tryz.ntmps42
 go_wp2
 go_ret
 exact ⟨rfl, rfl⟩
set_option maxHeartbeats 1000000 in
theorem bytes11_any : Calls Tryz.prog 43 #[.pointer (some ⟨x, 0, none⟩)] w fun e w' => e = .returned (.int .i64 (Sto.size s.ps)) ∧ w' = w := by
 obtain ⟨_, _, c2, _⟩ := h.cells
 clear h
 go_enter Tryz.func43, Tryz.ntmps43
 go_wp2
 go_ret
 exact ⟨rfl, rfl⟩
set_option maxHeartbeats 1000000 in
theorem dead11_any : Calls Tryz.prog 29 #[.pointer (some ⟨x, 0, none⟩)] w fun e w' => e = .returned (.bool s.dead) ∧ w' = w := by
 obtain ⟨_, _, _, _, c4, _⟩ := h.cells
 clear h
 go_enter Tryz.func29, Tryz.ntmps29
 go_wp2
 go_ret
 exact ⟨rfl, rfl⟩
set_option maxHeartbeats 1000000 in
theorem get11_any (k : Sto.S) (hk : k.length ≤ maxLen) : Calls Tryz.prog 40 #[.pointer (some ⟨x, 0, none⟩), .string ⟨k.toArray⟩] w fun e w' => e = .returned (.tuple #[.string ⟨((Sto.get s.ps k).getD []).toArray⟩, .bool (Sto.here s.ps k)]) ∧ w' = w := by
 obtain ⟨_, c1, _⟩ := h.cells
 have hlook := h.map.look h.good.rise k hk
 obtain ⟨o, ho⟩ : ∃ o, (Sto.get s.ps k).getD [] = o := ⟨_, rfl⟩
 obtain ⟨b, hb⟩ : ∃ b, Sto.here s.ps k = b := ⟨_, rfl⟩
 rw [ho, hb] at hlook
 rw [ho, hb]
 clear h ho hb
 go_enter Tryz.func40, Tryz.ntmps40
 go_wp2
 go_ret2
 exact ⟨rfl, rfl⟩
set_option maxHeartbeats 1000000 in
theorem scan11_any (k : Sto.S) (most : Int) (hm1 : most ≤ 9223372036854775807) (hm2 : -9223372036854775808 ≤ most) : Calls Tryz.prog 20 #[.pointer (some ⟨x, 0, none⟩), .string ⟨k.toArray⟩, .int .i64 most] w fun e w' => ∃ v, e = .returned v ∧ PairsAt w' v (Sto.scan s.ps k most.toNat) ∧ (∀ g, v.ownBlock = some g → w.heap.size ≤ g) ∧ Below w.heap.size w w' := by
 obtain ⟨_, c1, _⟩ := h.cells
 have hf := h.fits
 have hfl : s.ps.length ≤ 4398046511104 := by
  unfold Sto.fits at hf
  simp at hf
  omega
 have HSC := Lib.hid (scan_any (some mb) s.ps k most w h.good hfl h.map hm1 hm2)
 clear h hf
 go_enter Tryz.func20, Tryz.ntmps20
 go_wp2_with fail
 refine HSC.out.mono ?_
 rintro e w1 ⟨v, rfl, h1, h2, h3⟩
 have HZ := Lib.hid (And.intro h1 (And.intro h2 h3))
 clear h1 h2 h3
 go_wp2
 go_ret
 exact ⟨v, rfl, HZ.out⟩
end
end Go.Proofs.YtpjpknndfhablaaGreat
namespace Go.Proofs.YtpjpknndfhablaaGreat
open Go.RowKit Go.Shelf
/-- A transaction lies in block y: of the store in block x; what it sees in map pm (none: it is over), what there was in map wm. -/
structure TxAt (w : World) (x y : Nat) (pm : Option Nat) (wm : Nat) (t : TS) : Prop where
 blk : w.heap[y]? = some (txBlock (.pointer (some ⟨x, 0, none⟩)) pm (some wm) (.int .i64 t.turn) (.bool t.over))
 now : MapO w pm t.now
 was : MapAt w wm t.was
 gnow : Sto.Good t.now
 gwas : Sto.Good t.was
 over : pm.isNone = t.over
 apart : pm ≠ some wm
theorem TxAt.touch {S : Nat → Prop} {w w' : World} {x y wm : Nat} {pm : Option Nat} {t : TS} (h : TxAt w x y pm wm t) (ht : Touch S w w') (h1 : ¬ S y) (h2 : ¬ S wm) (h3 : ∀ b, pm = some b → ¬ S b) : TxAt w' x y pm wm t :=
 ⟨(ht.block y (heap_lt h.blk) h1).trans h.blk, h.now.touch ht h3, h.was.touch ht h2, h.gnow, h.gwas, h.over, h.apart⟩
theorem TxAt.below {w w' : World} {x y wm : Nat} {pm : Option Nat} {t : TS} (h : TxAt w x y pm wm t) (hb : Below w.heap.size w w') : TxAt w' x y pm wm t :=
 h.touch (Touch.of_below (S := fun _ => False) hb) (fun h => h) (fun h => h) (fun _ _ h => h)
theorem TxAt.off {w : World} {x y wm pb : Nat} {t : TS} (h : TxAt w x y (some pb) wm t) : y ≠ pb ∧ y ≠ wm ∧ wm ≠ pb := by
 refine ⟨fun e => ?_, fun e => ?_, fun e => h.apart (by rw [e])⟩
 ·obtain ⟨es, cl, h4⟩ := MapAt.isMap (l := t.now) h.now
  rw [← e, h.blk] at h4
  cases h4
 ·obtain ⟨es, cl, h4⟩ := h.was.isMap
  rw [← e, h.blk] at h4
  cases h4
/-- Behind a change of what it sees. -/
theorem TxAt.turned {w w' : World} {x y wm pb : Nat} {t : TS} {l : Sto.Pairs} (h : TxAt w x y (some pb) wm t) (hm : MapAt w' pb l) (hg : w.grownBy w' (some pb)) (hl : Sto.Good l) : TxAt w' x y (some pb) wm { t with now := l } ∧ Touch (fun b => some pb = some b) w w' := by
 obtain ⟨a1, a2, a3⟩ := h.off
 have ht := touch_of_grown hg
 exact ⟨⟨(ht.block y (heap_lt h.blk) (fun e => a1 (Option.some.inj e).symm)).trans h.blk, hm, h.was.touch ht (fun e => a3 (Option.some.inj e).symm), hl, h.gwas, h.over, h.apart⟩, ht⟩
theorem mapclone_any (b : Nat) (l : Sto.Pairs) (w : World) (h : MapAt w b l) :
  Calls Tryz.prog 61 #[.map (some b)] w fun e w' => e = .returned (.map (some w.heap.size)) ∧ MapAt w' w.heap.size l ∧ Below w.heap.size w w' :=
 Calls.mono (AnyW.maps_Clone_owns Tryz.clone 9 _ b _ _ w h) fun _ _ ⟨h1, h2, _, h3⟩ => ⟨h1, MapAt.of h2, h3⟩
set_option maxHeartbeats 2000000 in
set_option maxRecDepth 100000 in
theorem begin11_any (x lg c mb : Nat) (w : World) (s : SS) (h : StoAt w x lg c mb s) :
  Calls Tryz.prog 23 #[.pointer (some ⟨x, 0, none⟩)] w fun e w' => ∃ y pm wm, e = .returned (.pointer (some ⟨y, 0, none⟩)) ∧ TxAt w' x y (some pm) wm s.begin_ ∧ w.heap.size ≤ y ∧ w.heap.size ≤ pm ∧ w.heap.size ≤ wm ∧ Below w.heap.size w w' := by
 have HS := Lib.hid h
 clear h
 go_enter Tryz.func23, Tryz.ntmps23
 go_wp2_with fail
 have hS0 : w.drew.cell? ⟨x, 1, none⟩ = some (.map (some mb)) ∧ w.drew.cell? ⟨x, 3, none⟩ = some (.int .i64 s.turn) := ⟨HS.out.cells.2.1, HS.out.cells.2.2.2.1⟩
 refine wp_region_heldL (S := fun w' => w'.cell? ⟨x, 1, none⟩ = some (.map (some mb)) ∧ w'.cell? ⟨x, 3, none⟩ = some (.int .i64 s.turn)) (by kernel_rfl) ?_
 refine planned [0, 1, 2, 3, 4, 6, 7, 8, 9, 11, 12, 13, 14] ?_
 iterate 13 (refine planned_take (v := ?_) rfl (by kernel_rfl) (by kernel_rfl) (by kernel_rfl) (fun _ _ _ h => h) ?_ (by assumption) ?_; rotate_left; (focus (first | (refine Or.inr ⟨by rfl, ?_⟩; with_reducible rfl) | (refine Or.inl ⟨by rfl, ?_⟩; (intro w hSw; (try dsimp only at hSw); go_simp); try with_reducible rfl))); try simp only [Act.put, List.setIfInBounds_toArray, List.set_cons_zero, List.set_cons_succ])
 refine planned_end ?_
 refine wpAnyH_oneL (i := 5) rfl (by kernel_rfl) ?_
 intro K hK
 rw [if_pos (by rfl)]
 go_simp
 go_at_call 61
 refine (mapclone_any mb s.ps w.drew HS.out.map).mono ?_
 rintro e w1 ⟨rfl, m1, b1⟩
 have HB1 := Lib.hid (bthen ((Below.refl _ w).drew) b1)
 have HM1 := Lib.hid m1
 have hS1 : w1.cell? ⟨x, 1, none⟩ = some (.map (some mb)) ∧ w1.cell? ⟨x, 3, none⟩ = some (.int .i64 s.turn) := ⟨cell_later b1 hS0.1, cell_later b1 hS0.2⟩
 obtain ⟨p1, hp1⟩ : ∃ p, w.drew.heap.size = p := ⟨_, rfl⟩
 have HL1 : Hid (w.heap.size = p1) := Lib.hid hp1
 rw [hp1] at HM1 ⊢
 clear b1 m1 hp1
 refine hK _ _ hS1 ?_
 clear hK K
 try simp only [Act.put, List.setIfInBounds_toArray, List.set_cons_zero, List.set_cons_succ]
 refine wpAnyH_oneL (i := 10) rfl (by kernel_rfl) ?_
 intro K hK
 rw [if_pos (by rfl)]
 go_simp
 go_at_call 61
 refine (mapclone_any mb s.ps w1 (HS.out.map.below HB1.out)).mono ?_
 rintro e w2 ⟨rfl, m2, b2⟩
 have HB2 := Lib.hid (bthen HB1.out b2)
 have HM2 := Lib.hid (HM1.out.below b2)
 have HW2 := Lib.hid m2
 have hS2 : w2.cell? ⟨x, 1, none⟩ = some (.map (some mb)) ∧ w2.cell? ⟨x, 3, none⟩ = some (.int .i64 s.turn) := ⟨cell_later b2 hS1.1, cell_later b2 hS1.2⟩
 obtain ⟨p2, hp2⟩ : ∃ p, w1.heap.size = p := ⟨_, rfl⟩
 have HL2 : Hid (w.heap.size ≤ p2 ∧ p1 < p2) := Lib.hid (by rw [← hp2]; exact ⟨HB1.out.size, HM1.out.lt⟩)
 rw [hp2] at HW2 ⊢
 clear b2 m2 hp2
 refine hK _ _ hS2 ?_
 clear hK K
 try simp only [Act.put, List.setIfInBounds_toArray, List.set_cons_zero, List.set_cons_succ]
 refine wpAnyH_takeL (i := 15) (v := ?_) rfl (by kernel_rfl) (by kernel_rfl) (by kernel_rfl) (fun _ _ _ h => h) ?_ (by assumption) ?_; rotate_left; focus (first | (refine Or.inr ⟨by rfl, ?_⟩; with_reducible rfl) | (refine Or.inl ⟨by rfl, ?_⟩; (intro w hSw; (try dsimp only at hSw); go_simp); try with_reducible rfl))
 try simp only [Act.put, List.setIfInBounds_toArray, List.set_cons_zero, List.set_cons_succ]
 refine wpAnyH_oneL (i := 16) rfl (by kernel_rfl) ?_
 intro K hK
 rw [if_pos (by rfl)]
 go_simp
 have b3 := balloc w2 (txBlock (.pointer (some ⟨x, 0, none⟩)) (some p1) (some p2) (.int .i64 s.turn) (.bool false))
 have H3 := heap_new w2 (txBlock (.pointer (some ⟨x, 0, none⟩)) (some p1) (some p2) (.int .i64 s.turn) (.bool false))
 have HY : Hid (w.heap.size ≤ w2.heap.size) := Lib.hid HB2.out.size
 unfold txBlock at b3 H3
 obtain ⟨y, hy⟩ : ∃ y, w2.heap.size = y := ⟨_, rfl⟩
 rw [hy] at H3 HY ⊢
 obtain ⟨w3, hw3⟩ : ∃ w, w2.alloc (.cells #[.pointer (some ⟨x, 0, none⟩), .map (some p1), .map (some p2), .int .i64 s.turn, .bool false] 131 (0, 0)) = w := ⟨_, rfl⟩
 rw [hw3] at b3 H3 ⊢
 have HN3 := Lib.hid H3
 have HB3 := Lib.hid (bthen HB2.out b3)
 have HP3 := Lib.hid (HM2.out.below b3)
 have HW3 := Lib.hid (HW2.out.below b3)
 have hS3 : w3.cell? ⟨x, 1, none⟩ = some (.map (some mb)) ∧ w3.cell? ⟨x, 3, none⟩ = some (.int .i64 s.turn) := ⟨cell_later b3 hS2.1, cell_later b3 hS2.2⟩
 clear hw3 hy H3 b3
 refine hK _ _ hS3 ?_
 clear hK K
 try simp only [Act.put, List.setIfInBounds_toArray, List.set_cons_zero, List.set_cons_succ]
 refine wpAnyH_takeL (i := 17) (v := ?_) rfl (by kernel_rfl) (by kernel_rfl) (by kernel_rfl) (fun _ _ _ h => h) ?_ (by assumption) ?_; rotate_left; focus (first | (refine Or.inr ⟨by rfl, ?_⟩; with_reducible rfl) | (refine Or.inl ⟨by rfl, ?_⟩; (intro w hSw; (try dsimp only at hSw); go_simp); try with_reducible rfl))
 try simp only [Act.put, List.setIfInBounds_toArray, List.set_cons_zero, List.set_cons_succ]
 refine wpAnyH_done (by kernel_rfl) ?_ _
 go_wp2
 go_ret
 have hl2 := HL2.out
 exact ⟨y, p1, p2, rfl, ⟨HN3.out, HP3.out, HW3.out, HS.out.good, HS.out.good, rfl, fun e => by have := Option.some.inj e; omega⟩, HY.out, Nat.le_of_eq HL1.out, hl2.1, HB3.out⟩
section
variable {w : World} {x y wm : Nat} {pm : Option Nat} {t : TS} (h : TxAt w x y pm wm t)
include h
set_option maxHeartbeats 2000000 in
set_option maxRecDepth 100000 in
theorem put11_any (k v : Sto.S) (hk : k.length ≤ maxLen) (hv : v.length ≤ maxLen) (hl : t.now.length < maxLen) :
  Calls Tryz.prog 24 #[.pointer (some ⟨y, 0, none⟩), .string ⟨k.toArray⟩, .string ⟨v.toArray⟩] w fun e w' => e = .returned (.int .i64 (t.put k v).2) ∧ TxAt w' x y pm wm (t.put k v).1 ∧ Touch (fun b => pm = some b) w w' := by
 obtain ⟨_, c1, _, _, c4, _, hylt⟩ := tx_cells h.blk
 have HT := Lib.hid h
 cases hov : t.over with
 | true =>
  have HX : Hid (t.put k v = (t, 114)) := Lib.hid (by unfold TS.put; rw [if_pos hov])
  rw [hov] at c4
  clear h hov
  go_enter Tryz.func24, Tryz.ntmps24
  go_wp2
  go_ret
  rw [HX.out]
  exact ⟨rfl, HT.out, Touch.refl _ _⟩
 | false =>
  rw [hov] at c4
  have HO := Lib.hid hov
  have hpo := h.over
  rw [hov] at hpo
  obtain ⟨pb, rfl⟩ : ∃ pb, pm = some pb := by cases pm with | none => cases hpo | some pb => exact ⟨pb, rfl⟩
  clear h hov hpo
  have HK := Lib.hid (key_any k w)
  have HV := Lib.hid (value11_any v w)
  cases hkk : Sto.keyOk k with
  | false =>
   have HX : Hid (t.put k v = (t, 111)) := Lib.hid (by unfold TS.put; rw [if_neg (by rw [HO.out]; exact Bool.false_ne_true), if_pos hkk])
   rw [hkk] at HK
   clear hkk
   go_enter Tryz.func24, Tryz.ntmps24
   go_wp2_with (refine HK.out.mono ?_; rintro e w1 ⟨rfl, rfl⟩)
   go_ret
   rw [HX.out]
   exact ⟨rfl, HT.out, Touch.refl _ _⟩
  | true =>
   rw [hkk] at HK
   cases hvv : Sto.valueOk v with
   | false =>
    have HX : Hid (t.put k v = (t, 112)) := Lib.hid (by unfold TS.put; rw [if_neg (by rw [HO.out]; exact Bool.false_ne_true), if_neg (by rw [hkk]; decide), if_pos hvv])
    rw [hvv] at HV
    clear hkk hvv
    go_enter Tryz.func24, Tryz.ntmps24
    go_wp2_with (first | (go_at_call 62; refine HK.out.mono ?_; rintro e w1 ⟨rfl, rfl⟩) | (go_at_call 63; refine HV.out.mono ?_; rintro e w1 ⟨rfl, rfl⟩))
    go_ret
    rw [HX.out]
    exact ⟨rfl, HT.out, Touch.refl _ _⟩
   | true =>
    have HX : Hid (t.put k v = ({ t with now := Sto.put t.now k v }, 0)) := Lib.hid (by unfold TS.put; rw [if_neg (by rw [HO.out]; exact Bool.false_ne_true), if_neg (by rw [hkk]; decide), if_neg (by rw [hvv]; decide)])
    rw [hvv] at HV
    have HG := Lib.hid (HT.out.gnow.put hkk hvv)
    clear hkk hvv
    obtain ⟨z, hrun, hz, hgz⟩ := MapAt.put (l := t.now) HT.out.now HT.out.gnow.rise hl k v hk hv
    have HZ := Lib.hid (HT.out.turned hz hgz HG.out)
    clear hz hgz
    go_enter Tryz.func24, Tryz.ntmps24
    go_wp2_with (first | (go_at_call 62; refine HK.out.mono ?_; rintro e w1 ⟨rfl, rfl⟩) | (go_at_call 63; refine HV.out.mono ?_; rintro e w1 ⟨rfl, rfl⟩))
    go_ret
    rw [HX.out]
    exact ⟨rfl, HZ.out⟩
set_option maxHeartbeats 2000000 in
set_option maxRecDepth 100000 in
theorem delete11_any (k : Sto.S) (hk : k.length ≤ maxLen) :
  Calls Tryz.prog 25 #[.pointer (some ⟨y, 0, none⟩), .string ⟨k.toArray⟩] w fun e w' => e = .returned (.int .i64 (t.del k).2) ∧ TxAt w' x y pm wm (t.del k).1 ∧ Touch (fun b => pm = some b) w w' := by
 obtain ⟨_, c1, _, _, c4, _, hylt⟩ := tx_cells h.blk
 have HT := Lib.hid h
 cases hov : t.over with
 | true =>
  have HX : Hid (t.del k = (t, 114)) := Lib.hid (by unfold TS.del; rw [if_pos hov])
  rw [hov] at c4
  clear h hov
  go_enter Tryz.func25, Tryz.ntmps25
  go_wp2
  go_ret
  rw [HX.out]
  exact ⟨rfl, HT.out, Touch.refl _ _⟩
 | false =>
  rw [hov] at c4
  have HO := Lib.hid hov
  have hpo := h.over
  rw [hov] at hpo
  obtain ⟨pb, rfl⟩ : ∃ pb, pm = some pb := by cases pm with | none => cases hpo | some pb => exact ⟨pb, rfl⟩
  clear h hov hpo
  have HK := Lib.hid (key_any k w)
  cases hkk : Sto.keyOk k with
  | false =>
   have HX : Hid (t.del k = (t, 111)) := Lib.hid (by unfold TS.del; rw [if_neg (by rw [HO.out]; exact Bool.false_ne_true), if_pos hkk])
   rw [hkk] at HK
   clear hkk
   go_enter Tryz.func25, Tryz.ntmps25
   go_wp2_with (refine HK.out.mono ?_; rintro e w1 ⟨rfl, rfl⟩)
   go_ret
   rw [HX.out]
   exact ⟨rfl, HT.out, Touch.refl _ _⟩
  | true =>
   have HX : Hid (t.del k = ({ t with now := Sto.del t.now k }, 0)) := Lib.hid (by unfold TS.del; rw [if_neg (by rw [HO.out]; exact Bool.false_ne_true), if_neg (by rw [hkk]; decide)])
   rw [hkk] at HK
   clear hkk
   obtain ⟨z, hrun, hz, hgz⟩ := MapAt.del (l := t.now) HT.out.now HT.out.gnow.rise k hk 0
   have HZ := Lib.hid (HT.out.turned hz hgz (HT.out.gnow.del k))
   clear hz hgz
   go_enter Tryz.func25, Tryz.ntmps25
   go_wp2_with (first | (go_at_call 62; refine HK.out.mono ?_; rintro e w1 ⟨rfl, rfl⟩) | (at_delete; refine wpList_delete_map _ rfl (.tmp 17) (.tmp 18) rfl pb t.now k rfl rfl HT.out.now HT.out.gnow.rise hk ?_; intro w1 hm1 hg1; have HY := Lib.hid (HT.out.turned hm1 hg1 (HT.out.gnow.del k)); clear hm1 hg1))
   go_ret
   rw [HX.out]
   exact ⟨rfl, HY.out⟩
set_option maxHeartbeats 1000000 in
theorem ends11_any : Calls Tryz.prog 65 #[.pointer (some ⟨y, 0, none⟩)] w fun e w' => e = .returned (.tuple #[]) ∧ TxAt w' x y none wm t.ends ∧ Touch (· = y) w w' := by
 obtain ⟨_, c1, _, _, c4, cf, hylt⟩ := tx_cells h.blk
 have cf1 := cf 1
 have cf4 := cf 4
 have key : ((w.setCell ⟨y, 4, none⟩ (.bool true)).setCell ⟨y, 1, none⟩ (.map none)).heap[y]? = some (txBlock (.pointer (some ⟨x, 0, none⟩)) none (some wm) (.int .i64 t.turn) (.bool true)) := by
  have h1 := heap_set (i := 4) (.bool true) h.blk
  have := heap_set (i := 1) (.map none) h1
  simpa [txBlock] using this
 have ht := ((Touch.refl (· = y) w).setCell (a := ⟨y, 4, none⟩) (.bool true) (fun _ => rfl)).setCell (a := ⟨y, 1, none⟩) (.map none) (fun _ => rfl)
 have hwy : wm ≠ y := fun e => by
  obtain ⟨es, cl, h4⟩ := h.was.isMap
  rw [e, h.blk] at h4
  cases h4
 have HZ : Hid (TxAt ((w.setCell ⟨y, 4, none⟩ (.bool true)).setCell ⟨y, 1, none⟩ (.map none)) x y none wm t.ends) := Lib.hid ⟨key, rfl, h.was.touch ht hwy, Sto.Good.nil, h.gwas, rfl, fun e => by cases e⟩
 have HTT := Lib.hid ht
 clear h key ht cf
 go_enter Tryz.func65, Tryz.ntmps65
 go_wp2
 go_end0
 exact ⟨rfl, HZ.out, HTT.out⟩
set_option maxHeartbeats 1000000 in
theorem abort11_any : Calls Tryz.prog 136 #[.pointer (some ⟨y, 0, none⟩)] w fun e w' => e = .returned (.tuple #[]) ∧ TxAt w' x y none wm t.ends ∧ Touch (· = y) w w' := by
 have HC := Lib.hid (ends11_any h)
 clear h
 go_enter Tryz.func136, Tryz.ntmps136
 go_wp2_with (refine HC.out.mono ?_; rintro e w1 ⟨rfl, h1⟩; have H1 := Lib.hid h1; clear h1)
 go_end0
 exact ⟨rfl, H1.out⟩
set_option maxHeartbeats 1000000 in
theorem txget11_any (k : Sto.S) (hk : k.length ≤ maxLen) : Calls Tryz.prog 39 #[.pointer (some ⟨y, 0, none⟩), .string ⟨k.toArray⟩] w fun e w' => e = .returned (.tuple #[.string ⟨((Sto.get t.now k).getD []).toArray⟩, .bool (Sto.here t.now k)]) ∧ w' = w := by
 obtain ⟨_, c1, _⟩ := tx_cells h.blk
 cases pm with
 | none =>
  have hn : t.now = [] := h.now
  rw [hn]
  have hz := Tryz.zeroValue9 w
  have hlook : (Instr.lookup 101 (.map none) (.string ⟨k.toArray⟩) true).run Tryz.prog w = .ok (.tuple #[.string ⟨#[]⟩, .bool false]) w := Maps.look_nil true strKeyed Tryz.underlying101 hz (keyOf_str1 k hk)
  clear h hn hz
  go_enter Tryz.func39, Tryz.ntmps39
  go_wp2
  go_ret2
  exact ⟨rfl, rfl⟩
 | some pb =>
  have hlook := MapAt.look (l := t.now) h.now h.gnow.rise k hk
  obtain ⟨o, ho⟩ : ∃ o, (Sto.get t.now k).getD [] = o := ⟨_, rfl⟩
  obtain ⟨b, hb⟩ : ∃ b, Sto.here t.now k = b := ⟨_, rfl⟩
  rw [ho, hb] at hlook
  rw [ho, hb]
  clear h ho hb
  go_enter Tryz.func39, Tryz.ntmps39
  go_wp2
  go_ret2
  exact ⟨rfl, rfl⟩
set_option maxHeartbeats 1000000 in
theorem txscan11_any (k : Sto.S) (most : Int) (hlen : t.now.length ≤ 4398046511104) (hm1 : most ≤ 9223372036854775807) (hm2 : -9223372036854775808 ≤ most) : Calls Tryz.prog 26 #[.pointer (some ⟨y, 0, none⟩), .string ⟨k.toArray⟩, .int .i64 most] w fun e w' => ∃ v, e = .returned v ∧ PairsAt w' v (Sto.scan t.now k most.toNat) ∧ (∀ g, v.ownBlock = some g → w.heap.size ≤ g) ∧ Below w.heap.size w w' := by
 obtain ⟨_, c1, _⟩ := tx_cells h.blk
 have HSC := Lib.hid (scan_any pm t.now k most w h.gnow hlen h.now hm1 hm2)
 clear h
 go_enter Tryz.func26, Tryz.ntmps26
 go_wp2_with fail
 refine HSC.out.mono ?_
 rintro e w1 ⟨v, rfl, h1, h2, h3⟩
 have HZ := Lib.hid (And.intro h1 (And.intro h2 h3))
 clear h1 h2 h3
 go_wp2
 go_ret
 exact ⟨v, rfl, HZ.out⟩
end
end Go.Proofs.YtpjpknndfhablaaGreat
namespace Go.Proofs.YtpjpknndfhablaaGreat
open Go.RowKit Go.Shelf
namespace Sto
theorem enc1_le {c : Ch} (h : Fine c) : (enc1 c).length ≤ 4165 := by
 unfold enc1
 have h1 := (keyOk_iff.1 h.key).2
 have h2 := valueOk_iff.1 h.value
 cases c.put <;> simp [Sha.big_length] <;> omega
theorem enc_le : ∀ {c : List Ch}, (∀ x ∈ c, Fine x) → (enc c).length ≤ 4165 * c.length
 | [], _ => by simp [enc]
 | x :: r, h => by
  have ih := enc_le (c := r) (fun y hy => h y (List.mem_cons_of_mem _ hy))
  have h1 := enc1_le (h x (List.mem_cons_self ..))
  have e : enc (x :: r) = enc1 x ++ enc r := rfl
  rw [e, List.length_append, List.length_cons]
  omega
theorem encode_le {c : List Ch} (h : ∀ x ∈ c, Fine x) (count : Nat) : (encode c count).length ≤ count + 4165 * c.length := by
 unfold encode
 have := enc_le h
 rw [List.length_append, Sha.big_length]
 omega
theorem changes_len {a b : Pairs} (ha : Rise a) (hb : Rise b) : (changes a b).length ≤ a.length + b.length := by
 have h := (changes_perm a b ha hb).length_eq
 rw [← h]
 unfold putsOf delsOf
 rw [List.length_append, List.length_map, List.length_map]
 have h1 := List.length_filter_le (isPut a) b
 have h2 := List.length_filter_le (isDel b) a
 omega
end Sto
theorem cut_died {d : DS} {f n : Int} (h : (d.cut f n).2 = 0) : (d.cut f n).1.dead = d.dead := by
 unfold DS.cut at h ⊢
 split
 ·rfl
 ·rename_i h1
  rw [if_neg h1] at h
  split
  ·rfl
  ·rename_i f' hf
   rw [hf] at h
   simp only at h
   split
   ·rfl
   ·rename_i h2
    rw [if_neg h2] at h
    split
    ·rename_i h3; rw [if_pos h3] at h; cases h
    ·cases f' <;> rfl
theorem cp_died {l : Wal.LS} {d : DS} {s : List UInt8} (h : (Wal.checkpoint l d s).2.2 = 0) : (Wal.checkpoint l d s).2.1.dead = d.dead := by
 unfold Wal.checkpoint at h ⊢
 split
 ·rfl
 ·rename_i h1
  rw [if_neg h1] at h
  split
  ·rfl
  ·rename_i h2
   rw [if_neg h2] at h
   split
   ·rfl
   ·rename_i h3
    rw [if_neg h3] at h
    split
    ·rename_i h4; rw [if_pos h4] at h; cases h
    ·rename_i h4
     rw [if_neg h4] at h
     split
     ·rename_i h5; rw [if_pos h5] at h; cases h
     ·rename_i h5
      exact (cut_died (Classical.not_not.1 h5)).trans (lays_died (Classical.not_not.1 h4)).1
theorem own3_trans {w w1 w2 : World} {c x : Nat} {rb rb1 : Option Nat} {T : Nat → Prop} (h : Touch (fun k => own3 c rb x k ∨ T k) w w1) (hn : Newer w rb rb1) (h' : Touch (fun k => own3 c rb1 x k ∨ T k) w1 w2) : Touch (fun k => own3 c rb x k ∨ T k) w w2 :=
 h.trans h' fun k hk ho => by
  rcases ho with ((rfl | ho) | rfl) | ho
  ·exact .inl (.inl (.inl rfl))
  ·rcases hn k ho with h1 | h1
   ·exact .inl (.inl (.inr h1))
   ·omega
  ·exact .inl (.inr rfl)
  ·exact .inr ho
/-- Two pieces of work, one behind the other. -/
theorem SWorked.then {x lg c mb mb1 : Nat} {s2 : SS} {d d1 d2 : DS} {m2 : Nat} {rb rb1 : Option Nat} {w w1 w2 : World} (h1 : Newer w rb rb1) (hm : mb1 = mb ∨ w.heap.size ≤ mb1) (ht : Touch (fun k => own3 c rb lg k ∨ k = x) w w1)
  (hdd : d.dead = false → d1.dead = false) (h2 : SWorked x lg c mb1 s2 d1 d2 m2 rb1 w1 w2) : SWorked x lg c mb s2 d d2 m2 rb w w2 := by
 obtain ⟨⟨mb2, a1, a2⟩, ⟨rb2, b1, b2, b3⟩, c1⟩ := h2
 refine ⟨⟨mb2, a1, ?_⟩, ⟨rb2, b1, ?_, fun e1 e2 => b3 e1 (hdd e2)⟩, own3_trans ht h1 c1⟩
 ·rcases a2 with rfl | a2
  ·exact hm
  ·exact .inr (Nat.le_trans ht.size a2)
 ·intro k hk
  rcases b2 k hk with e | e
  ·exact h1 k e
  ·exact .inr (Nat.le_trans ht.size e)
theorem cp_few {l : Wal.LS} {d : DS} {s : List UInt8} : (Wal.checkpoint l d s).1.n ≤ l.n := by
 unfold Wal.checkpoint
 split
 ·exact Nat.le_refl _
 ·split
  ·exact Nat.le_refl _
  ·split
   ·exact Nat.le_refl _
   ·split
    ·exact Nat.le_refl _
    ·split
     ·exact Nat.le_refl _
     ·exact Nat.zero_le _
/-- What no work on a store turns: blocks of other types, maps. -/
theorem StoAt.far {w : World} {x lg c mb : Nat} {s : SS} (h : StoAt w x lg c mb s) {d : DS} {m : Nat} {rb : Option Nat} (hd : DiskAt w c d m rb) {k : Nat} {o : Obj} (hk : w.heap[k]? = some o) (ho : ∀ a t f, o = .cells a t f → t ≠ 103 ∧ t ∉ [89, 106, 148]) : ¬ (own3 c rb lg k ∨ k = x) := by
 rintro (e | rfl)
 ·obtain ⟨a, t, f, h1, h2⟩ := h.log.typed3 hd k e
  rw [hk] at h1
  exact (ho a t f (Option.some.inj h1)).2 h2
 ·have h1 := h.blk
  rw [hk] at h1
  exact (ho _ _ _ (Option.some.inj h1)).1 rfl
theorem StoAt.farMap {w : World} {x lg c mb : Nat} {s : SS} (h : StoAt w x lg c mb s) {d : DS} {m : Nat} {rb : Option Nat} (hd : DiskAt w c d m rb) {k : Nat} {l : Sto.Pairs} (hk : MapAt w k l) : ¬ (own3 c rb lg k ∨ k = x) := by
 obtain ⟨es, cl, h4⟩ := hk.isMap
 exact h.far hd h4 (fun a t f e => by cases e)
theorem TxAt.worked {w w' : World} {x lg c mb : Nat} {s : SS} (h : StoAt w x lg c mb s) {d : DS} {m : Nat} {rb : Option Nat} (hd : DiskAt w c d m rb) {z y wm : Nat} {pm : Option Nat} {t : TS} (ht : TxAt w z y pm wm t) (hw : Touch (fun k => own3 c rb lg k ∨ k = x) w w') : TxAt w' z y pm wm t := by
 refine ht.touch hw (h.far hd ht.blk (fun a t f e => ?_)) (h.farMap hd ht.was) (fun b e => ?_)
 ·cases e; decide
 ·subst e; exact h.farMap hd (l := t.now) ht.now
/-- On the way through a commit. -/
structure CMid (x lg c mb y wm : Nat) (pm : Option Nat) (t : TS) (d : DS) (rb : Option Nat) (w : World) (s1 : SS) (d1 : DS) (m1 mb1 : Nat) (rb1 : Option Nat) (W : World) : Prop where
 store : StoAt W x lg c mb1 s1
 mbs : mb1 = mb ∨ w.heap.size ≤ mb1
 disk : DiskAt W c d1 m1 rb1
 newer : Newer w rb rb1
 lives : d.dead = false → d1.dead = false
 touch : Touch (fun k => own3 c rb lg k ∨ (k = x ∨ k = y)) w W
 tx : TxAt W x y pm wm t
/-- What a commit leaves. -/
structure CWorked (x lg c mb y wm : Nat) (pm : Option Nat) (t : TS) (d : DS) (rb : Option Nat) (w : World) (s' : SS) (d' : DS) (m : Nat) (w' : World) : Prop where
 store : ∃ mb', StoAt w' x lg c mb' s' ∧ (mb' = mb ∨ w.heap.size ≤ mb')
 disk : ∃ rb', DiskAt w' c d' m rb' ∧ Newer w rb rb' ∧ (d'.dead = true → d.dead = false → rb' = none)
 touch : Touch (fun k => own3 c rb lg k ∨ (k = x ∨ k = y)) w w'
 tx : TxAt w' x y pm wm t
section
variable {x lg c mb y wm : Nat} {pm : Option Nat} {t : TS} {d : DS} {rb : Option Nat} {w : World} {s1 : SS} {d1 : DS} {m1 mb1 : Nat} {rb1 : Option Nat} {W : World}
theorem CMid.below (h : CMid x lg c mb y wm pm t d rb w s1 d1 m1 mb1 rb1 W) {W' : World} (hb : Below W.heap.size W W') : CMid x lg c mb y wm pm t d rb w s1 d1 m1 mb1 rb1 W' :=
 ⟨h.store.below hb, h.mbs, h.disk.below hb, h.newer, h.lives, Touch.trans h.touch (Touch.of_below hb) (fun _ _ e => e), h.tx.below hb⟩
theorem CMid.done (h : CMid x lg c mb y wm pm t d rb w s1 d1 m1 mb1 rb1 W) {m2 : Nat} (hm : m1 ≤ m2) : CWorked x lg c mb y wm pm t d rb w s1 d1 m2 W :=
 ⟨⟨mb1, h.store, h.mbs⟩, ⟨rb1, h.disk.mono hm, h.newer, fun e1 e2 => by rw [h.lives e2] at e1; cases e1⟩, h.touch, h.tx⟩
theorem CMid.worked (h : CMid x lg c mb y wm pm t d rb w s1 d1 m1 mb1 rb1 W) {s2 : SS} {d2 : DS} {m2 : Nat} {W' : World} (hw : SWorked x lg c mb1 s2 d1 d2 m2 rb1 W W') : CWorked x lg c mb y wm pm t d rb w s2 d2 m2 W' := by
 obtain ⟨⟨mb2, a1, a2⟩, ⟨rb2, b1, b2, b3⟩, c1⟩ := hw
 refine ⟨⟨mb2, a1, ?_⟩, ⟨rb2, b1, ?_, fun e1 e2 => b3 e1 (h.lives e2)⟩, own3_trans h.touch h.newer (c1.mono (fun _ _ e => e.imp id .inl)), h.tx.worked h.store h.disk c1⟩
 ·rcases a2 with rfl | a2
  ·exact h.mbs
  ·exact .inr (Nat.le_trans h.touch.size a2)
 ·intro k hk
  rcases b2 k hk with e | e
  ·exact h.newer k e
  ·exact .inr (Nat.le_trans h.touch.size e)
/-- A commit's work so far, taken up again. -/
theorem CWorked.mid (h : CWorked x lg c mb y wm pm t d rb w s1 d1 m1 W) (hl : d.dead = false → d1.dead = false) : ∃ mb1 rb1, CMid x lg c mb y wm pm t d rb w s1 d1 m1 mb1 rb1 W := by
 obtain ⟨⟨mb1, a1, a2⟩, ⟨rb1, b1, b2, b3⟩, c1, t1⟩ := h
 exact ⟨mb1, rb1, a1, a2, b1, b2, hl, c1, t1⟩
end
theorem CWorked.mono {x lg c mb y wm : Nat} {pm : Option Nat} {t : TS} {d : DS} {rb : Option Nat} {w : World} {s1 : SS} {d1 : DS} {m1 m2 : Nat} {W : World} (h : CWorked x lg c mb y wm pm t d rb w s1 d1 m1 W) (hm : m1 ≤ m2) : CWorked x lg c mb y wm pm t d rb w s1 d1 m2 W := by
 obtain ⟨rb1, b1, b2, b3⟩ := h.disk
 exact ⟨h.store, ⟨rb1, b1.mono hm, b2, b3⟩, h.touch, h.tx⟩
theorem SWorked.below' {x lg c mb : Nat} {s' : SS} {d d' : DS} {m : Nat} {rb : Option Nat} {w w1 w2 : World} (h : SWorked x lg c mb s' d d' m rb w w1) (hb : Below w1.heap.size w1 w2) : SWorked x lg c mb s' d d' m rb w w2 := by
 obtain ⟨⟨mb2, a1, a2⟩, ⟨rb2, b1, b2⟩, c1⟩ := h
 exact ⟨⟨mb2, a1.below hb, a2⟩, ⟨rb2, b1.below hb, b2⟩, Touch.trans c1 (Touch.of_below hb) (fun _ _ e => e)⟩
theorem check_ok {s s1 : SS} {d d1 : DS} (hd : s.dead = false) (h : s.check d = (s1, d1, 0)) : s1.dead = false ∧ s1.turn = s.turn ∧ s1.ps = s.ps ∧ s1.l.n ≤ s.l.n ∧ d1.dead = d.dead := by
 unfold SS.check at h
 rw [if_neg (by rw [hd]; exact Bool.false_ne_true)] at h
 simp only [Prod.mk.injEq] at h
 obtain ⟨h1, h2, h3⟩ := h
 subst h1 h2
 refine ⟨?_, rfl, rfl, cp_few, cp_died h3⟩
 rw [h3]
 rfl
theorem CMid.start {x lg c mb y wm : Nat} {pm pm' : Option Nat} {t t' : TS} {s : SS} {d : DS} {m : Nat} {rb : Option Nat} {w W : World} (h : StoAt w x lg c mb s) (hd : DiskAt w c d m rb) (ht : TxAt w x y pm wm t) (hT : Touch (· = y) w W) (hX : TxAt W x y pm' wm t') : CMid x lg c mb y wm pm' t' d rb w s d m mb rb W := by
 have hy := h.far hd ht.blk (fun a t f e => by cases e; decide)
 have hym : mb ≠ y := fun e => by
  obtain ⟨es, cl, h4⟩ := h.map.isMap
  rw [e, ht.blk] at h4
  cases h4
 exact ⟨h.touch hT (fun e => hy (.inr e.symm)) (fun e => hy (.inl (.inr e.symm))) hym, .inl rfl, hd.touch hT (fun k hk e => hy (.inl (.inl (e ▸ hk)))), Newer.refl _ _, id, hT.mono (fun _ _ e => .inr (.inr e)), hX⟩
/-- The store that a commit makes ahead: its map has the pairs to be. -/
structure NxAt (w : World) (p mbn : Nat) (m : Sto.Pairs) : Prop where
 blk : w.heap[p]? = some (stBlock (.pointer none) mbn (Sto.size m) (.int .i64 0) (.bool false))
 map : MapAt w mbn m
theorem NxAt.below {w w' : World} {p mbn : Nat} {m : Sto.Pairs} (h : NxAt w p mbn m) (hb : Below w.heap.size w w') : NxAt w' p mbn m := ⟨stays h.blk hb, h.map.below hb⟩
theorem NxAt.worked {w w' : World} {x lg c mb : Nat} {s : SS} (h : StoAt w x lg c mb s) {d : DS} {n : Nat} {rb : Option Nat} (hd : DiskAt w c d n rb) {p mbn : Nat} {m : Sto.Pairs} (hx : NxAt w p mbn m) (hp : p ≠ x) (hw : Touch (fun k => own3 c rb lg k ∨ k = x) w w') : NxAt w' p mbn m := by
 refine ⟨(hw.block p (heap_lt hx.blk) ?_).trans hx.blk, hx.map.touch hw (h.farMap hd hx.map)⟩
 rintro (e | e)
 ·obtain ⟨a, t, f, h1, h2⟩ := h.log.typed3 hd p e
  rw [hx.blk] at h1
  simp [stBlock] at h1 h2
  rw [← h1.2.1] at h2
  exact absurd h2 (by decide)
 ·exact hp e
/-- The new map, the new size, the new turn. -/
theorem CWorked.adopt {x lg c mb y wm : Nat} {pm : Option Nat} {t : TS} {d : DS} {rb : Option Nat} {w w1 : World} {s2 : SS} {d2 : DS} {mb1 mbn m2 : Nat} {m : Sto.Pairs} (hw : CWorked x lg c mb y wm pm t d rb w s2 d2 m2 w1) (hb : w1.heap[x]? = some (storeBlock lg mb1 s2)) (hm : MapAt w1 mbn m) (hn : w.heap.size ≤ mbn) (hg : Sto.Good m) (hf : Sto.fits m = true) :
  CWorked x lg c mb y wm pm t d rb w { s2 with ps := m, turn := s2.turn + 1 } d2 m2 (((w1.setCell ⟨x, 1, none⟩ (.map (some mbn))).setCell ⟨x, 2, none⟩ (.int .i64 (Sto.size m))).setCell ⟨x, 3, none⟩ (.int .i64 ((s2.turn : Int) + 1))) := by
 obtain ⟨⟨mb2, a1, a2⟩, ⟨rb2, b1, b2, b3⟩, c1, t1⟩ := hw
 obtain ⟨n1, n2, n3⟩ := a1.apart b1
 have hxm : mbn ≠ x := fun e => by
  obtain ⟨es, cl, h4⟩ := hm.isMap
  rw [e, hb] at h4
  cases h4
 have ht : Touch (· = x) w1 (((w1.setCell ⟨x, 1, none⟩ (.map (some mbn))).setCell ⟨x, 2, none⟩ (.int .i64 (Sto.size m))).setCell ⟨x, 3, none⟩ (.int .i64 ((s2.turn : Int) + 1))) :=
  (((Touch.refl (· = x) w1).setCell (a := ⟨x, 1, none⟩) _ (fun _ => rfl)).setCell (a := ⟨x, 2, none⟩) _ (fun _ => rfl)).setCell (a := ⟨x, 3, none⟩) _ (fun _ => rfl)
 refine ⟨⟨mbn, ⟨?_, a1.log.touch ht (fun e => n1 (.inr e.symm)), hm.touch ht hxm, hg, hf⟩, .inr hn⟩, ⟨rb2, b1.touch ht (fun k hk e => n1 (.inl (e ▸ hk))), b2, b3⟩, Touch.trans c1 ht (fun _ _ e => .inr (.inl e)), t1.worked a1 b1 (ht.mono (fun _ _ e => .inr e))⟩
 have h1 := heap_set (i := 3) (.int .i64 ((s2.turn : Int) + 1)) (heap_set (i := 2) (.int .i64 (Sto.size m)) (heap_set (i := 1) (.map (some mbn)) hb))
 rw [h1]
 simp [storeBlock, stBlock]
end Go.Proofs.YtpjpknndfhablaaGreat
