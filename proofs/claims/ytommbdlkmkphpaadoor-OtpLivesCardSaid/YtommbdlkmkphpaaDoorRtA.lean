/- Walks of the document's side of chapter 04: above. -/
import Derived.Test.YtommbdlkmkphpaaDoorHshA
import Derived.Test.YtommbdlkmkphpaaDoorRootM
namespace Go.Proofs.YtommbdlkmkphpaaDoor
open Go.RowKit
/-- Block g begins with these values, none of their cells frozen. -/
def RowV (w : World) (g : Nat) (vs : List Value) : Prop := g < w.heap.size ∧ ∀ (j : Nat) (v : Value), vs[j]? = some v → w.cell? ⟨g, j, none⟩ = some v ∧ w.frozen? ⟨g, j, none⟩ = false
section
variable {w w' : World} {g : Nat} {vs : List Value}
theorem RowV.below (h : RowV w g vs) (hb : Below w.heap.size w w') : RowV w' g vs :=
  ⟨Nat.lt_of_lt_of_le h.1 hb.size, fun j x hj => ⟨(hb.cell (p := ⟨g, j, none⟩) h.1).trans (h.2 j x hj).1, (hb.frozen (p := ⟨g, j, none⟩) h.1).trans (h.2 j x hj).2⟩⟩
theorem RowV.touch {S : Nat → Prop} (h : RowV w g vs) (ht : Touch S w w') (hS : ¬ S g) : RowV w' g vs := by
  have hk := ht.block g h.1 hS
  exact ⟨Nat.lt_of_lt_of_le h.1 ht.size, fun j x hj => ⟨(World.cell?_of_block (a := ⟨g, j, none⟩) hk).trans (h.2 j x hj).1, (World.frozen?_of_block (a := ⟨g, j, none⟩) hk).trans (h.2 j x hj).2⟩⟩
theorem RowV.drew (h : RowV w g vs) : RowV w.drew g vs := ⟨h.1, h.2⟩
theorem RowV.set (h : RowV w g vs) (j : Nat) (v : Value) : RowV (w.setCell ⟨g, j, none⟩ v) g (vs.set j v) := by
  refine ⟨by rw [World.size_setCell]; exact h.1, fun i y hi => ?_⟩
  rw [World.frozen?_setCell]
  by_cases hij : j = i
  · subst hij
    rw [List.getElem?_set_self'] at hi
    cases hl : vs[j]? with
    | none => rw [hl] at hi; cases hi
    | some z =>
      rw [hl] at hi
      have hy : v = y := by simpa using hi
      subst hy
      exact ⟨World.cell?_setCell_same _ _ _ (h.2 j z hl).1, (h.2 j z hl).2⟩
  · rw [List.getElem?_set_ne hij] at hi
    refine ⟨?_, (h.2 i y hi).2⟩
    rw [World.cell?_setCell_other _ _ _ _ (by intro e; cases e; exact hij rfl)]
    exact (h.2 i y hi).1
theorem RowV.block {t : TypeId} {cs : Array Value} (h : w.heap[g]? = some (.cells cs t (0, 0))) : RowV w g cs.toList :=
  ⟨heap_lt h, fun j x hj => ⟨cell_of h (by simpa using hj), free_of h j⟩⟩
theorem RowV.own {base cap n : Nat} (h : OwnF w base 1 (.slice (some ⟨g, 0, none⟩) n cap) n vs) : RowV w g vs := by
  rcases h.2 with ⟨h0, _⟩ | ⟨g', cap', he, _, hg, hn, _, hcell, hx⟩
  · cases h0
  · cases he
    have hlen := h.1
    refine ⟨hg, fun j x hj => ⟨hx j _ hj, (hcell j ?_).2⟩⟩
    have := (List.getElem?_eq_some_iff.1 hj).1
    omega
end
/-- Numbers of 64 bits, as cells. -/
def c64 (l : List Nat) : List Value := l.map fun (x : Nat) => Value.int .u64 ((x : Nat) : Int)
theorem c64_length (l : List Nat) : (c64 l).length = l.length * 1 := by simp [c64]
theorem c64_append (l m : List Nat) : c64 (l ++ m) = c64 l ++ c64 m := by simp [c64]
theorem c64_set (l : List Nat) (j x : Nat) : (c64 l).set j (.int .u64 (x : Int)) = c64 (l.set j x) := by simp [c64, List.map_set]
theorem c64_get (l : List Nat) (j x : Nat) (h : l[j]? = some x) : (c64 l)[j]? = some (.int .u64 (x : Int)) := by simp [c64, h]
/-- Block g begins with these numbers. -/
def Row64 (w : World) (g : Nat) (l : List Nat) : Prop := RowV w g (c64 l)
theorem Row64.set {w : World} {g : Nat} {l : List Nat} (h : Row64 w g l) (j x : Nat) : Row64 (w.setCell ⟨g, j, none⟩ (.int .u64 (x : Int))) g (l.set j x) := by
  have := RowV.set h j (.int .u64 (x : Int))
  rwa [c64_set] at this
theorem Row64.below {w w' : World} {g : Nat} {l : List Nat} (h : Row64 w g l) (hb : Below w.heap.size w w') : Row64 w' g l := RowV.below h hb
theorem Row64.drew {w : World} {g : Nat} {l : List Nat} (h : Row64 w g l) : Row64 w.drew g l := RowV.drew h
theorem Row64.at {w : World} {g : Nat} {l : List Nat} (h : Row64 w g l) {j : Nat} (hj : j < l.length) : w.cell? ⟨g, j, none⟩ = some (.int .u64 (l[j] : Int)) := (h.2 j _ (c64_get l j _ (List.getElem?_eq_getElem hj))).1
theorem Row64.free {w : World} {g : Nat} {l : List Nat} (h : Row64 w g l) {j : Nat} (hj : j < l.length) : w.frozen? ⟨g, j, none⟩ = false := (h.2 j _ (c64_get l j _ (List.getElem?_eq_getElem hj))).2
namespace Rt
theorem val_take_succ (l : List Nat) (k : Nat) (h : k < l.length) : val (l.take (k + 1)) = val (l.take k) + 65536 ^ k * l[k] := by
  rw [List.take_succ_eq_append_getElem h, val_append]
  have : (l.take k).length = k := by simp; omega
  rw [this]; simp [val]
theorem goal_dig (len p n : Nat) (hp : p < 65536) : Dig (goal len p n) := (Dig.zeros len).set n p hp
theorem drop_eq {a t : List Nat} {i : Nat} (ha : i < a.length) (ht : i < t.length) (h : a.drop (i + 1) = t.drop (i + 1)) (hi : a[i] = t[i]) : a.drop i = t.drop i := by
  rw [List.drop_eq_getElem_cons ha, List.drop_eq_getElem_cons ht, h, hi]
theorem above_at (a : List Nat) (p n i : Nat) (ha : Dig a) (hp : p < 65536) (hn : n < a.length) (hi : i < a.length) (hd : a.drop (i + 1) = (goal a.length p n).drop (i + 1)) (hne : a[i] ≠ if i = n then p else 0) :
    decide (p * 65536 ^ n < val a) = decide ((if i = n then p else 0) < a[i]) := by
  have hg : (goal a.length p n)[i]'(by rw [goal_length]; exact hi) = if i = n then p else 0 := by
    have := goal_at a.length p n i hi
    rw [List.getElem?_eq_getElem (by rw [goal_length]; exact hi)] at this
    exact Option.some.inj this
  rw [← goal_val a.length p n hn]
  by_cases h : (if i = n then p else 0) < a[i]
  · have := val_gt a (goal a.length p n) i (goal_dig _ _ _ hp) (goal_length _ _ _).symm hi hd (by rw [hg]; exact h)
    simp [h, this]
  · have h2 : a[i] < if i = n then p else 0 := by omega
    have := val_gt (goal a.length p n) a i ha (goal_length _ _ _) (by rw [goal_length]; exact hi) hd.symm (by rw [hg]; exact h2)
    have h3 : ¬ (val (goal a.length p n) < val a) := by omega
    simp [h, h3]
end Rt
set_option maxHeartbeats 2000000 in
set_option maxRecDepth 100000 in
theorem above_any (w : World) (g cap : Nat) (A : List Nat) (p n : Nat) (h : Row64 w g A) (hd : Rt.Dig A) (hp : p < 65536) (hn : 2 * n < A.length) (hl : A.length ≤ 100) (_hc : A.length ≤ cap) :
    Calls Tryd.prog 48 #[.slice (some ⟨g, 0, none⟩) A.length cap, .int .u64 p, .int .i64 n] w fun e w' => e = .returned (.bool (decide (p * 65536 ^ (2 * n) < Rt.val A))) ∧ w = w' := by
  have H := Lib.hid h
  have HD := Lib.hid hd
  obtain ⟨L, hL⟩ : ∃ L, A.length = L := ⟨_, rfl⟩
  obtain ⟨B, hB⟩ : ∃ B, decide (p * 65536 ^ (2 * n) < Rt.val A) = B := ⟨_, rfl⟩
  have HB := Lib.hid hB
  rw [hB, hL]
  rw [hL] at hn hl
  have HL := Lib.hid hL
  clear h hd hB hL
  go_enter Tryd.func48, Tryd.ntmps48
  go_wp2_with fail
  go_loop [7] (fun i => ∃ j : Nat, j ≤ L ∧ i = .int .i64 ((j : Int) - 1) ∧ Hid (A.drop j = (Rt.goal L p (2 * n)).drop j)) (fun i => ((intOf i) + 1).toNat)
  case atStart => exact ⟨L, Nat.le_refl _, rfl, Lib.hid (by rw [List.drop_of_length_le (by rw [HL.out]; exact Nat.le_refl _), List.drop_of_length_le (by rw [Rt.goal_length]; exact Nat.le_refl _)])⟩
  case round =>
    obtain ⟨j, hj, rfl, hdr⟩ := hrel
    cases j with
    | zero =>
      have HR : Hid (B = false) := by
        have h1 := hdr.out
        simp only [List.drop_zero] at h1
        have h2 := HB.out
        rw [h1, Rt.goal_val L p (2 * n) hn] at h2
        rw [← h2]
        exact (by simp : decide (p * 65536 ^ (2 * n) < p * 65536 ^ (2 * n)) = false)
      rw [show ((0 : Nat) : Int) - 1 = -1 from rfl]
      go_wp2_with fail
      go_ret
      exact ⟨by rw [HR.out]; rfl, rfl⟩
    | succ i =>
      rw [show (((i + 1 : Nat) : Int) - 1) = (i : Int) by omega]
      have hi : i < A.length := by rw [HL.out]; omega
      have c1 := H.out.at hi
      obtain ⟨x, hx⟩ : ∃ x, A[i]'hi = x := ⟨_, rfl⟩
      rw [hx] at c1
      have HX := Lib.hid hx
      have hiL : (i : Int) < (L : Int) := by omega
      have hiL' : i < L := by omega
      have hg : (Rt.goal L p (2 * n))[i]'(by rw [Rt.goal_length]; exact hiL') = if i = 2 * n then p else 0 := by
        have := Rt.goal_at L p (2 * n) i hiL'
        rw [List.getElem?_eq_getElem (by rw [Rt.goal_length]; exact hiL')] at this
        exact Option.some.inj this
      have HG := Lib.hid hg
      have HA := fun hne => Lib.hid (Rt.above_at A p (2 * n) i HD.out hp (by rw [HL.out]; exact hn) hi (by rw [HL.out]; exact hdr.out) hne)
      rw [HX.out, HB.out] at HA
      clear hx hg
      have HN : ∀ y : Nat, (if i = 2 * n then p else 0) = y → x = y → Hid (A.drop i = (Rt.goal L p (2 * n)).drop i) := fun y h1 h2 =>
        Lib.hid (Rt.drop_eq hi (by rw [Rt.goal_length]; exact hiL') hdr.out (by rw [HX.out, HG.out, h1, h2]))
      by_cases h2 : i = 2 * n
      · subst h2
        by_cases he : x = p
        · subst he
          have HZ := HN x (by rw [if_pos rfl]) rfl
          clear HN HA
          go_wp2_with fail
          go_round
          case rel => exact ⟨2 * n, by omega, by go_num, HZ⟩
          case measure => simp [intOf]; omega
        · have HB2 : Hid (B = decide (p < x)) := by
            have h := (HA (by rw [if_pos rfl]; exact he)).out
            rw [if_pos rfl] at h
            exact h
          have e1 : ((x : Int) == (p : Int)) = false := by simp; omega
          have e2 : ((x : Int) != (p : Int)) = true := by simp; omega
          clear HN HA
          go_wp2_with fail
          go_ret
          exact ⟨by rw [HB2.out]; rfl, rfl⟩
      · have f1 : ((i : Int) == 2 * (n : Int)) = false := by rw [beq_eq_false_iff_ne]; omega
        have f2 : ¬ ((i : Int) = 2 * (n : Int)) := by omega
        by_cases he : x = 0
        · subst he
          have HZ := HN 0 (by rw [if_neg h2]) rfl
          clear HN HA
          go_wp2_with fail
          go_round
          case rel => exact ⟨i, by omega, by go_num, HZ⟩
          case measure => simp [intOf]
        · have HB2 : Hid (B = true) := by
            have h := (HA (by rw [if_neg h2]; exact he)).out
            rw [if_neg h2] at h
            rw [h]
            exact decide_eq_true (by omega)
          have e1 : ((x : Int) == 0) = false := by simp; omega
          have e2 : ((x : Int) != 0) = true := by simp; omega
          have e3 : 0 < x := by omega
          clear HN HA
          go_wp2_with fail
          go_ret
          exact ⟨by rw [HB2.out]; rfl, rfl⟩
end Go.Proofs.YtommbdlkmkphpaaDoor
