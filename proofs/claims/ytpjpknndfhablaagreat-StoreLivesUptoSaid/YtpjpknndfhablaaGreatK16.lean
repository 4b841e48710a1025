/- slices.SortFunc at changes, by their keys. Changes as the program finds them: puts and deletes, sorted by their keys. Plain laws. The program's changes. The program's store: where it lies; told, Sync, Checkpoint, Keys, Bytes, Dead, Get, Scan. The program's store: Checkpoint, Keys, Bytes, Dead, Get, Scan. -/
import Derived.Test.YtpjpknndfhablaaGreatK6
import Derived.Test.YtpjpknndfhablaaGreatK13
import Derived.Test.YtpjpknndfhablaaGreatK14
import Derived.Test.YtpjpknndfhablaaGreatK15
namespace Go.Proofs.YtpjpknndfhablaaGreat
open Go.RowKit Go.Shelf Go.Lib Go.Sort
instance : Inhabited Sto.Ch := ⟨⟨false, [], []⟩⟩
/-- A change's three cells. -/
def encC (c : Sto.Ch) : List Value := [.bool c.put, .string ⟨c.key.toArray⟩, .string ⟨c.value.toArray⟩]
def cmpC (x y : Sto.Ch) : Int := Lib.compareBytes x.key y.key
theorem compare_lt : ∀ a b : Sto.S, decide (Lib.compareBytes a b < 0) = Sto.lt a b
  | [], [] => rfl
  | [], _ :: _ => rfl
  | _ :: _, [] => rfl
  | x :: a, y :: b => by
    have ih := compare_lt a b
    simp only [Sto.lt] at ih
    unfold Lib.compareBytes
    by_cases h1 : x < y
    · simp [h1, Sto.lt, Op.bytesLess]
    · by_cases h2 : y < x
      · have hne : ¬ x = y := fun e => by rw [e] at h2; exact absurd h2 (UInt8.lt_irrefl y)
        simp [h1, h2, hne, Sto.lt, Op.bytesLess]
      · have e : x = y := UInt8.le_antisymm (UInt8.not_lt.1 h2) (UInt8.not_lt.1 h1)
        subst e
        rw [if_neg h1, if_neg h2, ih]
        simp [Sto.lt, Op.bytesLess]
theorem ltOf_cmpC (x y : Sto.Ch) : ltOf cmpC x y = Sto.lt x.key y.key := compare_lt _ _
theorem swoC : SWO (ltOf cmpC) where
  irrefl x := by rw [ltOf_cmpC]; exact Sto.lt_irrefl _
  trans x y z h1 h2 := by rw [ltOf_cmpC] at *; exact Sto.lt_trans h1 h2
  ntrans x y z h1 h2 := by
    rw [ltOf_cmpC] at *
    cases h : Sto.lt x.key z.key with
    | false => rfl
    | true =>
      rcases Sto.lt_total x.key y.key with h3 | h3 | h3
      · rw [h3] at h1; cases h1
      · rw [h3] at h; rw [h] at h2; cases h2
      · have := Sto.lt_trans h3 h
        rw [this] at h2; cases h2
set_option maxHeartbeats 1000000 in
theorem cmp_any (x y : Sto.Ch) (W : World) : Calls Tryz.prog 120 #[.agg #[.bool x.put, .string ⟨x.key.toArray⟩, .string ⟨x.value.toArray⟩], .agg #[.bool y.put, .string ⟨y.key.toArray⟩, .string ⟨y.value.toArray⟩]] W fun e w' => e = .returned (.int .i64 (cmpC x y)) ∧ ∃ q os', w' = grow (W.drewN q) os' := by
  have hcon := fun W' => Tryz.strings_Compare ⟨x.key.toArray⟩ ⟨y.key.toArray⟩ W'
  obtain ⟨r, hr⟩ : ∃ r, cmpC x y = r := ⟨_, rfl⟩
  have hr' : Lib.compareBytes x.key y.key = r := hr
  simp only [hr'] at hcon
  rw [hr]
  have HC := Lib.hid hcon
  clear hcon hr hr'
  go_enter Tryz.func120, Tryz.ntmps120
  go_wp2_with (go_at_call 121; refine (HC.out _).mono ?_; rintro e w' ⟨rfl, rfl⟩)
  go_ret
  exact ⟨rfl, 0, _, by rw [alloc_eq_grow, alloc_eq_grow, grow_grow]; rfl⟩
theorem cmpLaysC (blk off size : Nat) (w : World) : CmpLays Tryz.prog 120 #[] encC 3 cmpC blk off size w :=
  fun _ _ _ _ x y => cmp_any x y _
theorem cCells_flat (l : List Sto.Ch) {t : Nat} (ht : t < l.length * 3) : (cCells l)[t]? = some ((flatK encC 3 l.toArray)[t]!) := by
  rw [get_flatK _ _ _ t (by simpa using ht)]
  have hq : t / 3 < l.length := by omega
  obtain ⟨q, hqe⟩ : ∃ q, t / 3 = q := ⟨_, rfl⟩
  obtain ⟨r, hre⟩ : ∃ r, t % 3 = r := ⟨_, rfl⟩
  have hm := Nat.div_add_mod t 3
  rw [hqe, hre] at hm
  rw [hqe] at hq
  have hr : r < 3 := by omega
  have e : l.toArray[q]! = l[q] := by simp [hq]
  rw [hqe, hre, e]
  obtain ⟨x, hx⟩ : ∃ x, l[q] = x := ⟨_, rfl⟩
  have hx' : l[q]? = some x := by rw [← hx]; exact List.getElem?_eq_getElem hq
  rw [hx]
  obtain ⟨h0, h1, h2⟩ := cCells_at hx'
  rcases (show r = 0 ∨ r = 1 ∨ r = 2 by omega) with rfl | rfl | rfl
  · rw [show t = q * 3 by omega]; exact h0
  · rw [show t = q * 3 + 1 by omega]; exact h1
  · rw [show t = q * 3 + 2 by omega]; exact h2
/-- The slice holds the changes, in some order, rising by their keys. -/
def Sorted (w w' : World) (v : Value) (c : List Sto.Ch) : Prop := ∃ c', c'.Perm c ∧ c'.Pairwise (fun x y => Sto.lt y.key x.key = false) ∧ ChsAt w' v c' ∧ Touch (fun k => v.ownBlock = some k) w w'
theorem sort_any (v : Value) (base : Nat) (c : List Sto.Ch) (w : World) (h : OwnF w base 3 v c.length (cCells c)) (hl : c.length ≤ 4398046511104) :
    Calls Tryz.prog 119 #[v, .func (.func 120) #[] #[]] w fun e w' => e = .returned (.tuple #[]) ∧ Sorted w w' v c := by
  rcases h.2 with ⟨rfl, h0⟩ | ⟨g, cap, rfl, hb, hg, hn, hc, hcell, hx⟩
  · have hc0 : c = [] := List.eq_nil_of_length_eq_zero h0
    subst hc0
    refine (AnyF.slices_SortFunc_none Tryz.sortf none 0 _ w).mono ?_
    rintro e w' ⟨rfl, rfl⟩
    exact ⟨rfl, [], List.Perm.refl _, List.Pairwise.nil, ChsAt.nil _, Touch.refl _ _⟩
  · have hH : HoldsK encC 3 w g 0 c.toArray := fun j hj => by
      rw [size_flatK] at hj
      have hj' : j < c.length * 3 := by simpa using hj
      have hjc : j < cap * 3 := by
        have : c.length * 3 ≤ cap * 3 := Nat.mul_le_mul_right _ hn
        omega
      rw [Nat.zero_add]
      exact ⟨hx j _ (cCells_flat c hj'), (hcell j hjc).2⟩
    have hcon := AnyQ.slices_SortFunc Tryz.sortf 3 Tryz.isAgg116 Tryz.sizeOf116 encC (fun _ => rfl) (fun x v hv => by simp [encC] at hv; rcases hv with rfl | rfl | rfl <;> rfl) cmpC swoC 120 #[] g 0 cap c.toArray w (enters_of Tryz.func120 (by kernel_rfl) rfl) (cmpLaysC _ _ _ _) hH hg (by simp; omega)
    have hcon' : Calls Tryz.prog 119 #[.slice (some ⟨g, 0, none⟩) c.length cap, .func (.func 120) #[] #[]] w _ := hcon
    refine hcon'.mono ?_
    rintro e w' ⟨rfl, d', n, os, ⟨hs, _, hp⟩, hso, rfl⟩
    have hs' : d'.size = c.length := by simpa using hs
    have hgr : ∀ k, k < w.heap.size → k ≠ g → (sortWorldK encC 3 w g 0 n d' os).heap[k]? = w.heap[k]? := fun k hk hne => by
      unfold sortWorldK
      rw [heap_grow_old _ _ (by simpa [putRowK] using hk)]
      have : g ≠ k := fun e => hne e.symm
      simp [putRowK, putRow, mapBlock, Sort.ahead, Array.getElem?_modify, this]
    have hsz : w.heap.size ≤ (sortWorldK encC 3 w g 0 n d' os).heap.size := by simp [sortWorldK, grow, putRowK]
    have hblk : (sortWorldK encC 3 w g 0 n d' os).heap[g]? = (putRowK encC 3 (Sort.ahead w n) g 0 d').heap[g]? := by
      unfold sortWorldK
      exact heap_grow_old _ _ (by simpa [putRowK] using hg)
    have hcl : ∀ j, (sortWorldK encC 3 w g 0 n d' os).cell? ⟨g, j, none⟩ = (putRowK encC 3 (Sort.ahead w n) g 0 d').cell? ⟨g, j, none⟩ := fun j => World.cell?_of_block (a := ⟨g, j, none⟩) hblk
    have hfr : ∀ j, (sortWorldK encC 3 w g 0 n d' os).frozen? ⟨g, j, none⟩ = w.frozen? ⟨g, j, none⟩ := fun j => by
      rw [World.frozen?_of_block (a := ⟨g, j, none⟩) hblk]
      show (putRow id (Sort.ahead w n) g 0 (flatK encC 3 d')).frozen? _ = _
      rw [Go.Sort.frozen?_putRow]
      rfl
    have hH' : HoldsK encC 3 (putRowK encC 3 (Sort.ahead w n) g 0 d') g 0 d' := holdsK_putRowK encC 3 (Sort.ahead w n) g 0 c.toArray d' hH hs
    refine ⟨rfl, d'.toList, ?_, ?_, ?_, ⟨rfl, rfl, rfl, hsz, fun k hk hS => hgr k hk (fun e => hS (by rw [e]; rfl))⟩⟩
    · have e1 : (d'.extract 0 c.toArray.size).toList = d'.toList := by rw [← hs]; simp
      have e2 : (c.toArray.extract 0 c.toArray.size).toList = c := by simp
      rw [e1, e2] at hp
      exact hp
    · rw [List.pairwise_iff_getElem]
      intro i j hi hj hij
      have := hso i j (Nat.zero_le _) hij (by rw [← hs]; simpa using hj)
      rw [ltOf_cmpC] at this
      have hi' : i < d'.size := by simpa using hi
      have hj' : j < d'.size := by simpa using hj
      rw [getElem!_pos d' i hi', getElem!_pos d' j hj'] at this
      simpa using this
    · have hlen : d'.toList.length = c.length := by simpa using hs'
      refine ⟨cCells_length _, .inr ⟨g, cap, by rw [hlen], Nat.zero_le _, Nat.lt_of_lt_of_le hg hsz, by rw [hlen]; exact hn, hc, fun j hj => ⟨?_, by rw [hfr]; exact (hcell j hj).2⟩, fun j u hu => ?_⟩⟩
      · rw [hcl]
        by_cases hjc : j < d'.size * 3
        · have := (hH' j (by rw [size_flatK]; exact hjc)).1
          rw [Nat.zero_add] at this
          rw [this]; rfl
        · show ((putRow id (Sort.ahead w n) g 0 (flatK encC 3 d')).cell? _).isSome = true
          rw [Go.Sort.cell?_putRow_other id _ g 0 _ ⟨g, j, none⟩ (.inr (.inr (by rw [size_flatK]; simp; omega)))]
          exact (hcell j hj).1
      · have hj : j < d'.toList.length * 3 := by
          have := (List.getElem?_eq_some_iff.1 hu).1
          rw [cCells_length] at this
          exact this
        have hj2 : j < d'.size * 3 := by simpa using hj
        rw [cCells_flat d'.toList hj] at hu
        rw [hcl]
        have := (hH' j (by rw [size_flatK]; exact hj2)).1
        rw [Nat.zero_add] at this
        rw [this]
        simpa using hu
end Go.Proofs.YtpjpknndfhablaaGreat
namespace Go.Proofs.YtpjpknndfhablaaGreat
namespace Sto
def isPut (a : Pairs) (q : S × S) : Bool := decide (get a q.1 ≠ some q.2)
def isDel (b : Pairs) (p : S × S) : Bool := !here b p.1
def putsOf (a b : Pairs) : List Ch := (b.filter (isPut a)).map fun q => ⟨true, q.1, q.2⟩
def delsOf (a b : Pairs) : List Ch := (a.filter (isDel b)).map fun p => ⟨false, p.1, []⟩
theorem get_above {k : S} : ∀ {l : Pairs}, (∀ x ∈ l, lt k x.1 = true) → get l k = none
  | [], _ => rfl
  | p :: r, h => by
    have h1 := h p (by simp)
    unfold get
    rw [if_neg (by rw [lt_asymm h1]; decide), if_neg (fun e => lt_ne h1 e.symm)]
theorem rise_tail {p : S × S} {r : Pairs} (h : Rise (p :: r)) : ∀ x ∈ r, lt p.1 x.1 = true := fun _ hx => List.rel_of_pairwise_cons h hx
theorem rise_of {p : S × S} {r : Pairs} (h : Rise (p :: r)) : Rise r := List.Pairwise.of_cons h
theorem get_behind {p : S × S} {r : Pairs} {k : S} (h : lt p.1 k = true) : get (p :: r) k = get r k := by simp [get, h]
theorem get_here {p : S × S} {r : Pairs} : get (p :: r) p.1 = some p.2 := by unfold get; rw [if_neg (by rw [lt_irrefl]; decide), if_pos rfl]
theorem isPut_past {p q : S × S} {a : Pairs} (h : lt p.1 q.1 = true) : isPut (p :: a) q = isPut a q := by unfold isPut; rw [get_behind h]
theorem isDel_past {p q : S × S} {b : Pairs} (h : lt q.1 p.1 = true) : isDel (q :: b) p = isDel b p := by unfold isDel here; rw [get_behind h]
theorem putsOf_past {p : S × S} {a b : Pairs} (h : ∀ x ∈ b, lt p.1 x.1 = true) : putsOf (p :: a) b = putsOf a b := by
  unfold putsOf
  rw [List.filter_congr (fun x hx => isPut_past (h x hx))]
theorem delsOf_past {q : S × S} {a b : Pairs} (h : ∀ x ∈ a, lt q.1 x.1 = true) : delsOf a (q :: b) = delsOf a b := by
  unfold delsOf
  rw [List.filter_congr (fun x hx => isDel_past (h x hx))]
theorem changes_perm : ∀ (a b : Pairs), Rise a → Rise b → (putsOf a b ++ delsOf a b).Perm (changes a b)
  | [], [], _, _ => by rw [changes]; exact List.Perm.refl _
  | [], q :: b, ha, hb => by
    rw [changes]
    have ih := changes_perm [] b ha (rise_of hb)
    have e1 : putsOf [] (q :: b) = ⟨true, q.1, q.2⟩ :: putsOf [] b := by simp [putsOf, isPut, get]
    have e2 : delsOf [] (q :: b) = delsOf [] b := rfl
    rw [e1, e2]
    exact List.Perm.cons _ ih
  | p :: a, [], ha, hb => by
    rw [changes]
    have ih := changes_perm a [] (rise_of ha) hb
    have e1 : putsOf (p :: a) [] = putsOf a [] := rfl
    have e2 : delsOf (p :: a) [] = ⟨false, p.1, []⟩ :: delsOf a [] := by simp [delsOf, isDel, here, get]
    rw [e1, e2]
    exact (List.perm_middle).trans (List.Perm.cons _ ih)
  | p :: a, q :: b, ha, hb => by
    rw [changes]
    by_cases h1 : lt p.1 q.1 = true
    · rw [if_pos h1]
      have ih := changes_perm a (q :: b) (rise_of ha) hb
      have hall : ∀ x ∈ q :: b, lt p.1 x.1 = true := fun x hx => by
        rcases List.mem_cons.1 hx with rfl | hx
        · exact h1
        · exact lt_trans h1 (rise_tail hb x hx)
      have e1 : putsOf (p :: a) (q :: b) = putsOf a (q :: b) := putsOf_past hall
      have e2 : delsOf (p :: a) (q :: b) = ⟨false, p.1, []⟩ :: delsOf a (q :: b) := by
        have : isDel (q :: b) p = true := by unfold isDel here; rw [get_above hall]; rfl
        simp only [delsOf, List.filter_cons, this, if_true, List.map_cons]
      rw [e1, e2]
      exact (List.perm_middle).trans (List.Perm.cons _ ih)
    · rw [if_neg h1]
      by_cases h2 : lt q.1 p.1 = true
      · rw [if_pos h2]
        have ih := changes_perm (p :: a) b ha (rise_of hb)
        have hall : ∀ x ∈ p :: a, lt q.1 x.1 = true := fun x hx => by
          rcases List.mem_cons.1 hx with rfl | hx
          · exact h2
          · exact lt_trans h2 (rise_tail ha x hx)
        have e1 : putsOf (p :: a) (q :: b) = ⟨true, q.1, q.2⟩ :: putsOf (p :: a) b := by
          have : isPut (p :: a) q = true := by unfold isPut; rw [get_above hall]; simp
          simp only [putsOf, List.filter_cons, this, if_true, List.map_cons]
        have e2 : delsOf (p :: a) (q :: b) = delsOf (p :: a) b := delsOf_past hall
        rw [e1, e2]
        exact List.Perm.cons _ ih
      · rw [if_neg h2]
        have hk : p.1 = q.1 := by
          rcases lt_total p.1 q.1 with h | h | h
          · exact absurd h h1
          · exact h
          · exact absurd h h2
        have ih := changes_perm a b (rise_of ha) (rise_of hb)
        have t1 : ∀ x ∈ b, lt p.1 x.1 = true := fun x hx => by rw [hk]; exact rise_tail hb x hx
        have t2 : ∀ x ∈ a, lt q.1 x.1 = true := fun x hx => by rw [← hk]; exact rise_tail ha x hx
        have e2 : delsOf (p :: a) (q :: b) = delsOf a b := by
          have h0 : isDel (q :: b) p = false := by unfold isDel here; rw [hk, get_here]; rfl
          have : delsOf (p :: a) (q :: b) = delsOf a (q :: b) := by
            simp only [delsOf, List.filter_cons, h0]
            rfl
          rw [this, delsOf_past t2]
        by_cases hv : p.2 = q.2
        · rw [if_pos hv]
          have e1 : putsOf (p :: a) (q :: b) = putsOf a b := by
            have h0 : isPut (p :: a) q = false := by unfold isPut; rw [← hk, get_here, hv]; simp
            have : putsOf (p :: a) (q :: b) = putsOf (p :: a) b := by
              simp only [putsOf, List.filter_cons, h0]
              rfl
            rw [this, putsOf_past t1]
          rw [e1, e2]
          exact ih
        · rw [if_neg hv]
          have e1 : putsOf (p :: a) (q :: b) = ⟨true, q.1, q.2⟩ :: putsOf a b := by
            have h0 : isPut (p :: a) q = true := by
              unfold isPut
              rw [← hk, get_here]
              simp only [ne_eq, Option.some.injEq, decide_eq_true_eq]
              exact hv
            have : putsOf (p :: a) (q :: b) = ⟨true, q.1, q.2⟩ :: putsOf (p :: a) b := by simp only [putsOf, List.filter_cons, h0, if_true, List.map_cons]
            rw [this, putsOf_past t1]
          rw [e1, e2]
          exact List.Perm.cons _ ih
termination_by a b => a.length + b.length
theorem riseC_inj : ∀ {l : List Ch}, RiseC l → ∀ x ∈ l, ∀ y ∈ l, x.key = y.key → x = y
  | [], _, x, hx, _, _, _ => by cases hx
  | c :: r, h, x, hx, y, hy, e => by
    have ht : ∀ z ∈ r, lt c.key z.key = true := fun z hz => List.rel_of_pairwise_cons h hz
    rcases List.mem_cons.1 hx with hx1 | hx1
    · rcases List.mem_cons.1 hy with hy1 | hy1
      · rw [hx1, hy1]
      · rw [hx1] at e; exact absurd e (lt_ne (ht y hy1))
    · rcases List.mem_cons.1 hy with hy1 | hy1
      · rw [hy1] at e; exact absurd e.symm (lt_ne (ht x hx1))
      · exact riseC_inj (List.Pairwise.of_cons h) x hx1 y hy1 e
theorem sorted_changes {a b : Pairs} (ha : Rise a) (hb : Rise b) {c' : List Ch} (hp : c'.Perm (putsOf a b ++ delsOf a b)) (hs : c'.Pairwise (fun x y => lt y.key x.key = false)) : c' = changes a b := by
  have hp2 := hp.trans (changes_perm a b ha hb)
  have hr := changes_rise a b ha hb
  refine List.Perm.eq_of_pairwise (le := fun x y : Ch => lt y.key x.key = false) (fun x y hx hy h1 h2 => ?_) hs (hr.imp fun h => lt_asymm h) hp2
  refine riseC_inj hr x (hp2.mem_iff.1 hx) y hy ?_
  rcases lt_total x.key y.key with h | h | h
  · rw [h] at h2; cases h2
  · exact h
  · rw [h] at h1; cases h1
end Sto
end Go.Proofs.YtpjpknndfhablaaGreat
namespace Go.Proofs.YtpjpknndfhablaaGreat
open Go.RowKit Go.Shelf Go.Maps Go.Sort
attribute [local go_sem] Oper.semAt_some
/-- A transaction's block. -/
def txBlock (sv : Value) (pm wm : Option Nat) (tv ov : Value) : Obj := .cells #[sv, .map pm, .map wm, tv, ov] 131 (0, 0)
theorem tx_cells {w : World} {y : Nat} {sv tv ov : Value} {pm wm : Option Nat} (h : w.heap[y]? = some (txBlock sv pm wm tv ov)) : w.cell? ⟨y, 0, none⟩ = some sv ∧ w.cell? ⟨y, 1, none⟩ = some (.map pm) ∧ w.cell? ⟨y, 2, none⟩ = some (.map wm) ∧ w.cell? ⟨y, 3, none⟩ = some tv ∧ w.cell? ⟨y, 4, none⟩ = some ov ∧ (∀ i, w.frozen? ⟨y, i, none⟩ = false) ∧ y < w.heap.size :=
  ⟨cell_of h rfl, cell_of h rfl, cell_of h rfl, cell_of h rfl, cell_of h rfl, free_of h, heap_lt h⟩
/-- The puts and the deletes that have been found of some pairs. -/
def gotP (was : Sto.Pairs) (pre : List GP) : List Sto.Ch := ((pre.map (·.1)).filter (Sto.isPut was)).map fun q => ⟨true, q.1, q.2⟩
def gotD (now : Sto.Pairs) (pre : List GP) : List Sto.Ch := ((pre.map (·.1)).filter (Sto.isDel now)).map fun q => ⟨false, q.1, []⟩
theorem gotP_hit {was : Sto.Pairs} (pre : List GP) {x : GP} (h : Sto.isPut was x.1 = true) : gotP was (pre ++ [x]) = gotP was pre ++ [⟨true, x.1.1, x.1.2⟩] := by simp [gotP, h]
theorem gotP_miss {was : Sto.Pairs} (pre : List GP) {x : GP} (h : Sto.isPut was x.1 = false) : gotP was (pre ++ [x]) = gotP was pre := by simp [gotP, h]
theorem gotD_hit {now : Sto.Pairs} (pre : List GP) {x : GP} (h : Sto.isDel now x.1 = true) : gotD now (pre ++ [x]) = gotD now pre ++ [⟨false, x.1.1, []⟩] := by simp [gotD, h]
theorem gotD_miss {now : Sto.Pairs} (pre : List GP) {x : GP} (h : Sto.isDel now x.1 = false) : gotD now (pre ++ [x]) = gotD now pre := by simp [gotD, h]
theorem gotP_all {was now : Sto.Pairs} {xs : List GP} (h : xs.map (·.1) = now) : gotP was xs = Sto.putsOf was now := by unfold gotP Sto.putsOf; rw [h]
theorem gotD_all {was now : Sto.Pairs} {xs : List GP} (h : xs.map (·.1) = was) : gotD now xs = Sto.delsOf was now := by unfold gotD Sto.delsOf; rw [h]
theorem gotP_len (was : Sto.Pairs) (pre : List GP) : (gotP was pre).length ≤ pre.length := by
  unfold gotP
  rw [List.length_map]
  exact Nat.le_trans (List.length_filter_le _ _) (by simp)
theorem gotD_len (now : Sto.Pairs) (pre : List GP) : (gotD now pre).length ≤ pre.length := by
  unfold gotD
  rw [List.length_map]
  exact Nat.le_trans (List.length_filter_le _ _) (by simp)
/-- What a transaction's search keeps in its blocks. -/
structure ChgAt (w : World) (B y b1 b2 : Nat) (now was : Sto.Pairs) (W : World) (c : List Sto.Ch) : Prop where
  row : ∃ v, Boxed W (B + 1) 111 v ∧ W.ownsRow B 116 3 v c.length (cCells c) ∧ True
  box : Boxed W B 55 (.pointer (some ⟨y, 0, none⟩))
  below : Below B w W
theorem ChgAt.own {w : World} {B y b1 b2 : Nat} {now was : Sto.Pairs} {n : Nat} (f : List GP → List Sto.Ch) (hB : B ≤ w.heap.size) (hn : B ≤ n) : OwnFrom n (fun pre W => ChgAt w B y b1 b2 now was W (f pre)) := by
  intro s A C row hs hg hr
  have h1 := Own.from (holdsRow_own B (B + 1) 111 116 3 (fun pre => (f pre).length) (fun pre => cCells (f pre)) (fun _ _ => True)) n
  have h2 := Own.from (boxed_own (β := List GP) B 55 (fun _ => .pointer (some ⟨y, 0, none⟩))) n
  exact ⟨h1 s A C row hs.row hg hr, h2 s A C row hs.box hg hr, ownFrom_below (β := List GP) hB hn s A C row hs.below hg hr⟩
theorem deferred_own {D n : Nat} (hD : D < n) : OwnFrom n (fun (_ : List GP) W => W.heap[D]? = some (.deferred (some []))) := by
  intro s A C row hs hg hr
  refine (hg.block D (heap_lt hs) (fun e => ?_)).trans hs
  have := (hr D e.symm).1
  omega
/-- Behind one more change. -/
theorem ChgAt.more {w W w1 : World} {B y b1 b2 : Nat} {now was : Sto.Pairs} {c : List Sto.Ch} {x : Sto.Ch} {v v' : Value} {tmp : Obj} (h : ChgAt w B y b1 b2 now was W c) (hv : Boxed W (B + 1) 111 v) (hrow : W.ownsRow B 116 3 v c.length (cCells c)) (hB : B ≤ W.heap.size)
    (hown : w1.ownsRow B 116 3 v' (c.length + 1) (cCells c ++ [.bool x.put, .string ⟨x.key.toArray⟩, .string ⟨x.value.toArray⟩])) (hgrow : (W.alloc tmp).grownBy w1 v.ownBlock) :
    Boxed w1 (B + 1) 111 v ∧ ChgAt w B y b1 b2 now was (w1.setCell ⟨B + 1, 0, none⟩ v') (c ++ [x]) ∧ KeepsOthers W (w1.setCell ⟨B + 1, 0, none⟩ v') ∧ KpR B W (w1.setCell ⟨B + 1, 0, none⟩ v') := by
  have hkt := appended_keeps (v' := v') ((hv.alloc tmp).kept hgrow (hv.not_row (by decide) hrow)) hrow (by decide) (by decide) hgrow
  obtain ⟨hv1, hv2, hr2, hk2, hb2⟩ := hv.appended (by decide) hrow hB (by omega) hown hgrow
  have hz := ((h.box.alloc tmp).kept hgrow (h.box.not_row (by decide) hrow)).other (B' := B + 1) (by omega) v'
  refine ⟨hv1, ⟨⟨v', hv2, ?_, trivial⟩, hz, h.below.trans hb2⟩, hk2, hb2, hkt⟩
  rw [List.length_append, cCells_append]
  exact hr2
set_option maxHeartbeats 4000000 in
set_option maxRecDepth 100000 in
theorem changes11_any (y b1 b2 : Nat) (sv tv ov : Value) (now was : Sto.Pairs) (w : World) (hy : w.heap[y]? = some (txBlock sv (some b1) (some b2) tv ov)) (h1 : MapAt w b1 now) (h2 : MapAt w b2 was) (hg1 : Sto.Good now) (hg2 : Sto.Good was) (hl1 : now.length ≤ 2199023259648) (hl2 : was.length ≤ 4096) :
    Calls Tryz.prog 64 #[.pointer (some ⟨y, 0, none⟩)] w fun e w' => ∃ v, e = .returned v ∧ ChsAt w' v (Sto.changes was now) ∧ (∀ g, v.ownBlock = some g → w.heap.size ≤ g) ∧ Below w.heap.size w w' := by
  obtain ⟨_, c1, c2, _, _, _, hylt⟩ := tx_cells hy
  obtain ⟨B, hBq⟩ : ∃ B, w.heap.size = B := ⟨_, rfl⟩
  have n1 := Boxed.new w 55 (.pointer (some ⟨y, 0, none⟩))
  have q1 := balloc w (.cells #[.pointer (some ⟨y, 0, none⟩)] 55)
  have s1 : (w.alloc (.cells #[.pointer (some ⟨y, 0, none⟩)] 55)).heap.size = B + 1 := by simp [hBq]
  obtain ⟨wa, hwa⟩ : ∃ W, w.alloc (.cells #[.pointer (some ⟨y, 0, none⟩)] 55) = W := ⟨_, rfl⟩
  rw [hwa] at n1 q1 s1
  have n2 := Boxed.new wa 111 (.slice none 0 0)
  have q2 := balloc wa (.cells #[.slice none 0 0] 111)
  have s2 : (wa.alloc (.cells #[.slice none 0 0] 111)).heap.size = B + 1 + 1 := by simp [s1]
  obtain ⟨wb, hwb⟩ : ∃ W, wa.alloc (.cells #[.slice none 0 0] 111) = W := ⟨_, rfl⟩
  rw [hwb] at n2 q2 s2
  rw [hBq] at n1
  rw [s1] at n2
  have x1 : Boxed wb B 55 (.pointer (some ⟨y, 0, none⟩)) := stays n1 q2
  have d1 := x1.cell
  have d2 : wb.cell? ⟨y, 1, none⟩ = some (.map (some b1)) := cell_later (bthen q1 q2) c1
  refine (callsIn_wide (n := 3)).1 ?_
  refine callsIn_of_wp_marks Tryz.func64 rfl trivial ?_ rfl
  simp only [Tryz.ntmps64, List.size_toArray, List.length_cons, List.length_nil, Nat.reduceAdd, Nat.reduceSub, Array.replicate_succ, Array.replicate_zero, List.push_toArray, List.append_toArray, List.nil_append, List.cons_append]
  gi_wp2_with (first | (refine ⟨trivial, ?_⟩; gi_at_call 114; refine (callsIn_wide.2 (rising_any (some b1) _)).mono ?_; rintro e w' ⟨rfl, rfl⟩))
  have x2 : Boxed wb (B + 1) 111 (.slice none 0 0) := n2
  have n4 := heap_new wb (.cells #[.map (some b1)] 101)
  have q4 := balloc wb (.cells #[.map (some b1)] 101)
  have s4 : (wb.alloc (.cells #[.map (some b1)] 101)).heap.size = B + 1 + 1 + 1 := by simp [s2]
  clear hwa hwb d1 d2
  generalize wb.alloc (.cells #[.map (some b1)] 101) = W0 at n4 q4 s4 ⊢
  rw [s2] at n4
  have hBW : Below B w W0 := by rw [← hBq]; exact bthen q1 (bthen q2 q4)
  have HC0 : Hid (ChgAt w B y b1 b2 now was W0 []) := Lib.hid ⟨⟨_, stays x2 q4, World.ownsRow_nil _ _ _ _, trivial⟩, stays x1 q4, hBW⟩
  have hm0 : MapO W0 (some b1) now := h1.below (by rw [hBq]; exact hBW)
  have hmlt : ∀ b, some b1 = some b → b < B := by
    rintro b e
    cases e
    rw [← hBq]; exact h1.lt
  have hmlt2 : ∀ b, some b2 = some b → b < B := by
    rintro b e
    cases e
    rw [← hBq]; exact h2.lt
  have H1 := Lib.hid h1
  have H2 := Lib.hid h2
  have HY := Lib.hid hy
  have HG1 := Lib.hid hg1
  have HG2 := Lib.hid hg2
  have hBle : B ≤ w.heap.size := by omega
  clear q1 q2 q4 n1 n2 x1 x2 s1 s2 h1 h2 hy hg1 hg2 c1 c2 hBW
  refine wpIn_rangeFunc_ownG rfl (by omega) (gf := 152) (lb := #[.pointer (some ⟨B + 1 + 1, 0, none⟩)]) rfl trivial (enters_of Tryz.func152 (by kernel_rfl) rfl)
    (rising_stops (3 - 1) (B + 1 + 1) B (by omega) (some b1) now HG1.out (by omega) W0 n4 hm0 hmlt (by omega)) KpR.t (KpR.b (by omega)) (Below.refl _ _) (fun _ => rfl)
    (fun pre W => ChgAt w B y b1 b2 now was W (gotP was pre))
    (fun c pre W => False)
    (ChgAt.own _ hBle (by omega))
    (fun _ _ _ _ _ hs _ _ => hs)
    HC0.out
    (fun x => { tmps := #[.pointer (some ⟨y, 0, none⟩), .pointer (some ⟨B, 0, none⟩), .slice none 0 0, .pointer (some ⟨B + 1, 0, none⟩), .string ⟨x.1.1.toArray⟩, .string ⟨x.1.2.toArray⟩, undef, undef, undef, undef, undef, .pointer (some ⟨y, 0, none⟩), .pointer (some ⟨y, 0, none⟩), .pointer (some ⟨y, 1, none⟩), .map (some b1), .func (.func 152) #[] #[.pointer (some ⟨B + 1 + 1, 0, none⟩)], .string ⟨x.1.1.toArray⟩, .string ⟨x.1.2.toArray⟩, undef, undef, undef, undef, undef, undef, undef, undef, undef, undef, undef, undef, undef, undef, undef, undef, undef, undef, undef, undef, undef, undef, undef, undef, undef, undef, undef, undef, undef, undef, undef, undef, undef, undef, undef, undef, undef, undef, undef, undef, undef, undef, undef, undef, undef, undef, undef, undef], defers := [] }) ?assign ?body ?done ?stop
  case assign =>
    intro l x W K hK
    dsimp only [encP]
    gi_wp2
    exact hK
  case body =>
    rintro l pre x W hC hlt
    have HC := Lib.hid hC
    obtain ⟨v, hv, hrow, _⟩ := hC.row
    have hc := hv.cell
    have hcb := hC.box.cell
    have hBsz : B ≤ W.heap.size := by have := hC.below.size; omega
    have hlg := gotP_len was pre
    have e2 : W.cell? ⟨y, 2, none⟩ = some (.map (some b2)) := (tx_cells (stays HY.out (by rw [hBq]; exact hC.below))).2.2.1
    have hkx := (Sto.keyOk_iff.1 x.2.1).2
    have hlook := (H2.out.below (by rw [hBq]; exact hC.below)).look HG2.out.rise x.1.1 (by unfold maxLen; omega)
    obtain ⟨o, ho⟩ : ∃ o, Sto.get was x.1.1 = o := ⟨_, rfl⟩
    have HO := Lib.hid ho
    rw [Sto.here_get, ho] at hlook
    clear hC n4 hm0 hmlt ho
    obtain ⟨i0, hi, hz0, hz1, hz2⟩ := info_parts chInfo
    have HI := Lib.hid hi
    have HI0 := Lib.hid hz0
    have HI1 := Lib.hid hz1
    have HI2 := Lib.hid hz2
    clear hi hz0 hz1 hz2
    cases o with
    | none =>
      have hip : Sto.isPut was x.1 = true := by unfold Sto.isPut; rw [HO.out]; simp
      gi_wp2_with (gi_at_builtin; refine wpListIn_append_own _ rfl _ _ 111 rfl B 116 i0 (.agg #[.bool false, .string ⟨#[]⟩, .string ⟨#[]⟩]) 3 40 Tryz.underlying111 HI.out HI0.out HI1.out HI2.out rfl (by decide) _ _ _ rfl (hrow.alloc _) ⟨W.heap.size, 0, none⟩ 1 1 [.bool true, .string ⟨x.1.1.toArray⟩, .string ⟨x.1.2.toArray⟩] rfl rfl (fun j u hu => by rw [addr_add, Nat.zero_add]; exact cell_of (heap_new W _) (by simpa using hu)) (by simp [Value.oneCell']) (by unfold maxLen; omega) (by omega) (by simp; omega) ?_; intro v' w1 hown' hgrow _; obtain ⟨g', cap', rfl⟩ := ownsRow_succ hown'; obtain ⟨hv1, hz1, hz2, hz3⟩ := ChgAt.more (x := ⟨true, x.1.1, x.1.2⟩) HC.out hv hrow hBsz hown' hgrow; have hc1 := hv1.cell; have hf1 := hv1.frozen; have HF := Lib.hid (And.intro hz1 (And.intro hz2 hz3)); clear hz1 hz2 hz3 hown' hgrow)
      obtain ⟨hz1, hz2, hz3⟩ := HF.out
      exact ⟨hz2.from _, hz3, by dsimp only; rw [gotP_hit pre hip]; exact hz1⟩
    | some z =>
      by_cases hzv : z = x.1.2
      · have heq : (z == x.1.2) = true := beq_iff_eq.2 hzv
        have hip : Sto.isPut was x.1 = false := by unfold Sto.isPut; rw [HO.out, hzv]; simp
        gi_wp2
        exact ⟨KeepsFrom.refl _ _, ⟨Below.refl _ _, KeepsTy.refl _ _⟩, by dsimp only; rw [gotP_miss pre hip]; exact HC.out⟩
      · have heq : (z == x.1.2) = false := beq_eq_false_iff_ne.2 hzv
        have hip : Sto.isPut was x.1 = true := by unfold Sto.isPut; rw [HO.out]; simp [hzv]
        gi_wp2_with (gi_at_builtin; refine wpListIn_append_own _ rfl _ _ 111 rfl B 116 i0 (.agg #[.bool false, .string ⟨#[]⟩, .string ⟨#[]⟩]) 3 40 Tryz.underlying111 HI.out HI0.out HI1.out HI2.out rfl (by decide) _ _ _ rfl (hrow.alloc _) ⟨W.heap.size, 0, none⟩ 1 1 [.bool true, .string ⟨x.1.1.toArray⟩, .string ⟨x.1.2.toArray⟩] rfl rfl (fun j u hu => by rw [addr_add, Nat.zero_add]; exact cell_of (heap_new W _) (by simpa using hu)) (by simp [Value.oneCell']) (by unfold maxLen; omega) (by omega) (by simp; omega) ?_; intro v' w1 hown' hgrow _; obtain ⟨g', cap', rfl⟩ := ownsRow_succ hown'; obtain ⟨hv1, hz1, hz2, hz3⟩ := ChgAt.more (x := ⟨true, x.1.1, x.1.2⟩) HC.out hv hrow hBsz hown' hgrow; have hc1 := hv1.cell; have hf1 := hv1.frozen; have HF := Lib.hid (And.intro hz1 (And.intro hz2 hz3)); clear hz1 hz2 hz3 hown' hgrow)
        obtain ⟨hz1, hz2, hz3⟩ := HF.out
        exact ⟨hz2.from _, hz3, by dsimp only; rw [gotP_hit pre hip]; exact hz1⟩
  case done =>
    rintro D1 ys W hD hx hC hK
    have hpl : (gotP was ys).length ≤ now.length := by
      have h := gotP_len was ys
      have h2 : ys.length = now.length := by rw [← hx]; simp
      omega
    have HPA := Lib.hid (gotP_all (was := was) hx)
    have HC := Lib.hid hC
    have HK := Lib.hid hK
    have hcb := hC.box.cell
    have hbb : Below w.heap.size w W := by rw [hBq]; exact hC.below
    have e2 : W.cell? ⟨y, 2, none⟩ = some (.map (some b2)) := (tx_cells (stays HY.out hbb)).2.2.1
    clear hC hK hx n4 hm0 hmlt hbb
    gi_wp2_with (refine ⟨trivial, ?_⟩; gi_at_call 114; refine (callsIn_wide.2 (rising_any (some b2) _)).mono ?_; rintro e w' ⟨rfl, rfl⟩)
    obtain ⟨C, hCq⟩ : ∃ C, W.heap.size = C := ⟨_, rfl⟩
    have hCB : B + 1 + 1 ≤ C := by
      have h1 := HC.out.box
      obtain ⟨v, hv, _⟩ := HC.out.row
      have := heap_lt hv
      omega
    have hDC : D1 < C := by have := heap_lt HK.out; omega
    have m4 := heap_new W (.cells #[.map (some b2)] 101)
    have r4 := balloc W (.cells #[.map (some b2)] 101)
    have t4 : (W.alloc (.cells #[.map (some b2)] 101)).heap.size = C + 1 := by simp [hCq]
    rw [hCq]
    generalize W.alloc (.cells #[.map (some b2)] 101) = V0 at m4 r4 t4 ⊢
    rw [hCq] at m4
    have HCV : Hid (ChgAt w B y b1 b2 now was V0 (gotP was ys)) := Lib.hid (by
      obtain ⟨v, hv, hrow, _⟩ := HC.out.row
      exact ⟨⟨v, stays hv r4, own_touch hrow (Touch.of_below (S := fun _ => False) r4) (fun _ _ h => h), trivial⟩, stays HC.out.box r4, HC.out.below.trans (r4.mono (by omega))⟩)
    have HKV := Lib.hid (stays HK.out r4)
    have hm1 : MapO V0 (some b2) was := H2.out.below (by rw [hBq]; exact HCV.out.below)
    clear r4
    refine wpIn_rangeFunc_ownG rfl (by omega) (gf := 152) (lb := #[.pointer (some ⟨C, 0, none⟩)]) rfl trivial (enters_of Tryz.func152 (by kernel_rfl) rfl)
      (rising_stops (3 - 1) C B (by omega) (some b2) was HG2.out (by omega) V0 m4 hm1 hmlt2 (by omega)) KpR.t (KpR.b (by omega)) (Below.refl _ _) (fun _ => rfl)
      (fun pre W => ChgAt w B y b1 b2 now was W (gotP was ys ++ gotD now pre) ∧ W.heap[D1]? = some (.deferred (some [])))
      (fun c pre W => False)
      (OwnFrom.and (ChgAt.own (fun pre => gotP was ys ++ gotD now pre) hBle (by omega)) (deferred_own (by omega)))
      (fun _ _ _ _ _ hs _ _ => hs)
      ⟨by simpa [gotD] using HCV.out, HKV.out⟩
      (fun x => { tmps := #[.pointer (some ⟨y, 0, none⟩), .pointer (some ⟨B, 0, none⟩), .slice none 0 0, .pointer (some ⟨B + 1, 0, none⟩), undef, undef, undef, undef, .string ⟨x.1.1.toArray⟩, undef, undef, .pointer (some ⟨y, 0, none⟩), .pointer (some ⟨y, 0, none⟩), .pointer (some ⟨y, 1, none⟩), .map (some b1), .func (.func 152) #[] #[.pointer (some ⟨B + 1 + 1, 0, none⟩)], undef, undef, undef, undef, undef, undef, undef, undef, undef, undef, undef, undef, undef, undef, undef, undef, undef, undef, undef, undef, undef, undef, undef, undef, .pointer (some ⟨y, 0, none⟩), .pointer (some ⟨y, 0, none⟩), .pointer (some ⟨y, 2, none⟩), .map (some b2), .func (.func 152) #[] #[.pointer (some ⟨C, 0, none⟩)], .string ⟨x.1.1.toArray⟩, .string ⟨x.1.2.toArray⟩, undef, undef, undef, undef, undef, undef, undef, undef, undef, undef, undef, undef, undef, undef, undef, undef, undef, undef, undef], defers := [] }) ?assign2 ?body2 ?done2 ?stop2
    case assign2 =>
      intro l x W K hK
      dsimp only [encP]
      gi_wp2
      exact hK
    case body2 =>
      rintro l pre x W ⟨hC, hKD⟩ hlt
      have HC := Lib.hid hC
      have HKD := Lib.hid hKD
      obtain ⟨v, hv, hrow, _⟩ := hC.row
      have hc := hv.cell
      have hcb := hC.box.cell
      have hBsz : B ≤ W.heap.size := by have := hC.below.size; omega
      have hlg := gotD_len now pre
      have hlc : (gotP was ys ++ gotD now pre).length ≤ now.length + pre.length := by rw [List.length_append]; omega
      have e2 : W.cell? ⟨y, 1, none⟩ = some (.map (some b1)) := (tx_cells (stays HY.out (by rw [hBq]; exact hC.below))).2.1
      have hkx := (Sto.keyOk_iff.1 x.2.1).2
      have hlook := (H1.out.below (by rw [hBq]; exact hC.below)).look HG1.out.rise x.1.1 (by unfold maxLen; omega)
      obtain ⟨o, ho⟩ : ∃ o, Sto.get now x.1.1 = o := ⟨_, rfl⟩
      have HO := Lib.hid ho
      rw [Sto.here_get, ho] at hlook
      obtain ⟨c0, hc0⟩ : ∃ c0, gotP was ys ++ gotD now pre = c0 := ⟨_, rfl⟩
      rw [hc0] at hrow hlc HC
      have HC0 := Lib.hid hc0
      clear hC hKD m4 hm1 hmlt2 ho hc0 hlg
      obtain ⟨i0, hi, hz0, hz1, hz2⟩ := info_parts chInfo
      have HI := Lib.hid hi
      have HI0 := Lib.hid hz0
      have HI1 := Lib.hid hz1
      have HI2 := Lib.hid hz2
      clear hi hz0 hz1 hz2
      cases o with
      | none =>
        have hip : Sto.isDel now x.1 = true := by unfold Sto.isDel; rw [Sto.here_get, HO.out]; rfl
        gi_wp2_with (gi_at_builtin; refine wpListIn_append_own _ rfl _ _ 111 rfl B 116 i0 (.agg #[.bool false, .string ⟨#[]⟩, .string ⟨#[]⟩]) 3 40 Tryz.underlying111 HI.out HI0.out HI1.out HI2.out rfl (by decide) _ _ _ rfl (hrow.alloc _) ⟨W.heap.size, 0, none⟩ 1 1 [.bool false, .string ⟨x.1.1.toArray⟩, .string ⟨#[]⟩] rfl rfl (fun j u hu => by rw [addr_add, Nat.zero_add]; exact cell_of (heap_new W _) (by simpa using hu)) (by simp [Value.oneCell']) (by unfold maxLen; omega) (by omega) (by simp; omega) ?_; intro v' w1 hown' hgrow _; obtain ⟨g', cap', rfl⟩ := ownsRow_succ hown'; obtain ⟨hv1, hz1, hz2, hz3⟩ := ChgAt.more (x := ⟨false, x.1.1, []⟩) HC.out hv hrow hBsz hown' hgrow; have hc1 := hv1.cell; have hf1 := hv1.frozen; have HF := Lib.hid (And.intro hz1 (And.intro hz2 hz3)); clear hz1 hz2 hz3 hown' hgrow)
        obtain ⟨hz1, hz2, hz3⟩ := HF.out
        have hd1 := hz2.same D1 _ HKD.out rfl
        exact ⟨hz2.from _, hz3, by (try dsimp only); rw [gotD_hit pre hip, ← List.append_assoc, HC0.out]; exact hz1, hd1⟩
      | some z =>
        have hip : Sto.isDel now x.1 = false := by unfold Sto.isDel; rw [Sto.here_get, HO.out]; rfl
        gi_wp2
        exact ⟨KeepsFrom.refl _ _, ⟨Below.refl _ _, KeepsTy.refl _ _⟩, by (try dsimp only); rw [gotD_miss pre hip, HC0.out]; exact HC.out, HKD.out⟩
    case done2 =>
      rintro D2 zs W2 hD2 hz ⟨hC2, hK1⟩ hK2
      have hdl := gotD_all (now := now) hz
      obtain ⟨v, hv, hrow, _⟩ := hC2.row
      rw [HPA.out, hdl] at hrow
      have hsort := sort_any v B (Sto.putsOf was now ++ Sto.delsOf was now) W2 (OwnF.of_owns hrow) (by
        have h1 := gotP_len was ys
        have h2 := gotD_len now zs
        have h3 : zs.length = was.length := by rw [← hz]; simp
        rw [← HPA.out, ← hdl, List.length_append]
        omega)
      have HSO := Lib.hid hsort
      have hvr := hv.not_row (by decide) hrow
      have HB2 := Lib.hid hC2.below
      have HV := Lib.hid hv
      have hc := hv.cell
      have hvB : ∀ g, v.ownBlock = some g → B ≤ g ∧ g ≠ D1 ∧ g ≠ D2 := fun g hg => by
        rcases hrow.2 with ⟨rfl, _⟩ | ⟨g', cap, cur, rfl, hbg, hg', _⟩
        · cases hg
        · have e1 : g' = g := Option.some.inj hg
          subst e1
          refine ⟨hbg, fun e => ?_, fun e => ?_⟩
          · rw [e, hK1] at hg'; cases hg'
          · rw [e, hK2] at hg'; cases hg'
      have HVB := Lib.hid hvB
      have HK1 := Lib.hid hK1
      have HK2 := Lib.hid hK2
      have hD12 : D1 ≠ D2 := by omega
      clear hrow hC2 hsort hK1 hK2 m4 hm1 hmlt2 hdl hz hvB hv
      gi_wp2_with (refine ⟨trivial, ?_⟩; gi_at_call 119; refine (callsIn_wide.2 HSO.out).mono ?_; rintro e W3 ⟨rfl, hso⟩; have HSD := Lib.hid hso; obtain ⟨c', hp', hpw, hch, htt⟩ := hso; have hc3 := Boxed.cell (show Boxed W3 (B + 1) 111 v from (htt.block (B + 1) (heap_lt HV.out) (fun e => hvr e.symm)).trans HV.out); clear hp' hpw hch htt)
      obtain ⟨c', hp', hpw, hch, htt⟩ := HSD.out
      have hce : c' = Sto.changes was now := Sto.sorted_changes HG2.out.rise HG1.out.rise hp' hpw
      have k1 : W3.heap[D1]? = some (.deferred (some [])) := (htt.block D1 (heap_lt HK1.out) (fun e => (HVB.out D1 e).2.1 rfl)).trans HK1.out
      have k2 : W3.heap[D2]? = some (.deferred (some [])) := (htt.block D2 (heap_lt HK2.out) (fun e => (HVB.out D2 e).2.2 rfl)).trans HK2.out
      refine ⟨by simp, .inl ⟨_, _, rfl, run_takeDeferred k2, ?_⟩⟩
      have k1' : (W3.putObj D2 (.deferred none)).heap[D1]? = some (.deferred (some [])) := (World.putObj_heap_other hD12).trans k1
      refine ⟨by simp, .inl ⟨_, _, rfl, run_takeDeferred k1', ?_⟩⟩
      have g1 := grownBy_putObj' W3 D2 (.deferred none)
      have g2 := grownBy_putObj' (W3.putObj D2 (.deferred none)) D1 (.deferred none)
      refine ⟨_, results_tmp rfl _ _ _, v, rfl, ?_, fun g hg => (by rw [hBq]; exact (HVB.out g hg).1), ?_⟩
      · rw [← hce]
        exact (hch.touch (touch_of_grown g1) (fun g hg e => (HVB.out g hg).2.2 (Option.some.inj e).symm)).touch (touch_of_grown g2) (fun g hg e => (HVB.out g hg).2.1 (Option.some.inj e).symm)
      · rw [hBq]
        have hb3 : Below B w W3 := HB2.out.trans (htt.below (B := B) (by have := HB2.out.size; omega) (fun k hk e => by have := (HVB.out k e).1; omega))
        exact (hb3.trans (belowK_b (w := w) (by omega) _ D2 _ _ (by omega) k2 rfl rfl)).trans (belowK_b (w := w) (by omega) _ D1 _ _ (by omega) k1' rfl rfl)
    case stop2 =>
      rintro D c pre W _ _ h _
      exact h.elim
  case stop =>
    rintro D c pre W _ _ h _
    exact h.elim
end Go.Proofs.YtpjpknndfhablaaGreat
namespace Go.Proofs.YtpjpknndfhablaaGreat
open Go.RowKit Go.Shelf
def storeBlock (lg mb : Nat) (s : SS) : Obj := stBlock (.pointer (some ⟨lg, 0, none⟩)) mb (Sto.size s.ps) (.int .i64 s.turn) (.bool s.dead)
/-- A store lies in block x: its log in block lg, over the disk in block c; its map in block mb. -/
structure StoAt (w : World) (x lg c mb : Nat) (s : SS) : Prop where
  blk : w.heap[x]? = some (storeBlock lg mb s)
  log : LogAt w lg c s.l
  map : MapAt w mb s.ps
  good : Sto.Good s.ps
  fits : Sto.fits s.ps = true
theorem StoAt.cells {w : World} {x lg c mb : Nat} {s : SS} (h : StoAt w x lg c mb s) : w.cell? ⟨x, 0, none⟩ = some (.pointer (some ⟨lg, 0, none⟩)) ∧ w.cell? ⟨x, 1, none⟩ = some (.map (some mb)) ∧ w.cell? ⟨x, 2, none⟩ = some (.int .i64 (Sto.size s.ps)) ∧ w.cell? ⟨x, 3, none⟩ = some (.int .i64 s.turn) ∧ w.cell? ⟨x, 4, none⟩ = some (.bool s.dead) ∧ (∀ i, w.frozen? ⟨x, i, none⟩ = false) ∧ x < w.heap.size :=
  ⟨cell_of h.blk rfl, cell_of h.blk rfl, cell_of h.blk rfl, cell_of h.blk rfl, cell_of h.blk rfl, free_of h.blk, heap_lt h.blk⟩
theorem StoAt.touch {S : Nat → Prop} {w w' : World} {x lg c mb : Nat} {s : SS} (h : StoAt w x lg c mb s) (ht : Touch S w w') (h1 : ¬ S x) (h2 : ¬ S lg) (h3 : ¬ S mb) : StoAt w' x lg c mb s :=
  ⟨(ht.block x (heap_lt h.blk) h1).trans h.blk, h.log.touch ht h2, h.map.touch ht h3, h.good, h.fits⟩
theorem StoAt.below {w w' : World} {x lg c mb : Nat} {s : SS} (h : StoAt w x lg c mb s) (hb : Below w.heap.size w w') : StoAt w' x lg c mb s :=
  h.touch (Touch.of_below (S := fun _ => False) hb) (fun h => h) (fun h => h) (fun h => h)
theorem StoAt.apart {w : World} {x lg c mb : Nat} {s : SS} (h : StoAt w x lg c mb s) {d : DS} {m : Nat} {rb : Option Nat} (hd : DiskAt w c d m rb) : ¬ own3 c rb lg x ∧ ¬ own3 c rb lg mb ∧ x ≠ mb := by
  have h3 := h.log.typed3 hd
  refine ⟨fun e => ?_, fun e => ?_, fun e => ?_⟩
  · obtain ⟨a, t, f, h1, h2⟩ := h3 x e
    rw [h.blk] at h1
    simp [storeBlock, stBlock] at h1 h2
    rw [← h1.2.1] at h2
    exact absurd h2 (by decide)
  · obtain ⟨a, t, f, h1, h2⟩ := h3 mb e
    obtain ⟨es, cl, h4⟩ := h.map.isMap
    rw [h4] at h1
    cases h1
  · obtain ⟨es, cl, h4⟩ := h.map.isMap
    rw [← e, h.blk] at h4
    cases h4
/-- What a call on a store leaves. -/
structure SWorked (x lg c mb : Nat) (s' : SS) (d d' : DS) (m : Nat) (rb : Option Nat) (w w' : World) : Prop where
  store : ∃ mb', StoAt w' x lg c mb' s' ∧ (mb' = mb ∨ w.heap.size ≤ mb')
  disk : ∃ rb', DiskAt w' c d' m rb' ∧ Newer w rb rb' ∧ (d'.dead = true → d.dead = false → rb' = none)
  touch : Touch (fun k => own3 c rb lg k ∨ k = x) w w'
theorem SWorked.stay {x lg c mb : Nat} {s : SS} {d : DS} {m : Nat} {rb : Option Nat} {w w' : World} (h : StoAt w x lg c mb s) (hd : DiskAt w c d m rb) (hb : Below w.heap.size w w') : SWorked x lg c mb s d d m rb w w' :=
  ⟨⟨mb, h.below hb, .inl rfl⟩, ⟨rb, hd.below hb, Newer.refl _ _, fun h1 h2 => by rw [h1] at h2; cases h2⟩, Touch.of_below hb⟩
theorem SWorked.mono {x lg c mb : Nat} {s' : SS} {d d' : DS} {m n : Nat} {rb : Option Nat} {w w' : World} (h : SWorked x lg c mb s' d d' m rb w w') (hmn : m ≤ n) : SWorked x lg c mb s' d d' n rb w w' := by
  obtain ⟨rb', h1, h2, h3⟩ := h.disk
  exact ⟨h.store, ⟨rb', h1.mono hmn, h2, h3⟩, h.touch⟩
set_option maxHeartbeats 1000000 in
theorem told_any (x mb : Nat) (lv tv : Value) (n : Int) (db : Bool) (e : Int) (w : World) (h : w.heap[x]? = some (stBlock lv mb n tv (.bool db))) :
    Calls Tryz.prog 68 #[.pointer (some ⟨x, 0, none⟩), .int .i64 e] w fun r w' => r = .returned (.int .i64 e) ∧ w'.heap[x]? = some (stBlock lv mb n tv (.bool (db || decide (e = 2)))) ∧ Touch (· = x) w w' := by
  have c4 : w.cell? ⟨x, 4, none⟩ = some (.bool db) := cell_of h rfl
  have cf := free_of h 4
  have key : ∀ v : Bool, (w.setCell ⟨x, 4, none⟩ (.bool v)).heap[x]? = some (stBlock lv mb n tv (.bool v)) := fun v => by
    have := heap_set (i := 4) (.bool v) h
    simpa [stBlock] using this
  have HK := Lib.hid key
  clear key h
  cases db with
  | true =>
    go_enter Tryz.func68, Tryz.ntmps68
    go_wp2
    go_ret
    exact ⟨rfl, HK.out true, (Touch.refl (· = x) w).setCell _ (fun _ => rfl)⟩
  | false =>
    by_cases he : e = 2
    · have hb : (e == 2) = true := beq_iff_eq.2 he
      have hd : (false || decide (e = 2)) = true := by rw [decide_eq_true he]; rfl
      rw [hd]
      go_enter Tryz.func68, Tryz.ntmps68
      go_wp2
      go_ret
      exact ⟨rfl, HK.out true, (Touch.refl (· = x) w).setCell _ (fun _ => rfl)⟩
    · have hb : (e == 2) = false := beq_eq_false_iff_ne.2 he
      have hd : (false || decide (e = 2)) = false := by rw [decide_eq_false he]; rfl
      rw [hd]
      go_enter Tryz.func68, Tryz.ntmps68
      go_wp2
      go_ret
      exact ⟨rfl, HK.out false, (Touch.refl (· = x) w).setCell _ (fun _ => rfl)⟩
/-- Behind a piece of work on its log, ahead of told. -/
theorem StoAt.worked {w w1 : World} {x lg c mb : Nat} {s : SS} {l' : Wal.LS} {d d' : DS} {m m' : Nat} {rb : Option Nat} (h : StoAt w x lg c mb s) (hd : DiskAt w c d m rb) (hw : Worked lg c l' d d' m' rb w w1) : StoAt w1 x lg c mb { s with l := l' } := by
  obtain ⟨a1, a2, _⟩ := h.apart hd
  exact ⟨(hw.touch.block x (heap_lt h.blk) a1).trans h.blk, hw.log, h.map.touch hw.touch a2, h.good, h.fits⟩
theorem SWorked.of {w w1 w2 : World} {x lg c mb : Nat} {s : SS} {l' : Wal.LS} {d d' : DS} {m m' : Nat} {rb : Option Nat} {b : Bool} (h : StoAt w x lg c mb s) (hd : DiskAt w c d m rb) (hw : Worked lg c l' d d' m' rb w w1)
    (h2 : w2.heap[x]? = some (stBlock (.pointer (some ⟨lg, 0, none⟩)) mb (Sto.size s.ps) (.int .i64 s.turn) (.bool b))) (ht : Touch (· = x) w1 w2) : SWorked x lg c mb { s with l := l', dead := b } d d' m' rb w w2 := by
  obtain ⟨a1, a2, a3⟩ := h.apart hd
  have h1 := h.worked hd hw
  obtain ⟨rb', b1, b2, b3⟩ := hw.disk
  obtain ⟨a1', a2', a3'⟩ := h1.apart b1
  refine ⟨⟨mb, ⟨h2, h1.log.touch ht (fun e => a1' (.inr e.symm)), h1.map.touch ht (fun e => a3 e.symm), h.good, h.fits⟩, .inl rfl⟩, ⟨rb', b1.touch ht (fun k hk e => a1' (.inl (e ▸ hk))), b2, b3⟩, Touch.trans (hw.touch.mono (fun _ _ e => .inl e)) ht (fun _ _ e => .inr e)⟩
set_option maxHeartbeats 1000000 in
theorem sync11_any (x lg c mb : Nat) (w : World) (s : SS) (d : DS) (m : Nat) (rb : Option Nat) (h : StoAt w x lg c mb s) (hd : DiskAt w c d m rb) :
    Calls Tryz.prog 41 #[.pointer (some ⟨x, 0, none⟩)] w fun e w' => e = .returned (.int .i64 (s.sync d).2.2) ∧ SWorked x lg c mb (s.sync d).1 d (s.sync d).2.1 m rb w w' := by
  obtain ⟨c0, _, _, _, c4, _, _⟩ := h.cells
  have HS := Lib.hid h
  have HD := Lib.hid hd
  clear h hd
  cases hdd : s.dead with
  | true =>
    rw [hdd] at c4
    have HX : Hid (s.sync d = (s, d, 2)) := Lib.hid (by unfold SS.sync; rw [if_pos hdd])
    go_enter Tryz.func41, Tryz.ntmps41
    go_wp2
    go_ret
    rw [HX.out]
    exact ⟨rfl, SWorked.stay HS.out HD.out (Below.refl _ _)⟩
  | false =>
    rw [hdd] at c4
    have HX : Hid (s.sync d = ({ s with l := (Wal.sync s.l d).1, dead := decide ((Wal.sync s.l d).2.2 = 2) }, (Wal.sync s.l d).2.1, (Wal.sync s.l d).2.2)) := Lib.hid (by unfold SS.sync; rw [if_neg (by simp [hdd])])
    obtain ⟨q, hq⟩ : ∃ q, (Wal.sync s.l d).2.2 = q := ⟨_, rfl⟩
    have HDD := Lib.hid hdd
    have HW := Lib.hid (wsync_any lg c w s.l d m rb HS.out.log HD.out)
    rw [hq] at HW HX
    clear hdd hq
    go_enter Tryz.func41, Tryz.ntmps41
    go_wp2_with fail
    refine HW.out.mono ?_
    rintro e w1 ⟨rfl, hw1⟩
    have HW1 := Lib.hid hw1
    clear hw1
    go_wp2_with fail
    refine (told_any x mb _ _ _ false q w1 (by have := (HS.out.worked HD.out HW1.out).blk; rw [storeBlock, HDD.out] at this; exact this)).mono ?_
    rintro e w2 ⟨rfl, h2, ht2⟩
    have HZ := Lib.hid (SWorked.of HS.out HD.out HW1.out h2 ht2)
    clear h2 ht2
    go_wp2
    go_ret
    rw [HX.out]
    exact ⟨rfl, HZ.out⟩
end Go.Proofs.YtpjpknndfhablaaGreat
namespace Go.Proofs.YtpjpknndfhablaaGreat
open Go.RowKit Go.Shelf
set_option maxHeartbeats 2000000 in
set_option maxRecDepth 100000 in
theorem check11_any (x lg c mb : Nat) (w : World) (s : SS) (d : DS) (m : Nat) (rb : Option Nat) (h : StoAt w x lg c mb s) (hd : DiskAt w c d m rb) (hm : m < 5000000000000) (hlg : s.l.g ≤ 4611686018427387904) :
    Calls Tryz.prog 60 #[.pointer (some ⟨x, 0, none⟩)] w fun e w' => e = .returned (.int .i64 (s.check d).2.2) ∧ SWorked x lg c mb (s.check d).1 d (s.check d).2.1 (m + 1) rb w w' := by
  obtain ⟨c0, _, _, _, c4, _, _⟩ := h.cells
  have HS := Lib.hid h
  have HD := Lib.hid hd
  clear h hd
  cases hdd : s.dead with
  | true =>
    rw [hdd] at c4
    have HX : Hid (s.check d = (s, d, 2)) := Lib.hid (by unfold SS.check; rw [if_pos hdd])
    go_enter Tryz.func60, Tryz.ntmps60
    go_wp2
    go_ret
    rw [HX.out]
    exact ⟨rfl, (SWorked.stay HS.out HD.out (Below.refl _ _)).mono (by omega)⟩
  | false =>
    rw [hdd] at c4
    have HX : Hid (s.check d = ({ s with l := (Wal.checkpoint s.l d (Sto.image s.ps)).1, dead := decide ((Wal.checkpoint s.l d (Sto.image s.ps)).2.2 = 2) }, (Wal.checkpoint s.l d (Sto.image s.ps)).2.1, (Wal.checkpoint s.l d (Sto.image s.ps)).2.2)) := Lib.hid (by unfold SS.check; rw [if_neg (by simp [hdd])])
    have hil := Sto.image_length s.ps HS.out.fits
    obtain ⟨I, hI⟩ : ∃ I, Sto.image s.ps = I := ⟨_, rfl⟩
    obtain ⟨q, hq⟩ : ∃ q, (Wal.checkpoint s.l d I).2.2 = q := ⟨_, rfl⟩
    have HDD := Lib.hid hdd
    have HIM := Lib.hid (image_any x mb _ _ _ _ s.ps w.drew HS.out.blk HS.out.map HS.out.good HS.out.fits)
    rw [hI] at HIM HX hil
    rw [hq] at HX
    have HQ := Lib.hid hq
    clear hdd hq hI
    go_enter Tryz.func60, Tryz.ntmps60
    go_wp2_with fail
    have hS0 : w.drew.cell? ⟨x, 0, none⟩ = some (.pointer (some ⟨lg, 0, none⟩)) := c0
    refine wp_region_heldL (S := fun w' => w'.cell? ⟨x, 0, none⟩ = some (.pointer (some ⟨lg, 0, none⟩))) (by kernel_rfl) ?_
    refine wpAnyH_takeL (i := 0) (v := ?_) rfl (by kernel_rfl) (by kernel_rfl) (by kernel_rfl) (fun _ _ _ h => h) ?_ (by assumption) ?_; rotate_left; focus (first | (refine Or.inr ⟨by rfl, ?_⟩; with_reducible rfl) | (refine Or.inl ⟨by rfl, ?_⟩; (intro w hSw; (try dsimp only at hSw); go_simp); try with_reducible rfl))
    try simp only [Act.put, List.setIfInBounds_toArray, List.set_cons_zero, List.set_cons_succ]
    refine wpAnyH_takeL (i := 1) (v := ?_) rfl (by kernel_rfl) (by kernel_rfl) (by kernel_rfl) (fun _ _ _ h => h) ?_ (by assumption) ?_; rotate_left; focus (first | (refine Or.inr ⟨by rfl, ?_⟩; with_reducible rfl) | (refine Or.inl ⟨by rfl, ?_⟩; (intro w hSw; (try dsimp only at hSw); go_simp); try with_reducible rfl))
    try simp only [Act.put, List.setIfInBounds_toArray, List.set_cons_zero, List.set_cons_succ]
    refine wpAnyH_takeL (i := 2) (v := ?_) rfl (by kernel_rfl) (by kernel_rfl) (by kernel_rfl) (fun _ _ _ h => h) ?_ (by assumption) ?_; rotate_left; focus (first | (refine Or.inr ⟨by rfl, ?_⟩; with_reducible rfl) | (refine Or.inl ⟨by rfl, ?_⟩; (intro w hSw; (try dsimp only at hSw); go_simp); try with_reducible rfl))
    try simp only [Act.put, List.setIfInBounds_toArray, List.set_cons_zero, List.set_cons_succ]
    refine wpAnyH_takeL (i := 3) (v := ?_) rfl (by kernel_rfl) (by kernel_rfl) (by kernel_rfl) (fun _ _ _ h => h) ?_ (by assumption) ?_; rotate_left; focus (first | (refine Or.inr ⟨by rfl, ?_⟩; with_reducible rfl) | (refine Or.inl ⟨by rfl, ?_⟩; (intro w hSw; (try dsimp only at hSw); go_simp); try with_reducible rfl))
    try simp only [Act.put, List.setIfInBounds_toArray, List.set_cons_zero, List.set_cons_succ]
    refine wpAnyH_takeL (i := 4) (v := ?_) rfl (by kernel_rfl) (by kernel_rfl) (by kernel_rfl) (fun _ _ _ h => h) ?_ (by assumption) ?_; rotate_left; focus (first | (refine Or.inr ⟨by rfl, ?_⟩; with_reducible rfl) | (refine Or.inl ⟨by rfl, ?_⟩; (intro w hSw; (try dsimp only at hSw); go_simp); try with_reducible rfl))
    try simp only [Act.put, List.setIfInBounds_toArray, List.set_cons_zero, List.set_cons_succ]
    refine wpAnyH_takeL (i := 5) (v := ?_) rfl (by kernel_rfl) (by kernel_rfl) (by kernel_rfl) (fun _ _ _ h => h) ?_ (by assumption) ?_; rotate_left; focus (first | (refine Or.inr ⟨by rfl, ?_⟩; with_reducible rfl) | (refine Or.inl ⟨by rfl, ?_⟩; (intro w hSw; (try dsimp only at hSw); go_simp); try with_reducible rfl))
    try simp only [Act.put, List.setIfInBounds_toArray, List.set_cons_zero, List.set_cons_succ]
    refine wpAnyH_oneL (i := 6) rfl (by kernel_rfl) ?_
    intro K hK
    rw [if_pos (by rfl)]
    go_simp
    go_at_call 117
    refine HIM.out.mono ?_
    rintro e w1 ⟨rfl, b1⟩
    have HB1 := Lib.hid (bthen ((Below.refl _ w).drew) b1)
    have hS1 := cell_later b1 hS0
    clear b1
    refine hK _ _ hS1 ?_
    clear hK K
    try simp only [Act.put, List.setIfInBounds_toArray, List.set_cons_zero, List.set_cons_succ]
    refine wpAnyH_oneL (i := 7) rfl (by kernel_rfl) ?_
    intro K hK
    rw [if_pos (by rfl)]
    go_simp
    go_at_call 116
    refine (wcheck_any lg c w1 s.l d m rb I (HS.out.below HB1.out).log (HD.out.below HB1.out) hm (by omega) hlg).mono ?_
    rw [HQ.out]
    rintro e w2 ⟨rfl, hw2⟩
    have HS2 := Lib.hid ((HS.out.below HB1.out).worked (HD.out.below HB1.out) hw2)
    have HW2 := Lib.hid hw2
    have hS2 : w2.cell? ⟨x, 0, none⟩ = some (.pointer (some ⟨lg, 0, none⟩)) := cell_of HS2.out.blk rfl
    clear hw2
    refine hK _ _ hS2 ?_
    clear hK K
    try simp only [Act.put, List.setIfInBounds_toArray, List.set_cons_zero, List.set_cons_succ]
    refine wpAnyH_oneL (i := 8) rfl (by kernel_rfl) ?_
    intro K hK
    rw [if_pos (by rfl)]
    go_simp
    go_at_call 68
    refine (told_any x mb _ _ _ false q w2 (by have := HS2.out.blk; rw [storeBlock, HDD.out] at this; exact this)).mono ?_
    rintro e w3 ⟨rfl, h3, ht3⟩
    have HZ := Lib.hid (SWorked.of (HS.out.below HB1.out) (HD.out.below HB1.out) HW2.out h3 ht3)
    have hS3 : w3.cell? ⟨x, 0, none⟩ = some (.pointer (some ⟨lg, 0, none⟩)) := cell_of h3 rfl
    clear h3 ht3
    refine hK _ _ hS3 ?_
    clear hK K
    try simp only [Act.put, List.setIfInBounds_toArray, List.set_cons_zero, List.set_cons_succ]
    refine wpAnyH_takeL (i := 9) (v := ?_) rfl (by kernel_rfl) (by kernel_rfl) (by kernel_rfl) (fun _ _ _ h => h) ?_ (by assumption) ?_; rotate_left; focus (first | (refine Or.inr ⟨by rfl, ?_⟩; with_reducible rfl) | (refine Or.inl ⟨by rfl, ?_⟩; (intro w hSw; (try dsimp only at hSw); go_simp); try with_reducible rfl))
    try simp only [Act.put, List.setIfInBounds_toArray, List.set_cons_zero, List.set_cons_succ]
    refine wpAnyH_done (by kernel_rfl) ?_ _
    go_wp2
    go_ret
    rw [HX.out]
    obtain ⟨⟨mb', z1, z2⟩, ⟨rb', z3, z4, z5⟩, z6⟩ := HZ.out
    exact ⟨rfl, ⟨mb', z1, z2.imp id (fun h => Nat.le_trans HB1.out.size h)⟩, ⟨rb', z3, fun k hk => (z4 k hk).imp id (fun h => Nat.le_trans HB1.out.size h), z5⟩, Touch.trans (Touch.of_below HB1.out) z6 (fun _ _ h => h)⟩
section
variable {w : World} {x lg c mb : Nat} {s : SS} (h : StoAt w x lg c mb s)
include h
set_option maxHeartbeats 1000000 in
theorem keys11_any : Calls Tryz.prog 42 #[.pointer (some ⟨x, 0, none⟩)] w fun e w' => e = .returned (.int .i64 s.ps.length) ∧ w' = w := by
  obtain ⟨_, c1, _⟩ := h.cells
  have hlen0 : ∀ ty, (Builtin.len_ #[101] ty #[.map (some mb)]).run Tryz.prog w = .ok (.int .i64 s.ps.length) w := h.map.len
  clear h
  go_enter Tryz.func42, Tryz.ntmps42
  go_wp2
  go_ret
  exact ⟨rfl, rfl⟩
set_option maxHeartbeats 1000000 in
theorem bytes11_any : Calls Tryz.prog 43 #[.pointer (some ⟨x, 0, none⟩)] w fun e w' => e = .returned (.int .i64 (Sto.size s.ps)) ∧ w' = w := by
  obtain ⟨_, _, c2, _⟩ := h.cells
  clear h
  go_enter Tryz.func43, Tryz.ntmps43
  go_wp2
  go_ret
  exact ⟨rfl, rfl⟩
set_option maxHeartbeats 1000000 in
theorem dead11_any : Calls Tryz.prog 29 #[.pointer (some ⟨x, 0, none⟩)] w fun e w' => e = .returned (.bool s.dead) ∧ w' = w := by
  obtain ⟨_, _, _, _, c4, _⟩ := h.cells
  clear h
  go_enter Tryz.func29, Tryz.ntmps29
  go_wp2
  go_ret
  exact ⟨rfl, rfl⟩
set_option maxHeartbeats 1000000 in
theorem get11_any (k : Sto.S) (hk : k.length ≤ maxLen) : Calls Tryz.prog 40 #[.pointer (some ⟨x, 0, none⟩), .string ⟨k.toArray⟩] w fun e w' => e = .returned (.tuple #[.string ⟨((Sto.get s.ps k).getD []).toArray⟩, .bool (Sto.here s.ps k)]) ∧ w' = w := by
  obtain ⟨_, c1, _⟩ := h.cells
  have hlook := h.map.look h.good.rise k hk
  obtain ⟨o, ho⟩ : ∃ o, (Sto.get s.ps k).getD [] = o := ⟨_, rfl⟩
  obtain ⟨b, hb⟩ : ∃ b, Sto.here s.ps k = b := ⟨_, rfl⟩
  rw [ho, hb] at hlook
  rw [ho, hb]
  clear h ho hb
  go_enter Tryz.func40, Tryz.ntmps40
  go_wp2
  go_ret2
  exact ⟨rfl, rfl⟩
set_option maxHeartbeats 1000000 in
theorem scan11_any (k : Sto.S) (most : Int) (hm1 : most ≤ 9223372036854775807) (hm2 : -9223372036854775808 ≤ most) : Calls Tryz.prog 20 #[.pointer (some ⟨x, 0, none⟩), .string ⟨k.toArray⟩, .int .i64 most] w fun e w' => ∃ v, e = .returned v ∧ PairsAt w' v (Sto.scan s.ps k most.toNat) ∧ (∀ g, v.ownBlock = some g → w.heap.size ≤ g) ∧ Below w.heap.size w w' := by
  obtain ⟨_, c1, _⟩ := h.cells
  have hf := h.fits
  have hfl : s.ps.length ≤ 4398046511104 := by
    unfold Sto.fits at hf
    simp at hf
    omega
  have HSC := Lib.hid (scan_any (some mb) s.ps k most w h.good hfl h.map hm1 hm2)
  clear h hf
  go_enter Tryz.func20, Tryz.ntmps20
  go_wp2_with fail
  refine HSC.out.mono ?_
  rintro e w1 ⟨v, rfl, h1, h2, h3⟩
  have HZ := Lib.hid (And.intro h1 (And.intro h2 h3))
  clear h1 h2 h3
  go_wp2
  go_ret
  exact ⟨v, rfl, HZ.out⟩
end
end Go.Proofs.YtpjpknndfhablaaGreat
