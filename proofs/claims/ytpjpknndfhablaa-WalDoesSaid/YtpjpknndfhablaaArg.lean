/- Calls of chapter 10 that came in, opened (for laws that do not need chapter 09's own). -/
import Derived.Test.YtpjpknndfhablaaLawA
import Derived.Test.YtpjpknndfhablaaRows
import Derived.ProofKit
import Derived.SizedLaws
import Derived.SliceStrings
import Derived.Deep.Slices
import Derived.Deep.Fields
import Derived.ChangeSame
namespace Go.Proofs.Ytpjpknndfhablaa
open Go.ChangeShapes Go.WideShapes Go.ChangeAt Go.RowKit Go.Deep
structure OpV where
  on : Int
  kind : Int
  a : Int
  b : Int
  s : List UInt8
/-- A slice of calls that is read. -/
structure OpsAt (w : World) (ao : Option Addr) (l : List OpV) : Prop where
  len : l.length ≤ 4000000000000
  cell : ∀ i o, l[i]? = some o → ∃ b off, ao = some ⟨b, off, none⟩ ∧ b < w.heap.size ∧ w.cell? ⟨b, off + i * 5, none⟩ = some (.int .i64 o.on) ∧ w.cell? ⟨b, off + i * 5 + 1, none⟩ = some (.int .i64 o.kind) ∧
    w.cell? ⟨b, off + i * 5 + 2, none⟩ = some (.int .i64 o.a) ∧ w.cell? ⟨b, off + i * 5 + 3, none⟩ = some (.int .i64 o.b) ∧ w.cell? ⟨b, off + i * 5 + 4, none⟩ = some (.string ⟨o.s.toArray⟩)
  fits : ∀ o ∈ l, o.s.length ≤ 140737488355328 ∧ (-9223372036854775808 ≤ o.a ∧ o.a ≤ 9223372036854775807) ∧ (-9223372036854775808 ≤ o.b ∧ o.b ≤ 9223372036854775807) ∧ (-9223372036854775808 ≤ o.on ∧ o.on ≤ 9223372036854775807)
theorem OpsAt.below {w w' : World} {ao : Option Addr} {l : List OpV} (h : OpsAt w ao l) (hb : Below w.heap.size w w') : OpsAt w' ao l :=
  ⟨h.len, fun i o hi => by
    obtain ⟨b, off, e, hl, c0, c1, c2, c3, c4⟩ := h.cell i o hi
    exact ⟨b, off, e, Nat.lt_of_lt_of_le hl hb.size, cell_later hb c0, cell_later hb c1, cell_later hb c2, cell_later hb c3, cell_later hb c4⟩, h.fits⟩

theorem Try.own : ownKnob Try.prog.godebug = none := by kernel_rfl
theorem Try.laidOut : laidOutB Try.prog = true := by kernel_rfl
theorem Try.cellsText : Try.prog.cellsOf 9 = 1 := by kernel_rfl
section
variable {H : Type} {enc : TypeId × Value → H} {P : Program} {w : World} {base : Nat} {spare : Nat → Bool} {held : Bool}
theorem open_slice_fields {t e : TypeId} {fs : Array Field} {fuel : Nat} {cs : List Value} {x : DataW H × List MemPlace} (ht : P.underlying t = some (.slice e)) (he : P.underlying e = some (.struct fs))
    (hone : oneCellFields P fs = true) (hC : P.cellsOf e = fs.size) (h : DataW.trod enc P w base spare held fuel t cs = some x) :
    (cs = [.slice none 0 0] ∧ x = (.nil, [])) ∨
    ∃ (a : Addr) (len cap m : Nat) (D : Nat → DataW H) (Pl : Nat → List MemPlace), cs = [.slice (some a) len cap] ∧ base ≤ a.block ∧ len ≤ cap ∧ cap ≤ maxLen ∧ m = (if spare a.block then cap else len) ∧
      x = (.slice ((List.range len).map D) ((List.range (m - len)).map fun j => D (len + j)), MemPlace.row a (m * fs.size) ++ (List.range m).flatMap Pl) ∧
      ∀ i, i < m → ∃ (ys : List (DataW H × List MemPlace)) (n : Nat), D i = .agg (ys.map (·.1)) ∧ Pl i = ys.flatMap (·.2) ∧ ys.length = fs.size ∧
        ∀ (j : Nat) (f : Field), fs[j]? = some f → ∃ (v : Value) (y : DataW H × List MemPlace), w.cell? (a.add (i * fs.size + j)) = some v ∧ ys[j]? = some y ∧ DataW.trod enc P w base spare held n f.type [v] = some y := by
  rcases open_slice ht h with h0 | ⟨a, len, cap, m, n, D, Pl, hcs, hb, hl, hm, hmm, hx, hi⟩
  · exact .inl h0
  · refine .inr ⟨a, len, cap, m, D, Pl, hcs, hb, hl, hm, hmm, by rw [hC] at hx; exact hx, fun i him => ?_⟩
    obtain ⟨cs', hc, ht'⟩ := hi i him
    rw [hC] at hc
    obtain ⟨ys, n', hn', hy, hlen, hyl, hf⟩ := DataW.trod_struct he ht'
    obtain ⟨_, hcl, hat⟩ := World.cells?_some hc
    simp only [Prod.mk.injEq] at hy
    refine ⟨ys, n', hy.1, hy.2, hyl, fun j f hj => ?_⟩
    obtain ⟨ho, hk⟩ := hone_of hone j f hj
    have hjl : j < fs.size := (Array.getElem?_eq_some_iff.1 hj).1
    have hcell := hat j hjl
    have hv : cs'[j]? = some (cs'[j]'(by omega)) := List.getElem?_eq_getElem (by omega)
    have h1 := hf j f hj
    rw [ho, hk] at h1
    have hone' : (cs'.drop j).take 1 = [cs'[j]'(by omega)] := by
      rw [List.drop_eq_getElem_cons (by omega)]
      rfl
    rw [hone'] at h1
    have hys : ys[j]? = some (ys[j]'(by omega)) := List.getElem?_eq_getElem (by omega)
    refine ⟨_, _, ?_, hys, h1.trans hys⟩
    rw [← Go.Deep.add_add, hcell, hv]
end

/-- A list out of what holds at each place. -/
theorem list_of {T : Type} {Q : Nat → T → Prop} : ∀ (n : Nat), (∀ i, i < n → ∃ o, Q i o) → ∃ l : List T, l.length = n ∧ ∀ i o, l[i]? = some o → Q i o
  | 0, _ => ⟨[], rfl, by simp⟩
  | n + 1, h => by
    obtain ⟨l, hl, hq⟩ := list_of n (fun i hi => h i (by omega))
    obtain ⟨o, ho⟩ := h n (by omega)
    refine ⟨l ++ [o], by simp [hl], fun i x hx => ?_⟩
    rw [List.getElem?_append] at hx
    split at hx
    · exact hq i x hx
    · have hi : i = n := by
        by_cases e : i - l.length = 0
        · omega
        · exfalso
          rw [List.getElem?_eq_none (by simp; omega)] at hx
          cases hx
      subst hi
      rw [hl, Nat.sub_self] at hx
      simp at hx
      subst hx
      exact ho
theorem weightsAll_mem {H : Type} {P : Program} {e : TypeId} {x : DataW H} : ∀ {elems : List (DataW H)}, x ∈ elems → ∀ n ∈ x.weights P e, n ∈ DataW.weightsAll P e elems
  | d :: r, h, n, hn => by
    simp only [DataW.weightsAll, List.mem_append]
    rcases List.mem_cons.1 h with rfl | h
    · exact Or.inl hn
    · exact Or.inr (weightsAll_mem h n hn)
theorem plainSpot {w : World} {a : Addr} {v : Value} (h : w.cell? (a.add 0) = some v) : ∃ b off, a = ⟨b, off, none⟩ := by
  obtain ⟨b, off, s⟩ := a
  have hs : s = none := by simpa [Addr.add] using World.cell?_spot h
  subst hs
  exact ⟨b, off, rfl⟩
theorem int_fits {n : Int} (h : (Lit.int .i64 n).wf = true) : -9223372036854775808 ≤ n ∧ n ≤ 9223372036854775807 := by
  have h1 : IntKind.i64.min = -9223372036854775808 := rfl
  have h2 : IntKind.i64.max = 9223372036854775807 := rfl
  simp only [Lit.wf, Bool.and_eq_true, decide_eq_true_eq] at h
  omega
theorem cell_lt {w : World} {b o : Nat} {v : Value} (h : w.cell? ⟨b, o, none⟩ = some v) : b < w.heap.size := by
  apply Classical.byContradiction
  intro hn
  have : w.heap[b]? = none := Array.getElem?_eq_none (by omega)
  simp [World.cell?, this] at h

section
variable {H : Type} {enc : TypeId × Value → H} {W : World} {sp : Nat → Bool} {held : Bool}
theorem open_files {t : TypeId} (ht : Try.prog.underlying t = some (.slice 9)) {a0 : Option Addr} {len cap : Nat} {d : DataW H} {p : List MemPlace} (h : DataW.Trod enc Try.prog W 0 sp held t (.slice a0 len cap) d p) :
    ∃ l, l.length = len ∧ Texts W a0 l := by
  obtain ⟨fuel, hf⟩ := h
  rcases open_strings ht Try.underlying9 Try.cellsText hf with ⟨hcs, _⟩ | ⟨a, len', cap', ss, hcs, _, hl, hm, hn, _, hc, _⟩
  · simp [Value.cells] at hcs
    obtain ⟨rfl, rfl, rfl⟩ := hcs
    exact ⟨[], rfl, by simp, by simp⟩
  · simp [Value.cells] at hcs
    obtain ⟨rfl, rfl, rfl⟩ := hcs
    have hle : len ≤ ss.length := by rw [hn]; split <;> omega
    refine ⟨(ss.take len).map (·.data.toList), by simp; omega, by simp only [List.length_map, List.length_take]; simp [maxLen] at hm; omega, fun i s hi => ?_⟩
    rw [List.getElem?_map, List.getElem?_take] at hi
    split at hi
    case isTrue hil =>
      have hb := hc i (by omega)
      rw [List.getElem?_eq_getElem (by omega)] at hi
      simp at hi
      subst hi
      obtain ⟨b, off, rfl⟩ := plainSpot (hc 0 (by omega))
      refine ⟨b, off, rfl, ?_⟩
      rw [← add_plain, hb]
      simp [List.getD, List.getElem?_eq_getElem (show i < ss.length by omega)]
    case isFalse => cases hi

end
theorem Try.cellsOp10 : Try.prog.cellsOf 65 = 5 := by kernel_rfl
theorem Try.bytesOp10 : Try.prog.bytesOf 65 = 48 := by kernel_rfl
section
variable {H : Type} {enc : TypeId × Value → H} {W : World} {sp : Nat → Bool} {held : Bool}
theorem open_ops {fuel : Nat} {cs : List Value} {y : DataW H × List MemPlace} (hw : ∀ k ∈ y.1.weights Try.prog 80, k ≤ reachBytes) (hf : DataW.trod enc Try.prog W 0 sp held fuel 80 cs = some y) :
    ∃ ao len cap l, cs = [.slice ao len cap] ∧ l.length = len ∧ OpsAt W ao l := by
  rcases open_slice_fields Try.underlying80 Try.underlying65 (by kernel_rfl) Try.cellsOp10 hf with ⟨hcs, _⟩ | ⟨a, len, cap, m, D, Pl, hcs, _, hl, hm, hmm, hx, hc⟩
  · exact ⟨none, 0, 0, [], hcs, rfl, by simp, by simp, by simp⟩
  · subst hx
    have hlm : len ≤ m := by rw [hmm]; split <;> omega
    have hlen : len ≤ 4000000000000 := by
      have := hw ((((List.range len).map D).length + ((List.range (m - len)).map fun j => D (len + j)).length) * Try.prog.bytesOf 65) (by simp only [DataW.weights, Try.underlying80, List.mem_cons, true_or])
      rw [Try.bytesOp10] at this
      simp only [List.length_map, List.length_range, reachBytes] at this
      omega
    obtain ⟨l, hll, hq⟩ := list_of (T := OpV) (Q := fun i o => (∃ b off, (some a : Option Addr) = some ⟨b, off, none⟩ ∧ b < W.heap.size ∧ W.cell? ⟨b, off + i * 5, none⟩ = some (.int .i64 o.on) ∧ W.cell? ⟨b, off + i * 5 + 1, none⟩ = some (.int .i64 o.kind) ∧
        W.cell? ⟨b, off + i * 5 + 2, none⟩ = some (.int .i64 o.a) ∧ W.cell? ⟨b, off + i * 5 + 3, none⟩ = some (.int .i64 o.b) ∧ W.cell? ⟨b, off + i * 5 + 4, none⟩ = some (.string ⟨o.s.toArray⟩)) ∧
        (o.s.length ≤ 140737488355328 ∧ (-9223372036854775808 ≤ o.a ∧ o.a ≤ 9223372036854775807) ∧ (-9223372036854775808 ≤ o.b ∧ o.b ≤ 9223372036854775807) ∧ (-9223372036854775808 ≤ o.on ∧ o.on ≤ 9223372036854775807))) len (fun i hi => by
      obtain ⟨ys, n, hD, _, _, hf⟩ := hc i (by omega)
      obtain ⟨v0, y0, c0, _, t0⟩ := hf 0 _ rfl
      obtain ⟨v1, y1, c1, _, t1⟩ := hf 1 _ rfl
      obtain ⟨v2, y2, c2, _, t2⟩ := hf 2 _ rfl
      obtain ⟨v3, y3, c3, _, t3⟩ := hf 3 _ rfl
      obtain ⟨v4, y4, c4, hy4, t4⟩ := hf 4 _ rfl
      obtain ⟨n0, e0, _, w0⟩ := DataW.trod_int Try.underlying3 t0
      obtain ⟨n1, e1, _, _⟩ := DataW.trod_int Try.underlying3 t1
      obtain ⟨n2, e2, _, w2⟩ := DataW.trod_int Try.underlying3 t2
      obtain ⟨n3, e3, _, w3⟩ := DataW.trod_int Try.underlying3 t3
      obtain ⟨s, e4, x4, _⟩ := DataW.trod_string Try.underlying9 t4
      simp at e0 e1 e2 e3 e4
      subst e0 e1 e2 e3 e4
      subst x4
      have hs : s.data.toList.length ≤ reachBytes := by
        refine hw _ ?_
        simp only [DataW.weights, Try.underlying80, List.mem_cons, List.mem_append]
        refine Or.inr (Or.inl (weightsAll_mem (List.mem_map.2 ⟨i, List.mem_range.2 hi, rfl⟩) _ ?_))
        rw [hD]
        simp only [DataW.weights, Try.underlying65]
        exact DataW.weights_mem_each (j := 4) (t := 9) (d := .lit (.string s.data.toList)) rfl (by rw [List.getElem?_map, hy4]; rfl) _ (by simp [DataW.weights])
      have hs' : s.data.toList.length ≤ 140737488355328 := Nat.le_trans hs (by simp [reachBytes])
      obtain ⟨_, _, _, _, _, hf0⟩ := hc 0 (by omega)
      obtain ⟨_, _, z0, _⟩ := hf0 0 _ rfl
      rw [Nat.zero_mul] at z0
      obtain ⟨b, off, rfl⟩ := plainSpot z0
      simp only [add_plain] at c0 c1 c2 c3 c4
      exact ⟨⟨n0, n1, n2, n3, s.data.toList⟩, ⟨b, off, rfl, cell_lt c0, c0, c1, c2, c3, c4⟩, hs', int_fits w2, int_fits w3, int_fits w0⟩)
    refine ⟨some a, len, cap, l, hcs, hll, by omega, fun i o hi => (hq i o hi).1, fun o ho => ?_⟩
    obtain ⟨i, hi⟩ := List.getElem?_of_mem ho
    exact (hq i o hi).2
theorem weights_of {ts : List TypeId} {ds : List (DataW H)} (hsz : (DataW.weightsEach Try.prog ts ds).all (· ≤ reachBytes) = true) {j : Nat} {t : TypeId} {d : DataW H} (ht : ts[j]? = some t) (hd : ds[j]? = some d) : ∀ k ∈ d.weights Try.prog t, k ≤ reachBytes := fun k hk =>
  of_decide_eq_true (List.all_eq_true.1 hsz _ (DataW.weights_mem_each ht hd k hk))
end
end Go.Proofs.Ytpjpknndfhablaa
