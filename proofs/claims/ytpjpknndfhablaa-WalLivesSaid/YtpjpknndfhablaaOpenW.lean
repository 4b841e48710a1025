/- Calls of chapter 10 that came in, opened: a script, and scripts within structs. -/
import Derived.Test.YtpjpknndfhablaaOpen
namespace Go.Proofs.Ytpjpknndfhablaa
open Go.ChangeShapes Go.WideShapes Go.ChangeAt Go.RowKit Go.Deep
theorem Try.cellsOp10 : Try.prog.cellsOf 65 = 5 := by kernel_rfl
theorem Try.bytesOp10 : Try.prog.bytesOf 65 = 48 := by kernel_rfl
section
variable {H : Type} {enc : TypeId × Value → H} {W : World} {sp : Nat → Bool} {held : Bool}
theorem open_ops {fuel : Nat} {cs : List Value} {y : DataW H × List MemPlace} (hw : ∀ k ∈ y.1.weights Try.prog 80, k ≤ reachBytes) (hf : DataW.trod enc Try.prog W 0 sp held fuel 80 cs = some y) :
    ∃ ao len cap l, cs = [.slice ao len cap] ∧ l.length = len ∧ OpsAt W ao l := by
  rcases open_slice_fields Try.underlying80 Try.underlying65 (by kernel_rfl) Try.cellsOp10 hf with ⟨hcs, _⟩ | ⟨a, len, cap, m, D, Pl, hcs, _, hl, hm, hmm, hx, hc⟩
  · exact ⟨none, 0, 0, [], hcs, rfl, by simp, by simp, by simp⟩
  · subst hx
    have hlm : len ≤ m := by rw [hmm]; split <;> omega
    have hlen : len ≤ 4000000000000 := by
      have := hw ((((List.range len).map D).length + ((List.range (m - len)).map fun j => D (len + j)).length) * Try.prog.bytesOf 65) (by simp only [DataW.weights, Try.underlying80, List.mem_cons, true_or])
      rw [Try.bytesOp10] at this
      simp only [List.length_map, List.length_range, reachBytes] at this
      omega
    obtain ⟨l, hll, hq⟩ := list_of (T := OpV) (Q := fun i o => (∃ b off, (some a : Option Addr) = some ⟨b, off, none⟩ ∧ b < W.heap.size ∧ W.cell? ⟨b, off + i * 5, none⟩ = some (.int .i64 o.on) ∧ W.cell? ⟨b, off + i * 5 + 1, none⟩ = some (.int .i64 o.kind) ∧
        W.cell? ⟨b, off + i * 5 + 2, none⟩ = some (.int .i64 o.a) ∧ W.cell? ⟨b, off + i * 5 + 3, none⟩ = some (.int .i64 o.b) ∧ W.cell? ⟨b, off + i * 5 + 4, none⟩ = some (.string ⟨o.s.toArray⟩)) ∧
        (o.s.length ≤ 140737488355328 ∧ (-9223372036854775808 ≤ o.a ∧ o.a ≤ 9223372036854775807) ∧ (-9223372036854775808 ≤ o.b ∧ o.b ≤ 9223372036854775807) ∧ (-9223372036854775808 ≤ o.on ∧ o.on ≤ 9223372036854775807))) len (fun i hi => by
      obtain ⟨ys, n, hD, _, _, hf⟩ := hc i (by omega)
      obtain ⟨v0, y0, c0, _, t0⟩ := hf 0 _ rfl
      obtain ⟨v1, y1, c1, _, t1⟩ := hf 1 _ rfl
      obtain ⟨v2, y2, c2, _, t2⟩ := hf 2 _ rfl
      obtain ⟨v3, y3, c3, _, t3⟩ := hf 3 _ rfl
      obtain ⟨v4, y4, c4, hy4, t4⟩ := hf 4 _ rfl
      obtain ⟨n0, e0, _, w0⟩ := DataW.trod_int Try.underlying3 t0
      obtain ⟨n1, e1, _, _⟩ := DataW.trod_int Try.underlying3 t1
      obtain ⟨n2, e2, _, w2⟩ := DataW.trod_int Try.underlying3 t2
      obtain ⟨n3, e3, _, w3⟩ := DataW.trod_int Try.underlying3 t3
      obtain ⟨s, e4, x4, _⟩ := DataW.trod_string Try.underlying9 t4
      simp at e0 e1 e2 e3 e4
      subst e0 e1 e2 e3 e4
      subst x4
      have hs : s.data.toList.length ≤ reachBytes := by
        refine hw _ ?_
        simp only [DataW.weights, Try.underlying80, List.mem_cons, List.mem_append]
        refine Or.inr (Or.inl (weightsAll_mem (List.mem_map.2 ⟨i, List.mem_range.2 hi, rfl⟩) _ ?_))
        rw [hD]
        simp only [DataW.weights, Try.underlying65]
        exact DataW.weights_mem_each (j := 4) (t := 9) (d := .lit (.string s.data.toList)) rfl (by rw [List.getElem?_map, hy4]; rfl) _ (by simp [DataW.weights])
      have hs' : s.data.toList.length ≤ 140737488355328 := Nat.le_trans hs (by simp [reachBytes])
      obtain ⟨_, _, _, _, _, hf0⟩ := hc 0 (by omega)
      obtain ⟨_, _, z0, _⟩ := hf0 0 _ rfl
      rw [Nat.zero_mul] at z0
      obtain ⟨b, off, rfl⟩ := plainSpot z0
      simp only [add_plain] at c0 c1 c2 c3 c4
      exact ⟨⟨n0, n1, n2, n3, s.data.toList⟩, ⟨b, off, rfl, cell_lt c0, c0, c1, c2, c3, c4⟩, hs', int_fits w2, int_fits w3, int_fits w0⟩)
    refine ⟨some a, len, cap, l, hcs, hll, by omega, fun i o hi => (hq i o hi).1, fun o ho => ?_⟩
    obtain ⟨i, hi⟩ := List.getElem?_of_mem ho
    exact (hq i o hi).2
theorem weights_of {ts : List TypeId} {ds : List (DataW H)} (hsz : (DataW.weightsEach Try.prog ts ds).all (· ≤ reachBytes) = true) {j : Nat} {t : TypeId} {d : DataW H} (ht : ts[j]? = some t) (hd : ds[j]? = some d) : ∀ k ∈ d.weights Try.prog t, k ≤ reachBytes := fun k hk =>
  of_decide_eq_true (List.all_eq_true.1 hsz _ (DataW.weights_mem_each ht hd k hk))
end
end Go.Proofs.Ytpjpknndfhablaa
