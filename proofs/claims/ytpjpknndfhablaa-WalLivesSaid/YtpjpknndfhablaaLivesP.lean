/- Whatever lives: WalLives answers true, and each argument reads afterwards as it read before. No condition. -/
import Derived.Test.YtpjpknndfhablaaLivesW
import Derived.Test.YtpjpknndfhablaaOpenW
namespace Go.Proofs.Ytpjpknndfhablaa
open Go.ChangeShapes Go.WideShapes Go.ChangeAt Go.RowKit Go.Deep
theorem Try.cellsLife : Try.prog.cellsOf 82 = 4 := by kernel_rfl
theorem open_lives {H : Type} {enc : TypeId × Value → H} {W : World} {sp : Nat → Bool} {held : Bool} {ts : List TypeId} {ds : List (DataW H)} (hsz : (DataW.weightsEach Try.prog ts ds).all (· ≤ reachBytes) = true) {j : Nat} {a0 : Option Addr} {len cap : Nat} {d : DataW H} {p : List MemPlace}
    (ht : ts[j]? = some 77) (hd : ds[j]? = some d) (h : DataW.Trod enc Try.prog W 0 sp held 77 (.slice a0 len cap) d p) : ∃ l, l.length = len ∧ LivesAt W a0 l := by
  have hw := weights_of hsz ht hd
  obtain ⟨fuel, hf⟩ := h
  rcases open_slice_fields Try.underlying77 Try.underlying82 (by kernel_rfl) Try.cellsLife hf with ⟨hcs, _⟩ | ⟨a, len', cap', m, D, Pl, hcs, _, hl, hm, hmm, hx, hc⟩
  · simp [Value.cells] at hcs
    obtain ⟨rfl, rfl, rfl⟩ := hcs
    exact ⟨[], rfl, by simp, by simp, by simp⟩
  · simp [Value.cells] at hcs
    obtain ⟨rfl, rfl, rfl⟩ := hcs
    simp only [Prod.mk.injEq] at hx
    obtain ⟨rfl, rfl⟩ := hx
    have hlm : len ≤ m := by rw [hmm]; split <;> omega
    have hlen : len ≤ 4611686018427387904 := by
      have := sized_slice hsz (e := 82) ht hd Try.underlying77
      rw [show Try.prog.bytesOf 82 = 48 by kernel_rfl] at this
      simp only [List.length_map, List.length_range, reachBytes] at this
      omega
    obtain ⟨l, hll, hq⟩ := list_of (T := LifeV) (Q := fun i x => (∃ b off so cap, (some a : Option Addr) = some ⟨b, off, none⟩ ∧ b < W.heap.size ∧ W.cell? ⟨b, off + i * 4, none⟩ = some (.slice so x.sc.length cap) ∧ W.cell? ⟨b, off + i * 4 + 1, none⟩ = some (.int .i64 x.n) ∧
        W.cell? ⟨b, off + i * 4 + 2, none⟩ = some (.int .i64 x.k) ∧ W.cell? ⟨b, off + i * 4 + 3, none⟩ = some (.int .i64 x.a) ∧ OpsAt W so x.sc) ∧
        ((-9223372036854775808 ≤ x.n ∧ x.n ≤ 9223372036854775807) ∧ (-9223372036854775808 ≤ x.k ∧ x.k ≤ 9223372036854775807) ∧ (-9223372036854775808 ≤ x.a ∧ x.a ≤ 9223372036854775807))) len (fun i hi => by
      obtain ⟨ys, n, hD, _, _, hf⟩ := hc i (by omega)
      obtain ⟨v0, y0, c0, hy0, t0⟩ := hf 0 _ rfl
      obtain ⟨v1, y1, c1, _, t1⟩ := hf 1 _ rfl
      obtain ⟨v2, y2, c2, _, t2⟩ := hf 2 _ rfl
      obtain ⟨v3, y3, c3, _, t3⟩ := hf 3 _ rfl
      obtain ⟨n1, e1, _, w1⟩ := DataW.trod_int Try.underlying3 t1
      obtain ⟨n2, e2, _, w2⟩ := DataW.trod_int Try.underlying3 t2
      obtain ⟨n3, e3, _, w3⟩ := DataW.trod_int Try.underlying3 t3
      obtain ⟨so, ln, cp, sc, e0, hsl, hops⟩ := open_ops (y := y0) (fun k hk => by
        refine hw _ ?_
        simp only [DataW.weights, Try.underlying77, List.mem_cons, List.mem_append]
        refine Or.inr (Or.inl (weightsAll_mem (List.mem_map.2 ⟨i, List.mem_range.2 hi, rfl⟩) _ ?_))
        rw [hD]
        simp only [DataW.weights, Try.underlying82]
        exact DataW.weights_mem_each (j := 0) (t := 80) (d := y0.1) rfl (by rw [List.getElem?_map, hy0]; rfl) _ hk) t0
      simp at e0 e1 e2 e3
      subst e0 e1 e2 e3
      subst hsl
      obtain ⟨_, _, _, _, _, hf0⟩ := hc 0 (by omega)
      obtain ⟨_, _, z0, _⟩ := hf0 0 _ rfl
      rw [Nat.zero_mul] at z0
      obtain ⟨b, off, rfl⟩ := plainSpot z0
      simp only [add_plain] at c0 c1 c2 c3
      exact ⟨⟨sc, n1, n2, n3⟩, ⟨b, off, so, cp, rfl, cell_lt c0, c0, c1, c2, c3, hops⟩, int_fits w1, int_fits w2, int_fits w3⟩)
    refine ⟨l, hll, by omega, fun i o hi => (hq i o hi).1, fun o ho => ?_⟩
    obtain ⟨i, hi⟩ := List.getElem?_of_mem ho
    exact (hq i o hi).2
set_option maxRecDepth 100000 in
theorem walLives_lifted (os : Os) (started : os.Started) (H : Type) (enc : TypeId × Value → H) :
    ReturnsInHanded {} Try.checked os 10 .any (Rows.walLivesSpec.pre6 enc Try.prog Try.f10 Rows.walLivesRow.domain false) (Rows.walLivesSpec.post enc Try.prog Try.f10 false true false false) := by
  refine returnsInHanded_of_change_sized (C := Try.checked) Try.own started (by kernel_rfl) Try.func10
    (ChangeSpec.witness6 (enc := enc) (C := Try.checked) false ⟨#[], #[.slice none 0 0], []⟩ 8 (by kernel_rfl) (by kernel_rfl) (by kernel_rfl) (by kernel_rfl)) ?_
  intro W base args ds gs before hval0 hW _ hsz0 _
  have hsz : (DataW.weightsEach Try.prog (Try.f10.params.toList ++ Rows.walLivesSpec.plain.varTypes Try.prog) (ds ++ gs)).all (· ≤ reachBytes) = true := hsz0
  clear hsz0
  have hval : ∀ (j : Nat) t v, Try.f10.params[j]? = some t → args[j]? = some v → Value.okWide Try.prog W .any base t v := hval0
  have hW' := hW
  obtain ⟨p, q, hA0, hV, rfl, _, _⟩ := hW
  have hA : DataW.TrodAll enc Try.prog W 0 (fun _ => true) true Try.f10.params.toList args.toList ds p := hA0
  rw [Try.params10] at hA hval hsz
  obtain ⟨v0, d0, rfl, rfl, h0⟩ := trodAll_one hA
  obtain ⟨rfl, rfl⟩ := trodVars_none hV
  obtain ⟨a0, len, cap, rfl⟩ := okWide_slice Try.underlying77 (hval 0 77 v0 rfl rfl)
  obtain ⟨l, hl, hT⟩ := open_lives hsz (j := 0) rfl rfl h0
  subst hl
  clear hA0 hval0
  simp only [List.append_nil] at hW'
  have hlt0 : ∀ x ∈ p, x.block < W.heap.size := fun x hx => hW'.lt x (by simp [hx])
  refine (walLives_any W a0 cap l hT).mono fun e W' ⟨he, hnx⟩ => ?_
  subst he
  refine ⟨_, rfl, _, _, _, [], p, [], hW', ?_, ?_, rfl, ?_⟩
  · exact trodAll_mk1 (shut_bool Try.underlying4 true)
  · exact trodAll_mk1 (Below.trod Try.laidOut (by kernel_rfl) (of_decide_eq_true (by kernel_rfl)) h0 hnx hlt0)
  · exact ⟨hnx.frame _, fun h => by cases h⟩
theorem walLives_holds : Rows.WalLivesSaid :=
  OpenClaim.holds_of_wide 10 Try.f10 rfl rfl rfl rfl rfl rfl rfl ⟨rfl, rfl, rfl, rfl, rfl⟩ rfl rfl rfl rfl rfl (by kernel_rfl) Try.func10 (by kernel_rfl)
    (of_decide_eq_true (by kernel_rfl)) (by unfold Func.isWrapper; first | (rw [if_pos (by decide +kernel)]; kernel_rfl) | (rw [if_neg (by decide +kernel)]; exact ⟨rfl, rfl⟩))
    (fun os started H enc _ => walLives_lifted os started H enc)
end Go.Proofs.Ytpjpknndfhablaa
