/- Whatever texts: WalRooms answers true, and each argument reads afterwards as it read before. No condition. -/
import Derived.Test.YtpjpknndfhablaaRoomW
namespace Go.Proofs.Ytpjpknndfhablaa
open Go.ChangeShapes Go.WideShapes Go.ChangeAt Go.RowKit Go.Deep
theorem open_texts {H : Type} {enc : TypeId × Value → H} {W : World} {sp : Nat → Bool} {held : Bool} {ts : List TypeId} {ds : List (DataW H)} (hsz : (DataW.weightsEach Try.prog ts ds).all (· ≤ reachBytes) = true) {j : Nat} {a0 : Option Addr} {len cap : Nat} {d : DataW H} {p : List MemPlace}
    (ht : ts[j]? = some 22) (hd : ds[j]? = some d) (h : DataW.Trod enc Try.prog W 0 sp held 22 (.slice a0 len cap) d p) :
    ∃ l, l.length = len ∧ Texts W a0 l ∧ ∀ s ∈ l, s.length ≤ 140737488355328 := by
  obtain ⟨fuel, hf⟩ := h
  rcases open_strings Try.underlying22 Try.underlying9 Try.cellsText hf with ⟨hcs, _⟩ | ⟨a, len', cap', ss, hcs, _, hl, hm, hn, hx, hc, _⟩
  · simp [Value.cells] at hcs
    obtain ⟨rfl, rfl, rfl⟩ := hcs
    exact ⟨[], rfl, ⟨by simp, by simp⟩, fun s hs => by cases hs⟩
  · simp [Value.cells] at hcs
    obtain ⟨rfl, rfl, rfl⟩ := hcs
    simp only [Prod.mk.injEq] at hx
    obtain ⟨rfl, _⟩ := hx
    have hle : len ≤ ss.length := by rw [hn]; split <;> omega
    have hs : ∀ s ∈ ss.take len, s.data.toList.length ≤ 140737488355328 := fun s hs => by
      have : s.data.toList.length ≤ reachBytes := by
        refine of_decide_eq_true (List.all_eq_true.1 hsz _ (DataW.weights_mem_each ht hd _ ?_))
        simp only [DataW.weights, Try.underlying22, List.mem_cons, List.mem_append]
        refine Or.inr (Or.inl (weightsAll_mem (x := .lit (.string s.data.toList)) (List.mem_map.2 ⟨s, hs, rfl⟩) _ ?_))
        simp [DataW.weights]
      exact Nat.le_trans this (by simp [reachBytes])
    refine ⟨(ss.take len).map (·.data.toList), by simp; omega, ⟨by simp only [List.length_map, List.length_take]; simp [maxLen] at hm; omega, fun i s hi => ?_⟩, fun s hi => ?_⟩
    · rw [List.getElem?_map, List.getElem?_take] at hi
      split at hi
      case isTrue hil =>
        have hb := hc i (by omega)
        rw [List.getElem?_eq_getElem (by omega)] at hi
        simp at hi
        subst hi
        obtain ⟨b, off, rfl⟩ := plainSpot (hc 0 (by omega))
        refine ⟨b, off, rfl, ?_⟩
        rw [← add_plain, hb]
        simp [List.getD, List.getElem?_eq_getElem (show i < ss.length by omega)]
      case isFalse => cases hi
    · obtain ⟨s', hs', rfl⟩ := List.mem_map.1 hi
      exact hs s' hs'
set_option maxRecDepth 100000 in
theorem walRooms_lifted (os : Os) (started : os.Started) (H : Type) (enc : TypeId × Value → H) :
    ReturnsInHanded {} Try.checked os 8 .any (Rows.walRoomsSpec.pre6 enc Try.prog Try.f8 Rows.walRoomsRow.domain false) (Rows.walRoomsSpec.post enc Try.prog Try.f8 false true false false) := by
  refine returnsInHanded_of_change_sized (C := Try.checked) Try.own started (by kernel_rfl) Try.func8
    (ChangeSpec.witness6 (enc := enc) (C := Try.checked) false ⟨#[], #[.slice none 0 0], []⟩ 8 (by kernel_rfl) (by kernel_rfl) (by kernel_rfl) (by kernel_rfl)) ?_
  intro W base args ds gs before hval0 hW _ hsz0 _
  have hsz : (DataW.weightsEach Try.prog (Try.f8.params.toList ++ Rows.walRoomsSpec.plain.varTypes Try.prog) (ds ++ gs)).all (· ≤ reachBytes) = true := hsz0
  clear hsz0
  have hval : ∀ (j : Nat) t v, Try.f8.params[j]? = some t → args[j]? = some v → Value.okWide Try.prog W .any base t v := hval0
  have hW' := hW
  obtain ⟨p, q, hA0, hV, rfl, _, _⟩ := hW
  have hA : DataW.TrodAll enc Try.prog W 0 (fun _ => true) true Try.f8.params.toList args.toList ds p := hA0
  rw [Try.params8] at hA hval hsz
  obtain ⟨v0, d0, rfl, rfl, h0⟩ := trodAll_one hA
  obtain ⟨rfl, rfl⟩ := trodVars_none hV
  obtain ⟨a0, len, cap, rfl⟩ := okWide_slice Try.underlying22 (hval 0 22 v0 rfl rfl)
  obtain ⟨l, hl, hT, hT2⟩ := open_texts hsz (j := 0) rfl rfl h0
  subst hl
  clear hA0 hval0
  simp only [List.append_nil] at hW'
  have hlt0 : ∀ x ∈ p, x.block < W.heap.size := fun x hx => hW'.lt x (by simp [hx])
  refine (walRooms_any W a0 cap l hT hT2).mono fun e W' ⟨he, hnx⟩ => ?_
  subst he
  refine ⟨_, rfl, _, _, _, [], p, [], hW', ?_, ?_, rfl, ?_⟩
  · exact trodAll_mk1 (shut_bool Try.underlying4 true)
  · exact trodAll_mk1 (Below.trod Try.laidOut (by kernel_rfl) (of_decide_eq_true (by kernel_rfl)) h0 hnx hlt0)
  · exact ⟨hnx.frame _, fun h => by cases h⟩
theorem walRooms_holds : Rows.WalRoomsSaid :=
  OpenClaim.holds_of_wide 8 Try.f8 rfl rfl rfl rfl rfl rfl rfl ⟨rfl, rfl, rfl, rfl, rfl⟩ rfl rfl rfl rfl rfl (by kernel_rfl) Try.func8 (by kernel_rfl)
    (of_decide_eq_true (by kernel_rfl)) (by unfold Func.isWrapper; first | (rw [if_pos (by decide +kernel)]; kernel_rfl) | (rw [if_neg (by decide +kernel)]; exact ⟨rfl, rfl⟩))
    (fun os started H enc _ => walRooms_lifted os started H enc)
end Go.Proofs.Ytpjpknndfhablaa
