/- Work that the power may break off: face, and its deferred closure. -/
import Derived.Test.YtpjpknndfhablaaWalF
namespace Go.Proofs.Ytpjpknndfhablaa
open Go.RowKit
section
variable {P : Program} {ol tl : List Oper} {Q : Exit → Act → List Frame → World → Prop} {i : Nat} {rest : List Nat} {a : Act} {cs : List Frame} {w w' : World} {o : Oper}
/-- One operation of a deferred function's region that yields a value. -/
theorem wpOpsS_value {v : Value} (hi : ol.drop i = o :: tl) (hw : Region.wanted o (yielded ol.toArray a.tmps) = true) (hr : (execOp a.eval o).run P w = .ok (.value v) w') (h : wpOpsS P ol.toArray Q rest (a.put o.dst v) cs w') : wpOpsS P ol.toArray Q (i :: rest) a cs w := by
  simp only [wpOpsS, at_drop hi, hw, if_true, hr]
  exact h
theorem wpOpsS_skip (hi : ol.drop i = o :: tl) (hw : Region.wanted o (yielded ol.toArray a.tmps) = true) (hr : (execOp a.eval o).run P w = .ok .skip w') (h : wpOpsS P ol.toArray Q rest (a.put o.dst undef) cs w') : wpOpsS P ol.toArray Q (i :: rest) a cs w := by
  simp only [wpOpsS, at_drop hi, hw, if_true, hr]
  exact h
/-- recover, where the frame below panics. -/
theorem wpOpsS_recover {v : Value} {cs' : List Frame} (hi : ol.drop i = o :: tl) (hw : Region.wanted o (yielded ol.toArray a.tmps) = true) (hr : (execOp a.eval o).run P w = .ok .recover w') (hc : recoverD cs = some (v, cs')) (h : wpOpsS P ol.toArray Q rest (a.put o.dst v) cs' w') : wpOpsS P ol.toArray Q (i :: rest) a cs w := by
  simp only [wpOpsS, at_drop hi, hw, if_true, hr, hc]
  exact h
theorem wpOpsS_idle (hi : ol.drop i = o :: tl) (hw : Region.wanted o (yielded ol.toArray a.tmps) = true) (hr : (execOp a.eval o).run P w = .ok .recover w') (hc : recoverD cs = none) (h : wpOpsS P ol.toArray Q rest (a.put o.dst .nilIface) cs w') : wpOpsS P ol.toArray Q (i :: rest) a cs w := by
  simp only [wpOpsS, at_drop hi, hw, if_true, hr, hc]
  exact h
theorem wpS_regionL {id : Nat} (h : wpOpsS P ol.toArray Q (List.range ol.length) a cs w) : (Code.region id ol.toArray false).wpS P Q a cs w := wpS_region (by simpa using h)
end
theorem assert_gone (w : World) : (Instr.typeAssert goneV 20 133 true).run Try.prog w = .ok (.tuple #[.agg #[], .bool true]) w := by kernel_rfl
theorem assert_nil (w : World) : (Instr.typeAssert .nilIface 20 133 true).run Try.prog w = .ok (.tuple #[.agg #[], .bool false]) w := by kernel_rfl
set_option maxHeartbeats 2000000 in
set_option maxRecDepth 100000 in
theorem catch_gone (b0 b1 x c : Nat) (l : Wal.LS) (w : World) (v : Value) (older : List PanicEntry) (h0 : w.cell? ⟨b0, 0, none⟩ = some (.pointer (some ⟨x, 0, none⟩))) (hl : LogAt w x c l) (h1 : w.cell? ⟨b1, 0, none⟩ = some v) (hz : w.frozen? ⟨b1, 0, none⟩ = false) (_hne : b1 ≠ x) :
    CallsD Try.prog 99 #[.pointer (some ⟨b0, 0, none⟩), .pointer (some ⟨b1, 0, none⟩)] (.panicking ({ v := goneV, recovered := false } :: older)) w fun e u' w' =>
      e = .returned (.tuple #[]) ∧ u' = .panicking ({ v := goneV, recovered := true } :: older) ∧ w' = ((w.alloc (.cells #[] 133)).setCell ⟨x, 4, none⟩ (.bool true)).setCell ⟨b1, 0, none⟩ (.int .i64 2) := by
  obtain ⟨_, _, _, _, c4, cf, _⟩ := hl.cells
  have cf4 := cf 4
  refine callsD_of_wpS Try.func99 rfl fun c₀ cs hu => ?_
  simp only [Try.ntmps99, List.size_toArray, List.length_cons, List.length_nil, Nat.reduceAdd, Nat.reduceSub, Array.replicate_succ, Array.replicate_zero, List.push_toArray, List.append_toArray, List.nil_append, List.cons_append]
  apply wpS_seq
  refine wpS_regionL ?_
  refine wpOpsS_recover (i := 0) (w' := w) rfl (by rfl) (by rfl) (v := goneV) (cs' := { c₀ with mode := .panicking ({ v := goneV, recovered := true } :: older) } :: cs) (by simp only [recoverD, hu]) ?_
  try simp only [Act.put, List.setIfInBounds_toArray, List.set_cons_zero, List.set_cons_succ]
  refine wpOpsS_value (i := 1) (w' := w) (v := .tuple #[.agg #[], .bool true]) rfl (by rfl) (by kernel_rfl) ?_
  try simp only [Act.put, List.setIfInBounds_toArray, List.set_cons_zero, List.set_cons_succ]
  refine wpOpsS_value (i := 2) (w' := w) (v := .tuple #[.agg #[], .bool true]) rfl (by rfl) (by rfl) ?_
  try simp only [Act.put, List.setIfInBounds_toArray, List.set_cons_zero, List.set_cons_succ]
  refine wpOpsS_value (i := 3) (w' := w) (v := .agg #[]) rfl (by rfl) (by rfl) ?_
  try simp only [Act.put, List.setIfInBounds_toArray, List.set_cons_zero, List.set_cons_succ]
  refine wpOpsS_value (i := 4) (w' := w) (v := .bool true) rfl (by rfl) (by rfl) ?_
  try simp only [Act.put, List.setIfInBounds_toArray, List.set_cons_zero, List.set_cons_succ]
  refine wpOpsS_value (i := 5) (w' := w.alloc (.cells #[] 133)) (v := .pointer (some ⟨w.heap.size, 0, none⟩)) rfl (by rfl) (by kernel_rfl) ?_
  try simp only [Act.put, List.setIfInBounds_toArray, List.set_cons_zero, List.set_cons_succ]
  refine wpOpsS_skip (i := 6) (w' := w.alloc (.cells #[] 133)) rfl (by rfl) (by kernel_rfl) ?_
  try simp only [Act.put]
  refine wpOpsS_value (i := 7) (w' := w.alloc (.cells #[] 133)) (v := .bool true) rfl (by rfl) (by rfl) ?_
  try simp only [Act.put, List.setIfInBounds_toArray, List.set_cons_zero, List.set_cons_succ]
  have hb := balloc w (.cells #[] 133)
  have h0' := cell_later hb h0
  have h1' := cell_later hb h1
  have hl' := hl.below hb
  obtain ⟨_, _, _, _, c4', cf', _⟩ := hl'.cells
  have cf4' := cf' 4
  have hz' : (w.alloc (.cells #[] 133)).frozen? ⟨b1, 0, none⟩ = false := (hb.frozen (p := ⟨b1, 0, none⟩) (World.block_lt_of_cell? _ _ h1)).trans hz
  obtain ⟨W1, hW1⟩ : ∃ W1, w.alloc (.cells #[] 133) = W1 := ⟨_, rfl⟩
  rw [hW1] at h0' h1' c4' cf4' hz' ⊢
  have h1'' : (W1.setCell ⟨x, 4, none⟩ (.bool true)).cell? ⟨b1, 0, none⟩ = some v := by
    rw [World.cell?_setCell_other _ _ _ _ (by intro h; simp only [Addr.mk.injEq] at h; omega)]; exact h1'
  have hz'' : (W1.setCell ⟨x, 4, none⟩ (.bool true)).frozen? ⟨b1, 0, none⟩ = false := by rw [World.frozen?_setCell]; exact hz'
  clear hW1 hb h0 h1 hz hl hl' cf cf' c4 cf4
  change Code.wpS _ _ _ _ _ _
  refine wpS_of_wp ?_
  go_wp2
  exact ⟨rfl, _, rfl, _, results_none rfl _ _ _, rfl, rfl, rfl⟩
set_option maxHeartbeats 2000000 in
set_option maxRecDepth 100000 in
theorem catch_idle (b0 b1 : Nat) (w : World) :
    CallsD Try.prog 99 #[.pointer (some ⟨b0, 0, none⟩), .pointer (some ⟨b1, 0, none⟩)] .returning w fun e u' w' => e = .returned (.tuple #[]) ∧ u' = .returning ∧ w' = w.alloc (.cells #[] 133) := by
  refine callsD_of_wpS Try.func99 rfl fun c₀ cs hu => ?_
  simp only [Try.ntmps99, List.size_toArray, List.length_cons, List.length_nil, Nat.reduceAdd, Nat.reduceSub, Array.replicate_succ, Array.replicate_zero, List.push_toArray, List.append_toArray, List.nil_append, List.cons_append]
  apply wpS_seq
  refine wpS_regionL ?_
  refine wpOpsS_idle (i := 0) (w' := w) rfl (by rfl) (by rfl) (by simp only [recoverD, hu]) ?_
  try simp only [Act.put, List.setIfInBounds_toArray, List.set_cons_zero, List.set_cons_succ]
  refine wpOpsS_value (i := 1) (w' := w) (v := .tuple #[.agg #[], .bool false]) rfl (by rfl) (by kernel_rfl) ?_
  try simp only [Act.put, List.setIfInBounds_toArray, List.set_cons_zero, List.set_cons_succ]
  refine wpOpsS_value (i := 2) (w' := w) (v := .tuple #[.agg #[], .bool false]) rfl (by rfl) (by rfl) ?_
  try simp only [Act.put, List.setIfInBounds_toArray, List.set_cons_zero, List.set_cons_succ]
  refine wpOpsS_value (i := 3) (w' := w) (v := .agg #[]) rfl (by rfl) (by rfl) ?_
  try simp only [Act.put, List.setIfInBounds_toArray, List.set_cons_zero, List.set_cons_succ]
  refine wpOpsS_value (i := 4) (w' := w) (v := .bool false) rfl (by rfl) (by rfl) ?_
  try simp only [Act.put, List.setIfInBounds_toArray, List.set_cons_zero, List.set_cons_succ]
  refine wpOpsS_value (i := 5) (w' := w.alloc (.cells #[] 133)) (v := .pointer (some ⟨w.heap.size, 0, none⟩)) rfl (by rfl) (by kernel_rfl) ?_
  try simp only [Act.put, List.setIfInBounds_toArray, List.set_cons_zero, List.set_cons_succ]
  refine wpOpsS_skip (i := 6) (w' := w.alloc (.cells #[] 133)) rfl (by rfl) (by kernel_rfl) ?_
  try simp only [Act.put]
  refine wpOpsS_value (i := 7) (w' := w.alloc (.cells #[] 133)) (v := .bool false) rfl (by rfl) (by rfl) ?_
  try simp only [Act.put, List.setIfInBounds_toArray, List.set_cons_zero, List.set_cons_succ]
  change Code.wpS _ _ _ _ _ _
  refine wpS_of_wp ?_
  go_wp2
  cases c₀
  simp only at hu
  subst hu
  exact ⟨rfl, _, rfl, _, results_none rfl _ _ _, rfl, rfl, rfl⟩
end Go.Proofs.Ytpjpknndfhablaa
