/- Walk of keys. -/
import Derived.Test.YtommbdlkmkphpaaDoorHshA
namespace Go.Proofs.YtommbdlkmkphpaaDoor
open Go.RowKit
/-- A new block, its cells under a name. -/
theorem alloc_abs {K : Act → World → Prop} {a : Act} {w : World} {cs : Array Value} {t : TypeId} (h : ∀ w1, Below w.heap.size w w1 → w1.heap[w.heap.size]? = some (.cells cs t (0, 0)) → w1.heap.size = w.heap.size + 1 → K a w1) : K a (w.alloc (.cells cs t)) :=
  h _ (balloc _ _) (heap_new _ _) (by simp)
set_option maxHeartbeats 1000000 in
set_option maxRecDepth 100000 in
theorem keys_any (w : World) : Calls Tryd.prog 27 #[] w fun e w' => e = .returned (.agg (wcells Sha.K).toArray) ∧ Below w.heap.size w w' := by
  go_enter Tryd.func27, Tryd.ntmps27
  iterate 5 go_step
  refine alloc_abs ?_
  intro w1 hb hn hs
  have HB := Lib.hid hb
  have HS := Lib.hid hs
  have HN := Lib.hid hn
  clear hb hs hn
  iterate 6 go_step
  refine wpList_build_eq rfl 49 _ rfl (wcells Sha.K).toArray (by kernel_rfl) ?_
  refine wpList_store_row rfl 49 (.tmp 0) (.tmp 1) rfl w.heap.size (wcells Sha.K).toArray rfl rfl 49 _ HN.out Tryd.keysSize (by kernel_rfl) (by kernel_rfl) ?_
  go_wp2_with fail
  have hn := setRow_heap (cs := (wcells Sha.K).toArray) HN.out
  refine bodyPost_ret (v := .agg (wcells Sha.K).toArray) (results_cell_row Tryd.results27 _ _ w.heap.size _ _ _ _ rfl hn Tryd.underlying49 rfl Tryd.keysSize) rfl ⟨rfl, ?_⟩
  exact HB.out.trans ((setRow_touch w1 w.heap.size _).below HB.out.size (fun k hk e => by omega))
end Go.Proofs.YtommbdlkmkphpaaDoor
