/- The document's log: Copy, New. -/
import Derived.Test.YtpjpknndfhablaaRlogC
namespace Go.Proofs.Ytpjpknndfhablaa
open Go.RowKit
set_option maxHeartbeats 2000000 in
set_option maxRecDepth 100000 in
theorem rcopyL_any (x y y' : Nat) (w : World) (l : Wal.LS) (hl : RlogAt w x y l) :
    Calls Try.prog 53 #[.pointer (some ⟨x, 0, none⟩), .pointer (some ⟨y', 0, none⟩)] w fun e w' => ∃ x', e = .returned (.pointer (some ⟨x', 0, none⟩)) ∧ w.heap.size ≤ x' ∧ RlogAt w' x' y' l ∧ Below w.heap.size w w' := by
  obtain ⟨c0, c1, c2, c3, c4, _, hlt⟩ := hl.cells
  go_enter Try.func53, Try.ntmps53
  go_wp2_with fail
  go_ret
  exact ⟨w.heap.size, rfl, Nat.le_refl _, heap_new w _, balloc _ _⟩
end Go.Proofs.Ytpjpknndfhablaa
