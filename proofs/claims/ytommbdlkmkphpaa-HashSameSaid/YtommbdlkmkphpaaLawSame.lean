/- Walk of HashSame. -/
import Derived.Test.YtommbdlkmkphpaaHshW
namespace Go.Proofs.Ytommbdlkmkphpaa
open Go.RowKit
set_option maxHeartbeats 2000000 in
set_option maxRecDepth 100000 in
theorem hashSame_any (a b : List UInt8) (w : World) (ha : a.length ≤ 140737488355328) (hb : b.length ≤ 140737488355328) :
    Calls Try.prog 6 #[.string ⟨a.toArray⟩, .string ⟨b.toArray⟩] w fun e w' => e = .returned (.bool true) ∧ Below w.heap.size w w' := by
  have hl : (a == b) = decide (a = b) := by rw [Bool.eq_iff_iff]; simp
  have HE := Lib.hid hl
  clear hl
  obtain ⟨c, hc⟩ : ∃ c, decide (a = b) = c := ⟨_, rfl⟩
  rw [hc] at HE
  have HC := Lib.hid hc
  clear hc
  go_enter Try.func6, Try.ntmps6
  go_wp2_with fail
  refine (awake_any w).mono ?_
  rintro e w1 ⟨rfl, b1⟩
  have B1 := Lib.hid b1
  clear b1
  go_wp2_with fail
  refine (same_any a b w1 ha hb).mono ?_
  rw [HC.out]
  rintro e w2 ⟨rfl, rfl⟩
  have he := HE.out
  go_wp2_with fail
  refine (same_any a a w1 ha ha).mono ?_
  rw [show decide (a = a) = true from decide_eq_true rfl]
  rintro e w2 ⟨rfl, rfl⟩
  go_wp2_with fail
  go_ret
  exact ⟨rfl, B1.out⟩
end Go.Proofs.Ytommbdlkmkphpaa
