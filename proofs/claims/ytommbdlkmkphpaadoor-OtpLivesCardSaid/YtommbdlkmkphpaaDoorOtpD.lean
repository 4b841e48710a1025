/- otp.steps: the iterator over a window's steps. -/
import Derived.Test.YtommbdlkmkphpaaDoorOtpC
namespace Go.Proofs.YtommbdlkmkphpaaDoor
open Go.RowKit
set_option maxHeartbeats 1000000 in
theorem steps_any (step win : Int) (w : World) :
    Calls Tryd.prog 18 #[.int .i64 step, .int .i64 win] w fun e w' => e = .returned (.func (.func 25) #[] #[.pointer (some ⟨w.heap.size, 0, none⟩), .pointer (some ⟨w.heap.size + 1, 0, none⟩)]) ∧
      w' = (w.alloc (.cells #[.int .i64 step] 3)).alloc (.cells #[.int .i64 win] 3) := by
  go_enter Tryd.func18, Tryd.ntmps18
  go_wp2
  go_ret
  exact ⟨rfl, rfl⟩
end Go.Proofs.YtommbdlkmkphpaaDoor
