/- Walks of HashSums, HashMacs, HashStretches. -/
import Derived.Test.YtommbdlkmkphpaaHshW
import Derived.Test.YtommbdlkmkphpaaRtI
namespace Go.Proofs.Ytommbdlkmkphpaa
open Go.RowKit
set_option maxHeartbeats 2000000 in
set_option maxRecDepth 100000 in
theorem hashSums_any (l : List UInt8) (w : World) (hl : l.length ≤ 140737488351232) :
    Calls Try.prog 3 #[.string ⟨l.toArray⟩] w fun e w' => e = .returned (.bool true) ∧ Below w.heap.size w w' := by
  obtain ⟨S, hS⟩ : ∃ S, Sha.sum l = S := ⟨_, rfl⟩
  have HS := Lib.hid hS
  clear hS
  go_enter Try.func3, Try.ntmps3
  go_wp2_with fail
  refine (awake_any w).mono ?_
  rintro e w1 ⟨rfl, b1⟩
  have B1 := Lib.hid b1
  clear b1
  go_wp2_with fail
  refine (sum_any l w1 (by omega)).mono ?_
  rw [HS.out]
  rintro e w2 ⟨rfl, b2⟩
  have B2 := Lib.hid (bthen B1.out b2)
  clear b2
  go_wp2_with fail
  refine (rSum_any l w2 (by omega)).mono ?_
  rw [HS.out]
  rintro e w3 ⟨rfl, b3⟩
  have B3 := Lib.hid (bthen B2.out b3)
  clear b3
  go_wp2_with fail
  go_ret
  exact ⟨rfl, B3.out⟩
set_option maxHeartbeats 2000000 in
set_option maxRecDepth 100000 in
theorem hashMacs_any (key s : List UInt8) (w : World) (hk : key.length ≤ 140737488351232) (hs : s.length ≤ 140737488351232) :
    Calls Try.prog 4 #[.string ⟨key.toArray⟩, .string ⟨s.toArray⟩] w fun e w' => e = .returned (.bool true) ∧ Below w.heap.size w w' := by
  obtain ⟨S, hS⟩ : ∃ S, Sha.mac key s = S := ⟨_, rfl⟩
  have HS := Lib.hid hS
  clear hS
  go_enter Try.func4, Try.ntmps4
  go_wp2_with fail
  refine (awake_any w).mono ?_
  rintro e w1 ⟨rfl, b1⟩
  have B1 := Lib.hid b1
  clear b1
  go_wp2_with fail
  refine (mac_any key s w1 (by omega) (by omega)).mono ?_
  rw [HS.out]
  rintro e w2 ⟨rfl, b2⟩
  have B2 := Lib.hid (bthen B1.out b2)
  clear b2
  go_wp2_with fail
  refine (rMac_any key s w2 (by omega) (by omega)).mono ?_
  rw [HS.out]
  rintro e w3 ⟨rfl, b3⟩
  have B3 := Lib.hid (bthen B2.out b3)
  clear b3
  go_wp2_with fail
  go_ret
  exact ⟨rfl, B3.out⟩
set_option maxHeartbeats 2000000 in
set_option maxRecDepth 100000 in
theorem hashStretches_any (pass salt : List UInt8) (r n : Int) (w : World) (hp : pass.length ≤ 140737488351232) (hs : salt.length ≤ 140737488351232) (_hr : -9223372036854775808 ≤ r ∧ r ≤ 9223372036854775807) (_hn : -9223372036854775808 ≤ n ∧ n ≤ 9223372036854775807) :
    Calls Try.prog 5 #[.string ⟨pass.toArray⟩, .string ⟨salt.toArray⟩, .agg #[.int .i64 r, .int .i64 n]] w fun e w' => e = .returned (.bool true) ∧ Below w.heap.size w w' := by
  obtain ⟨S, E, hS⟩ : ∃ S E, Sha.stretch pass salt r n = (S, E) := ⟨_, _, rfl⟩
  have HS := Lib.hid hS
  clear hS
  go_enter Try.func5, Try.ntmps5
  go_wp2_with fail
  have HN0 := Lib.hid (heap_new w (.cells #[.int .i64 r, .int .i64 n] 28))
  refine (stretch_any pass salt r n _ (by omega) (by omega)).mono ?_
  rw [HS.out]
  rintro e w1 ⟨rfl, b1⟩
  have HN1 := Lib.hid (stays HN0.out b1)
  have B1 := Lib.hid (bthen (balloc w _) b1)
  clear b1
  obtain ⟨c0, c1, _, _⟩ := cells2 HN1.out
  go_wp2_with fail
  refine (rstretch_any pass salt r n w1 (by omega) (by omega)).mono ?_
  rw [HS.out]
  rintro e w2 ⟨rfl, b2⟩
  have B2 := Lib.hid (bthen B1.out b2)
  clear b2 c0 c1
  go_wp2_with fail
  refine (awake_any w2).mono ?_
  rintro e w3 ⟨rfl, b3⟩
  have B3 := Lib.hid (bthen B2.out b3)
  clear b3
  go_wp2_with fail
  go_ret
  exact ⟨rfl, B3.out⟩
end Go.Proofs.Ytommbdlkmkphpaa
