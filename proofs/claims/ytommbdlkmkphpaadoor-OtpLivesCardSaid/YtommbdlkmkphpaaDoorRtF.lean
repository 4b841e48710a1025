/- Walks of the document's side of chapter 04: ror, four. -/
import Derived.Test.YtommbdlkmkphpaaDoorRtE
import Derived.Test.YtommbdlkmkphpaaDoorHshN
namespace Go.Proofs.YtommbdlkmkphpaaDoor
open Go.RowKit
set_option maxHeartbeats 1000000 in
theorem rror_any (x : U32) (n : Nat) (w : World) (h0 : 1 ≤ n) (h1 : n ≤ 31) :
    Calls Tryd.prog 46 #[.int .u32 x.toNat, .int .i64 n] w fun e w' => e = .returned (.int .u32 (Sha.ror x n).toNat) ∧ ∃ k, w' = w.drewN k := by
  have hx := x_lt x
  have e1 : IntKind.i64.wrap (32 - (n : Int)) = 32 - (n : Int) := IntWalk.i64_in _ (by omega)
  have e2 : (0 : Int) ≤ 32 - (n : Int) := by omega
  have e3 : (32 - (n : Int)).toNat = 32 - n := by omega
  have e4 : ¬ (32 < (n : Int)) := by omega
  go_enter Tryd.func46, Tryd.ntmps46
  go_wp2_with fail
  go_quiet (fail)
  go_wp2_with fail
  go_ret
  refine ⟨ret_int ?_, nq, rfl⟩
  rw [x_shl, x_shr, x_or]
  rfl
theorem big4 (n : Nat) (h : n < 4294967296) : bytesOf (Sha.big n 4) = [.int .u8 ((n : Int) / 16777216), .int .u8 ((n : Int) / 65536 % 256), .int .u8 ((n : Int) / 256 % 256), .int .u8 ((n : Int) % 256)] := by
  have e : Sha.big n 4 = [UInt8.ofNat (n / 256 / 256 / 256), UInt8.ofNat (n / 256 / 256), UInt8.ofNat (n / 256), UInt8.ofNat n] := rfl
  rw [e]
  simp only [bytesOf, List.map_cons, List.map_nil, UInt8.toNat_ofNat']
  have h1 : (((n / 256 / 256 / 256) % 2 ^ 8 : Nat) : Int) = (n : Int) / 16777216 := by omega
  have h2 : (((n / 256 / 256) % 2 ^ 8 : Nat) : Int) = (n : Int) / 65536 % 256 := by omega
  have h3 : (((n / 256) % 2 ^ 8 : Nat) : Int) = (n : Int) / 256 % 256 := by omega
  have h4 : ((n % 2 ^ 8 : Nat) : Int) = (n : Int) % 256 := by omega
  rw [h1, h2, h3, h4]
set_option maxHeartbeats 1000000 in
theorem four_any (x : U32) (w : World) : Calls Tryd.prog 45 #[.int .u32 x.toNat] w fun e w' => e = .returned (.slice (some ⟨w.heap.size, 0, none⟩) 4 4) ∧ RowV w' w.heap.size (bytesOf (Sha.big x.toNat 4)) ∧ Below w.heap.size w w' := by
  have hx := x_lt x
  go_enter Tryd.func45, Tryd.ntmps45
  go_wp2_with fail
  go_ret
  refine ⟨rfl, ?_, balloc _ _⟩
  rw [big4 _ x.isLt]
  exact RowV.block (heap_new w _)
end Go.Proofs.YtommbdlkmkphpaaDoor
