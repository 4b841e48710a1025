/- CRC-32 as plain Lean: as the program reckons it and as the document does; both are one. No program in sight. -/
import Derived.Test.YtpjpknndfhablaaShaM
namespace Go.Proofs.Ytpjpknndfhablaa
namespace Crc
def poly : U32 := 0xEDB88320
/-- One bit, the byte mixed in before. -/
def step (r : U32) : U32 := if r &&& 1 = 1 then r >>> 1 ^^^ poly else r >>> 1
def steps : Nat → U32 → U32
  | 0, r => r
  | k + 1, r => step (steps k r)
/-- One bit, mixed in bit by bit: the document's. -/
def bit (r : U32) (b : Bool) : U32 := if (r.getLsbD 0 != b) then r >>> 1 ^^^ poly else r >>> 1
def bits (x : UInt8) : Nat → U32 → U32
  | 0, r => r
  | k + 1, r => bit (bits x k r) (x.toNat.testBit k)
def byte (r : U32) (x : UInt8) : U32 := steps 8 (r ^^^ BitVec.ofNat 32 x.toNat)
def sum (s : List UInt8) : U32 := ~~~ (s.foldl byte 0xffffffff)
def rbyte (r : U32) (x : UInt8) : U32 := bits x 8 r
theorem and_one (r : U32) : (r &&& 1 = 1) ↔ r.getLsbD 0 = true := by
  constructor
  · intro h
    have : (r &&& 1).getLsbD 0 = (1 : U32).getLsbD 0 := by rw [h]
    simpa using this
  · intro h
    apply BitVec.eq_of_getLsbD_eq
    intro i hi
    rw [BitVec.getLsbD_and]
    cases i with
    | zero => rw [h]; rfl
    | succ i =>
      have : (1 : U32).getLsbD (i + 1) = false := by
        rw [show (1 : U32) = BitVec.ofNat 32 1 from rfl, BitVec.getLsbD_ofNat, Nat.testBit_succ]
        simp
      rw [this]; simp
theorem steps_bits (r : U32) (x : UInt8) (k : Nat) : steps k (r ^^^ BitVec.ofNat 32 x.toNat) = bits x k r ^^^ (BitVec.ofNat 32 x.toNat >>> k) := by
  induction k with
  | zero => simp [steps, bits]
  | succ k ih =>
    rw [steps, ih, bits]
    generalize bits x k r = q
    have hb : (BitVec.ofNat 32 x.toNat >>> k).getLsbD 0 = x.toNat.testBit k := by
      rw [BitVec.getLsbD_ushiftRight, BitVec.getLsbD_ofNat, Nat.add_zero]
      by_cases hk : k < 32
      · simp [hk]
      · have : x.toNat.testBit k = false := Nat.testBit_lt_two_pow (Nat.lt_of_lt_of_le x.toNat_lt (Nat.pow_le_pow_right (by decide) (by omega)))
        simp [this]
    have hs : (BitVec.ofNat 32 x.toNat) >>> (k + 1) = (BitVec.ofNat 32 x.toNat >>> k) >>> 1 := by rw [← BitVec.shiftRight_add]
    rw [hs]
    generalize BitVec.ofNat 32 x.toNat >>> k = y at hb ⊢
    unfold step bit
    simp only [and_one, BitVec.getLsbD_xor, hb, BitVec.ushiftRight_xor_distrib]
    split
    · rw [BitVec.xor_assoc, BitVec.xor_comm (y >>> 1), ← BitVec.xor_assoc]
    · rfl
theorem byte_eq : byte = rbyte := by
  funext r x
  rw [byte, steps_bits, rbyte]
  have : BitVec.ofNat 32 x.toNat >>> 8 = 0 := by
    apply BitVec.eq_of_toNat_eq
    have := x.toNat_lt
    simp [BitVec.toNat_ushiftRight, Nat.shiftRight_eq_div_pow]
    omega
  rw [this]; simp
theorem sum_check : sum [49, 50, 51, 52, 53, 54, 55, 56, 57] = 0xCBF43926 := by decide +kernel
end Crc
end Go.Proofs.Ytpjpknndfhablaa
