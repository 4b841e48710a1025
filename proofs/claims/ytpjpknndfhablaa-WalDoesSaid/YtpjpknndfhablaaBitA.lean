/- Words and bytes in the walk's spelling. -/
import Derived.Test.YtpjpknndfhablaaRefF
import Derived.Test.YtpjpknndfhablaaShaM
import Derived.Handy
import Derived.Lib.EndianBits
import Derived.Laws.BitsAllLaws
import Derived.RegionTactic
import Derived.BigRegion
namespace Go.Proofs.Ytpjpknndfhablaa
open Go.RowKit

section
variable (x y : U32)
theorem x_ofInt : BitVec.ofInt 32 (x.toNat : Int) = x := by simp
theorem x_wrap (n : Nat) : IntKind.u32.wrap (n : Int) = ((BitVec.ofNat 32 n).toNat : Int) := by rw [IntKind.wrap_u32, BitVec.toNat_ofNat]; omega
theorem x_bits (f : U32 → U32 → U32) (z : U32) (h : z = f x y) : IntKind.u32.wrap ((f (BitVec.ofInt 32 (x.toNat : Int)) (BitVec.ofInt 32 (y.toNat : Int))).toNat : Int) = (z.toNat : Int) := by
  rw [x_ofInt, x_ofInt, x_wrap, h]; simp
theorem x_xor : bits .xor .u32 (x.toNat : Int) (y.toNat : Int) = ((x ^^^ y).toNat : Int) := x_bits x y (· ^^^ ·) _ rfl
theorem x_and : bits .and .u32 (x.toNat : Int) (y.toNat : Int) = ((x &&& y).toNat : Int) := x_bits x y (· &&& ·) _ rfl
theorem x_or : bits .or .u32 (x.toNat : Int) (y.toNat : Int) = ((x ||| y).toNat : Int) := x_bits x y (· ||| ·) _ rfl
theorem x_add : ((x.toNat : Int) + (y.toNat : Int)) % (4294967296 : Int) = ((x + y).toNat : Int) := by rw [BitVec.toNat_add]; omega
theorem x_add4 (a b c d : U32) : ((a.toNat : Int) + (b.toNat : Int) + (c.toNat : Int) + (d.toNat : Int)) % (4294967296 : Int) = ((a + b + c + d).toNat : Int) := by
  simp only [BitVec.toNat_add]; omega
theorem x_add5 (a b c d e : U32) : ((a.toNat : Int) + (b.toNat : Int) + (c.toNat : Int) + (d.toNat : Int) + (e.toNat : Int)) % (4294967296 : Int) = ((a + b + c + d + e).toNat : Int) := by
  simp only [BitVec.toNat_add]; omega
theorem x_addw : IntKind.u32.wrap ((x.toNat : Int) + (y.toNat : Int)) = ((x + y).toNat : Int) := by rw [IntKind.wrap_u32]; exact x_add x y
theorem x_not : bits .xor .u32 4294967295 (x.toNat : Int) = ((~~~x).toNat : Int) := by
  have h := x_xor (BitVec.allOnes 32) x
  rw [BitVec.allOnes_xor] at h
  exact h
theorem x_shr3 : (x.toNat : Int) / (8 : Int) = ((x >>> 3).toNat : Int) := by rw [BitVec.toNat_ushiftRight, Nat.shiftRight_eq_div_pow]; rfl
theorem x_shr10 : (x.toNat : Int) / (1024 : Int) = ((x >>> 10).toNat : Int) := by rw [BitVec.toNat_ushiftRight, Nat.shiftRight_eq_div_pow]; rfl
theorem x_shr (n : Nat) : (x.toNat : Int) / 2 ^ n = ((x >>> n).toNat : Int) := by
  rw [BitVec.toNat_ushiftRight, Nat.shiftRight_eq_div_pow, Int.natCast_ediv, Int.natCast_pow]; rfl
theorem x_shl (n : Nat) : ((x.toNat : Int) * 2 ^ n) % (4294967296 : Int) = ((x <<< n).toNat : Int) := by
  rw [BitVec.toNat_shiftLeft, Nat.shiftLeft_eq, Int.natCast_emod, Int.natCast_mul, Int.natCast_pow]; rfl
theorem x_lt : (x.toNat : Int) < 4294967296 := by have := x.isLt; omega
end
theorem x_not' (e : U32) : bits .xor .u32 (if IntKind.u32.signed = true then -1 else IntKind.u32.max) (e.toNat : Int) = ((~~~e).toNat : Int) := x_not e
theorem u64_or_low (n b : Nat) (hn : n * 256 < 18446744073709551616) (hb : b < 256) : bits .or .u64 ((n : Int) * 256) (b : Int) = ((n * 256 + b : Nat) : Int) := by
  have e : bits .or .u64 ((n : Int) * 256) (b : Int) = bits .or .u64 (b : Int) ((n : Int) * 256) := by simp [bits, BitVec.or_comm]
  rw [e, u64_or8 _ _ (by omega) (by omega) (by omega) (by omega) (by omega)]
  omega
namespace Sha
theorem val_lt (l : List UInt8) : val l < 256 ^ l.length := by
  have key : ∀ (l : List UInt8) (n m : Nat), n < 256 ^ m → l.foldl (fun n b => n * 256 + b.toNat) n < 256 ^ (m + l.length) := by
    intro l
    induction l with
    | nil => intro n m h; simpa using h
    | cons b l ih =>
      intro n m h
      simp only [List.foldl_cons, List.length_cons]
      rw [show m + (l.length + 1) = (m + 1) + l.length by omega]
      refine ih _ _ ?_
      have := b.toNat_lt
      rw [Nat.pow_succ]; omega
  simpa [val] using key l 0 0 (by simp)
theorem val_snoc (l : List UInt8) (b : UInt8) : val (l ++ [b]) = val l * 256 + b.toNat := by simp [val]
theorem big_take (n k j : Nat) (h : j < k) : (big n k).take (j + 1) = (big n k).take j ++ [UInt8.ofNat (n / 256 ^ (k - 1 - j))] := by
  induction k generalizing n with
  | zero => omega
  | succ k ih =>
    simp only [big]
    by_cases hj : j < k
    · rw [List.take_append_of_le_length (by rw [big_length]; omega), List.take_append_of_le_length (by rw [big_length]; omega), ih _ hj, Nat.div_div_eq_div_mul, ← Nat.pow_succ']
      rw [show (k - 1 - j).succ = k + 1 - 1 - j by omega]
    · obtain rfl : j = k := by omega
      have hl := big_length (n / 256) j
      rw [List.take_of_length_le (by simp [hl]), List.take_append_of_le_length (by omega), List.take_of_length_le (by omega)]
      simp
end Sha
theorem u8_big (n m : Nat) : ((n : Int) / 2 ^ (8 * m) % 256) = ((UInt8.ofNat (n / 256 ^ m)).toNat : Int) := by
  rw [UInt8.toNat_ofNat', show (256 : Nat) ^ m = 2 ^ (8 * m) by rw [Nat.pow_mul], Int.natCast_emod, Int.natCast_ediv, Int.natCast_pow]; rfl
end Go.Proofs.Ytpjpknndfhablaa
