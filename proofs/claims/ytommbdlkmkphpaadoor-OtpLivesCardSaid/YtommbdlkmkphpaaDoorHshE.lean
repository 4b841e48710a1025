/- Walk of Same. -/
import Derived.Test.YtommbdlkmkphpaaDoorHshA
import Derived.Test.YtommbdlkmkphpaaDoorHshP
namespace Go.Proofs.YtommbdlkmkphpaaDoor
open Go.RowKit

theorem ofInt_64 (a : Nat) (ha : a < 9223372036854775808) : (BitVec.ofInt 64 (a : Int)).toNat = a := by
  rw [BitVec.ofInt_natCast, BitVec.toNat_ofNat]; exact Nat.mod_eq_of_lt (by omega)
theorem i64_or_nat (a b : Nat) (ha : a < 9223372036854775808) (hb : b < 9223372036854775808) : bits .or .i64 (a : Int) (b : Int) = ((a ||| b : Nat) : Int) := by
  have hx : a ||| b < 2 ^ 63 := Nat.or_lt_two_pow (by omega) (by omega)
  show IntKind.i64.wrap ((BitVec.ofInt 64 (a : Int) ||| BitVec.ofInt 64 (b : Int)).toNat : Int) = _
  rw [BitVec.toNat_or, ofInt_64 a ha, ofInt_64 b hb]
  exact IntWalk.i64_in _ (by omega)
theorem i64_xor_nat (a b : Nat) (ha : a < 9223372036854775808) (hb : b < 9223372036854775808) : bits .xor .i64 (a : Int) (b : Int) = ((a ^^^ b : Nat) : Int) := by
  have hx : a ^^^ b < 2 ^ 63 := Nat.xor_lt_two_pow (by omega) (by omega)
  show IntKind.i64.wrap ((BitVec.ofInt 64 (a : Int) ^^^ BitVec.ofInt 64 (b : Int)).toNat : Int) = _
  rw [BitVec.toNat_xor, ofInt_64 a ha, ofInt_64 b hb]
  exact IntWalk.i64_in _ (by omega)
theorem u8_xor' (x y : UInt8) : bits .xor .u8 (x.toNat : Int) (y.toNat : Int) = ((x ^^^ y).toNat : Int) := by
  have hx : BitVec.ofInt 8 (x.toNat : Int) = x.toBitVec := by simp
  have hy : BitVec.ofInt 8 (y.toNat : Int) = y.toBitVec := by simp
  show IntKind.u8.wrap ((BitVec.ofInt 8 (x.toNat : Int) ^^^ BitVec.ofInt 8 (y.toNat : Int)).toNat : Int) = _
  rw [hx, hy, ← UInt8.toBitVec_xor, IntKind.wrap_u8]
  have := (x ^^^ y).toNat_lt
  show ((x ^^^ y).toNat : Int) % 256 = _
  omega
theorem same_step (m : Nat) (x y : UInt8) (hm : m < 9223372036854775808) : bits .or .i64 (m : Int) (wrap64 (bits .xor .u8 (x.toNat : Int) (y.toNat : Int))) = ((m ||| (x ^^^ y).toNat : Nat) : Int) := by
  have h := (x ^^^ y).toNat_lt
  have e : wrap64 ((x ^^^ y).toNat : Int) = ((x ^^^ y).toNat : Int) := by unfold wrap64; omega
  rw [u8_xor', e, i64_or_nat _ _ hm (by omega)]
set_option maxHeartbeats 2000000 in
set_option maxRecDepth 100000 in
theorem same_any (a b : List UInt8) (w : World) (ha : a.length ≤ 140737488355328) (hb : b.length ≤ 140737488355328) :
    Calls Tryd.prog 19 #[.string ⟨a.toArray⟩, .string ⟨b.toArray⟩] w fun e w' => e = .returned (.bool (decide (a = b))) ∧ w = w' := by
  have HE := Lib.hid (diff_end a b)
  have H0 := Lib.hid (i64_xor_nat a.length b.length (by omega) (by omega))
  go_enter Tryd.func19, Tryd.ntmps19
  go_wp2
  go_loop [5, 15] (fun u i => ∃ k : Nat, k ≤ a.length ∧ i = .int .i64 k ∧ u = .int .i64 (diff a b k)) (fun _ i => a.length - (intOf i).toNat)
  case atStart => exact ⟨0, by omega, rfl, val_int H0.out⟩
  case round =>
    obtain ⟨k, hk, rfl, rfl⟩ := hrel
    obtain ⟨m, hm⟩ : ∃ m, diff a b k = m := ⟨_, rfl⟩
    have hlt := diff_lt a b k (by omega) (by omega)
    rw [hm] at hlt ⊢
    have HM := Lib.hid hm
    clear hm
    by_cases hka : k < a.length
    · by_cases hkb : k < b.length
      · have HS : Hid (diff a b (k + 1) = m ||| ((a[k]'hka) ^^^ (b[k]'hkb)).toNat) := by
          have h : diff a b (k + 1) = diff a b k ||| (a.getD k 0 ^^^ b.getD k 0).toNat := rfl
          rw [HM.out, List.getD_eq_getElem?_getD, List.getD_eq_getElem?_getD, List.getElem?_eq_getElem hka, List.getElem?_eq_getElem hkb] at h
          exact h
        have HT := Lib.hid (same_step m (a[k]'hka) (b[k]'hkb) (by omega))
        go_wp2
        go_round
        case rel => exact ⟨k + 1, by omega, by go_num, by rw [HS.out]; exact val_int HT.out⟩
        case measure => simp [intOf]; omega
      · have HS : Hid (diff a b (k + 1) = m ||| ((a[k]'hka) ^^^ 0).toNat) := by
          have h : diff a b (k + 1) = diff a b k ||| (a.getD k 0 ^^^ b.getD k 0).toNat := rfl
          rw [HM.out, List.getD_eq_getElem?_getD, List.getD_eq_getElem?_getD, List.getElem?_eq_getElem hka, List.getElem?_eq_none (by omega)] at h
          exact h
        have HT := Lib.hid (same_step m (a[k]'hka) 0 (by omega))
        go_wp2
        go_round
        case rel => exact ⟨k + 1, by omega, by go_num, by rw [HS.out]; exact val_int HT.out⟩
        case measure => simp [intOf]; omega
    · obtain rfl : k = a.length := by omega
      have HR : Hid (((m : Int) == 0) = decide (a = b)) := by
        have h := HE.out
        rw [HM.out] at h
        rw [← h]
        exact (by rw [Bool.eq_iff_iff]; simp : ((m : Int) == 0) = (m == 0))
      clear hka hlt
      go_wp2
      go_ret
      exact ⟨by first | exact ret_bool HR.out | simpa using HR.out, rfl⟩
end Go.Proofs.YtommbdlkmkphpaaDoor
