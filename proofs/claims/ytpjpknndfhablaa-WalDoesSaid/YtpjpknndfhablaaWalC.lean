/- Walks of the document's small functions of chapter 10: Sum, Bytes, value, Frame, Whole, Counts. -/
import Derived.Test.YtpjpknndfhablaaWalB
namespace Go.Proofs.Ytpjpknndfhablaa
open Go.RowKit
theorem mod2_bit (n : Nat) (k : Nat) : ((n : Int) / 2 ^ k) % 2 = if n.testBit k then 1 else 0 := by
  have h : ((n : Int) / 2 ^ k) % 2 = ((n / 2 ^ k % 2 : Nat) : Int) := by
    rw [Int.natCast_emod, Int.natCast_ediv, Int.natCast_pow]; rfl
  rw [h, Nat.testBit_eq_decide_div_mod_eq]
  by_cases e : n / 2 ^ k % 2 = 1
  · simp [e]
  · have : n / 2 ^ k % 2 = 0 := by omega
    simp [this]
theorem u32_mod2 (r : U32) : (r.toNat : Int) % 2 = if r.getLsbD 0 then 1 else 0 := by
  have h := mod2_bit r.toNat 0
  simpa [BitVec.getLsbD] using h
theorem bit_ne (a b : Bool) : (((if a then (1 : Int) else 0) != (if b then (1 : Int) else 0)) : Bool) = (a != b) := by cases a <;> cases b <;> rfl
set_option maxHeartbeats 2000000 in
theorem rwsum_any (l : List UInt8) (w : World) (hl : l.length ≤ 140737488355328) :
    Calls Try.prog 34 #[.string ⟨l.toArray⟩] w fun e w' => e = .returned (.int .u32 (Wal.crc l)) ∧ w = w' := by
  go_enter Try.func34, Try.ntmps34
  go_wp2
  go_loop [3, 4] (fun r i => ∃ k : Nat, k ≤ l.length ∧ i = .int .i64 k ∧ r = .int .u32 (((l.take k).foldl Crc.byte 0xffffffff).toNat)) (fun _ i => l.length - (intOf i).toNat)
  case atStart => exact ⟨0, by omega, rfl, rfl⟩
  case round =>
    obtain ⟨k, hk, rfl, rfl⟩ := hrel
    obtain ⟨r, hr⟩ : ∃ r, (l.take k).foldl Crc.byte 0xffffffff = r := ⟨_, rfl⟩
    rw [hr]
    have HR := Lib.hid hr
    clear hr
    by_cases hkl : k < l.length
    · obtain ⟨x, hx⟩ : ∃ x, l[k]'hkl = x := ⟨_, rfl⟩
      have hb := x.toNat_lt
      have HS : Hid ((l.take (k + 1)).foldl Crc.byte 0xffffffff = Crc.bits x 8 r) := Lib.hid (by
        rw [List.take_succ_eq_append_getElem hkl, List.foldl_append, HR.out, hx, Crc.byte_eq]; rfl)
      have hx2 : (⟨l.toArray⟩ : ByteArray)[k]'hkl = x := hx
      clear hx
      go_wp2
      go_loop [3, 5] (fun q i => ∃ j : Nat, j ≤ 8 ∧ i = .int .i64 j ∧ q = .int .u32 (Crc.bits x j r).toNat) (fun _ i => 8 - (intOf i).toNat)
      case atStart => exact ⟨0, by omega, rfl, rfl⟩
      case round =>
        obtain ⟨j, hj, rfl, rfl⟩ := hrel
        obtain ⟨q, hq⟩ : ∃ q, Crc.bits x j r = q := ⟨_, rfl⟩
        rw [hq]
        have HQ := Lib.hid hq
        clear hq
        by_cases hj8 : j < 8
        · have hE : (((q.toNat : Int) % 2) != ((x.toNat : Int) / 2 ^ j % 2)) = (q.getLsbD 0 != x.toNat.testBit j) := by rw [u32_mod2, mod2_bit]; exact bit_ne _ _
          have HB := Lib.hid (u32_half q)
          have HC := Lib.hid (u32_poly q)
          cases ho : (q.getLsbD 0 != x.toNat.testBit j) with
          | true =>
            have HN : Hid (Crc.bits x (j + 1) r = q >>> 1 ^^^ Crc.poly) := Lib.hid (by rw [Crc.bits, HQ.out, Crc.bit, if_pos ho])
            rw [ho] at hE
            clear ho
            go_wp2
            go_round
            case rel => exact ⟨j + 1, by omega, by go_num, by rw [HN.out, ← HC.out, ← HB.out]⟩
            case measure => simp [intOf]; omega
          | false =>
            have HN : Hid (Crc.bits x (j + 1) r = q >>> 1) := Lib.hid (by rw [Crc.bits, HQ.out, Crc.bit, if_neg (by rw [ho]; simp)])
            rw [ho] at hE
            clear ho
            go_wp2
            go_round
            case rel => exact ⟨j + 1, by omega, by go_num, by rw [HN.out, ← HB.out]⟩
            case measure => simp [intOf]; omega
        · obtain rfl : j = 8 := by omega
          go_wp2
          go_round
          case rel => exact ⟨k + 1, by omega, by go_num, by rw [HS.out, HQ.out]⟩
          case measure => simp [intOf]; omega
    · obtain rfl : k = l.length := by omega
      have HN : Hid ((4294967295 : Int) - (r.toNat : Int) = ((~~~r).toNat : Int)) := Lib.hid (by rw [BitVec.toNat_not]; have := r.isLt; omega)
      have hrl := r.isLt
      go_wp2
      go_ret
      refine ⟨ret_int ?_, rfl⟩
      rw [HN.out, Wal.crc, Crc.sum, ← HR.out, List.take_length]
theorem u8_mod (m : Nat) : (m : Int) % 256 = ((UInt8.ofNat m).toNat : Int) := by rw [UInt8.toNat_ofNat', Int.natCast_emod]; rfl
theorem ownF_byte (w : World) (base m : Nat) (hb : base ≤ w.heap.size) : OwnF (w.alloc (.cells #[.int .u8 ((m : Int) % 256)] 5)) base 1 (.slice (some ⟨w.heap.size, 0, none⟩) 1 1) [UInt8.ofNat m].length (bytesOf [UInt8.ofNat m]) := by
  refine ownF_row (l := [UInt8.ofNat m]) ⟨heap_lt (heap_new w _), fun j x hj => ?_⟩ hb (by unfold maxLen; simp)
  have hj0 : j = 0 := by
    have := (List.getElem?_eq_some_iff.1 hj).1
    simp at this; exact this
  subst hj0
  simp at hj
  subst hj
  exact ⟨cell_of (heap_new w _) (congrArg some (congrArg (Value.int .u8) (u8_mod m))), free_of (heap_new w _) _⟩
theorem big_cons (n k : Nat) : Sha.big n (k + 1) = UInt8.ofNat (n / 256 ^ k) :: Sha.big n k := by
  induction k generalizing n with
  | zero => simp [Sha.big]
  | succ k ih => rw [Sha.big, ih (n / 256), Nat.div_div_eq_div_mul, ← Nat.pow_succ', List.cons_append]; rfl
set_option maxHeartbeats 2000000 in
set_option maxRecDepth 100000 in
theorem rbytes_any (n k : Nat) (w : World) (hk : k ≤ 8) (hn : n < 18446744073709551616) :
    Calls Try.prog 83 #[.int .u64 n, .int .i64 k] w fun e w' => e = .returned (.string ⟨(Sha.big n k).toArray⟩) ∧ Below w.heap.size w w' := by
  go_enter Try.func83, Try.ntmps83
  go_wp2
  go_loopw [0, 5, 6] (fun v s i wr => ∃ j : Nat, j ≤ k ∧ i = .int .i64 j ∧ v = .int .u64 ((n / 256 ^ j : Nat) : Int) ∧ s = .string ⟨(Sha.big n j).toArray⟩ ∧ Below w.heap.size w wr) (fun _ _ i _ => k - (intOf i).toNat)
  case atStart => exact ⟨0, by omega, rfl, by simp, rfl, Below.refl _ _⟩
  case round =>
    obtain ⟨j, hj, rfl, rfl, rfl, hb⟩ := hrel
    have HB := Lib.hid hb
    clear hb
    by_cases hjk : j < k
    · obtain ⟨B, hB⟩ : ∃ B, Sha.big n j = B := ⟨_, rfl⟩
      have hBl : B.length = j := by rw [← hB]; exact Sha.big_length _ _
      obtain ⟨m, hm⟩ : ∃ m, n / 256 ^ j = m := ⟨_, rfl⟩
      have hml : m < 18446744073709551616 := by rw [← hm]; exact Nat.lt_of_le_of_lt (Nat.div_le_self _ _) hn
      have HN : Hid (Sha.big n (j + 1) = UInt8.ofNat m :: B) := Lib.hid (by rw [big_cons, hm, hB])
      have HM : Hid (n / 256 ^ (j + 1) = m / 256) := Lib.hid (by rw [Nat.pow_succ, ← Nat.div_div_eq_div_mul, hm])
      have HO := Lib.hid (ownF_byte wr w.heap.size m HB.out.size)
      have hap := bytes_append [UInt8.ofNat m] B
      rw [hB, hm]
      clear hB hm
      go_wp2_with (first | (refine wpList_convert_string _ rfl 63 9 5 (.tmp 15) rfl Try.underlying63 Try.underlying5 Try.underlying9 rfl HO.out ?_))
      refine ⟨⟨j + 1, by omega, by go_num, by rw [HM.out]; rfl, by rw [HN.out], bthen HB.out (balloc wr _)⟩, by simp [intOf]; omega⟩
    · obtain rfl : j = k := by omega
      go_wp2
      go_ret
      exact ⟨rfl, HB.out⟩
set_option maxHeartbeats 1000000 in
theorem rvalue_any (l : List UInt8) (w : World) (hl : l.length ≤ 8) :
    Calls Try.prog 106 #[.string ⟨l.toArray⟩] w fun e w' => e = .returned (.int .u64 (Sha.val l)) ∧ w = w' := by
  go_enter Try.func106, Try.ntmps106
  go_wp2
  go_loop [3, 4] (fun n i => ∃ k : Nat, k ≤ l.length ∧ i = .int .i64 k ∧ n = .int .u64 (Sha.val (l.take k))) (fun _ i => l.length - (intOf i).toNat)
  case atStart => exact ⟨0, by omega, rfl, rfl⟩
  case round =>
    obtain ⟨k, hk, rfl, rfl⟩ := hrel
    obtain ⟨m, hm⟩ : ∃ m, Sha.val (l.take k) = m := ⟨_, rfl⟩
    have hlt := Sha.val_lt (l.take k)
    rw [hm] at hlt ⊢
    have HM := Lib.hid hm
    clear hm
    by_cases hkl : k < l.length
    · have hp : (256 : Nat) ^ (l.take k).length ≤ 256 ^ 7 := Nat.pow_le_pow_right (by decide) (by simp; omega)
      have hm' : m * 256 + 255 < 18446744073709551616 := by
        have : (256 : Nat) ^ 7 = 72057594037927936 := rfl
        omega
      obtain ⟨x, hx⟩ : ∃ x, l[k]'hkl = x := ⟨_, rfl⟩
      have hb := x.toNat_lt
      have HS : Hid (Sha.val (l.take (k + 1)) = m * 256 + x.toNat) := Lib.hid (by rw [List.take_succ_eq_append_getElem hkl, Sha.val_snoc, HM.out, hx])
      have hx2 : (⟨l.toArray⟩ : ByteArray)[k]'hkl = x := hx
      clear hlt hp hx
      go_wp2
      go_round
      case rel => exact ⟨k + 1, by omega, by go_num, by rw [HS.out]; exact val_int (by omega)⟩
      case measure => simp [intOf]; omega
    · obtain rfl : k = l.length := by omega
      clear hlt
      go_wp2
      go_ret
      exact ⟨ret_int (by rw [← HM.out, List.take_length]), rfl⟩
end Go.Proofs.Ytpjpknndfhablaa
