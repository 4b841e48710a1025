/- Walks of the log's small functions: framed, whole, counted. Walks of the document's small functions of chapter 10: Sum, Bytes, value, Frame, Whole, Counts. The document's number and text. Rows of changes as they lie (the program's and the document's alike); appended to by one. The program's key and value; the document's told. The document's Without. The document's Does. The program's reader: take. The reading of changes, as the document does it and as the program does it: plain laws. -/
import Derived.Test.YtpjpknndfhablaaGreatK2
import Derived.Test.YtpjpknndfhablaaGreatK5
namespace Go.Proofs.YtpjpknndfhablaaGreat
open Go.RowKit
theorem ext_take (l : List UInt8) (i n : Nat) : (⟨l.toArray⟩ : ByteArray).extract i (i + n) = ⟨((l.drop i).take n).toArray⟩ := by
 apply ByteArray.ext
 simp [ByteArray.data_extract, List.take_drop]
set_option maxHeartbeats 2000000 in
theorem framed_any (s : List UInt8) (w : World) (hs : s.length ≤ 1048576) :
  Calls Tryz.prog 127 #[.string ⟨s.toArray⟩] w fun e w' => e = .returned (.string ⟨(Wal.frame s).toArray⟩) ∧ Below w.heap.size w w' := by
 obtain ⟨A, hA⟩ : ∃ A, Sha.big s.length 4 = A := ⟨_, rfl⟩
 obtain ⟨c, hc⟩ : ∃ c, Wal.crc s = c := ⟨_, rfl⟩
 have hcl := Wal.crc_lt s
 rw [hc] at hcl
 obtain ⟨B, hB⟩ : ∃ B, Sha.big c 4 = B := ⟨_, rfl⟩
 have hAl : A.length = 4 := by rw [← hA]; exact Sha.big_length _ _
 have hBl : B.length = 4 := by rw [← hB]; exact Sha.big_length _ _
 have HF : Hid (Wal.frame s = A ++ B ++ s) := Lib.hid (by unfold Wal.frame; rw [hA, hc, hB])
 have HA := Lib.hid hA
 have HB := Lib.hid hB
 have HC := Lib.hid hc
 clear hA hB hc
 have hap1 := bytes_append A B
 have hap2 := bytes_append (A ++ B) s
 go_enter Tryz.func127, Tryz.ntmps127
 go_wp2_with fail
 refine (put_any s.length 4 w (by decide) (by omega)).mono ?_
 rw [HA.out]
 rintro e w1 ⟨rfl, b1⟩
 have B1 := Lib.hid b1
 clear b1
 go_wp2_with fail
 refine (wsum_any s w1 (by omega)).mono ?_
 rw [HC.out]
 rintro e w2 ⟨rfl, rfl⟩
 go_wp2_with fail
 refine (put_any c 4 w1 (by decide) (by omega)).mono ?_
 rw [HB.out]
 rintro e w2 ⟨rfl, b2⟩
 have B2 := Lib.hid (bthen B1.out b2)
 clear b2
 go_wp2_with fail
 go_ret
 exact ⟨by rw [HF.out, List.append_assoc]; rfl, B2.out⟩
set_option maxHeartbeats 4000000 in
set_option maxRecDepth 100000 in
theorem whole_any (l : List UInt8) (p most : Nat) (w : World) (hl : l.length ≤ 2097152) (hp : p ≤ 4194304) (hm : most ≤ 1048576) :
  Calls Tryz.prog 95 #[.string ⟨l.toArray⟩, .int .i64 p, .int .i64 most] w fun e w' => e = .returned (.tuple #[.string ⟨(Wal.whole l p most).1.toArray⟩, .bool (Wal.whole l p most).2]) ∧ Below w.heap.size w w' := by
 by_cases h1 : l.length < p + 8
 ·have HW := Lib.hid (Wal.whole_short (most := most) h1)
  go_enter Tryz.func95, Tryz.ntmps95
  go_wp2
  go_ret2
  exact ⟨by rw [HW.out]; rfl, Below.refl _ _⟩
 ·obtain ⟨l4, hl4⟩ : ∃ l4, (l.drop p).take 4 = l4 := ⟨_, rfl⟩
  have hl4L : l4.length = 4 := by rw [← hl4]; simp; omega
  obtain ⟨n, hn⟩ : ∃ n, Sha.val l4 = n := ⟨_, rfl⟩
  have hnl : n < 4294967296 := by
   have h := Sha.val_lt l4
   rw [hl4L, hn] at h
   exact h
  have hext1 := ext_take l p 4
  rw [hl4] at hext1
  have HN := Lib.hid hn
  have HL4 := Lib.hid hl4L
  by_cases h2 : most < n
  ·have HW : Hid (Wal.whole l p most = ([], false)) := Lib.hid (by unfold Wal.whole; rw [if_neg h1, hl4, hn, if_pos (.inl h2)])
   clear hn hl4 hl4L
   go_enter Tryz.func95, Tryz.ntmps95
   go_wp2_with fail
   refine (of_any l4 w (by rw [HL4.out]; decide)).mono ?_
   rw [HN.out]
   rintro e w1 ⟨rfl, rfl⟩
   go_wp2
   go_ret2
   exact ⟨by rw [HW.out]; rfl, Below.refl _ _⟩
  by_cases h3 : l.length - p - 8 < n
  ·have HW : Hid (Wal.whole l p most = ([], false)) := Lib.hid (by unfold Wal.whole; rw [if_neg h1, hl4, hn, if_pos (.inr h3)])
   clear hn hl4 hl4L
   go_enter Tryz.func95, Tryz.ntmps95
   go_wp2_with fail
   refine (of_any l4 w (by rw [HL4.out]; decide)).mono ?_
   rw [HN.out]
   rintro e w1 ⟨rfl, rfl⟩
   go_wp2
   go_ret2
   exact ⟨by rw [HW.out]; rfl, Below.refl _ _⟩
  ·obtain ⟨s, hs⟩ : ∃ s, (l.drop (p + 8)).take n = s := ⟨_, rfl⟩
   obtain ⟨c4, hc4⟩ : ∃ c4, (l.drop (p + 4)).take 4 = c4 := ⟨_, rfl⟩
   have hc4L : c4.length = 4 := by rw [← hc4]; simp; omega
   have hsl : s.length ≤ 2097152 := by rw [← hs]; simp; omega
   obtain ⟨c, hc⟩ : ∃ c, Wal.crc s = c := ⟨_, rfl⟩
   obtain ⟨v, hv⟩ : ∃ v, Sha.val c4 = v := ⟨_, rfl⟩
   have hcl := Wal.crc_lt s
   rw [hc] at hcl
   have hext2 := ext_take l (p + 8) n
   rw [hs] at hext2
   have hext3 := ext_take l (p + 4) 4
   rw [hc4, show p + 4 + 4 = p + 8 by omega] at hext3
   have HW : Hid (Wal.whole l p most = (s, c == v)) := Lib.hid (by unfold Wal.whole; rw [if_neg h1, hl4, hn, if_neg (by omega), hs, hc4, hc, hv])
   have HC := Lib.hid hc
   have HV := Lib.hid hv
   have HC4 := Lib.hid hc4L
   have HEQ : Hid (((c : Int) == (v : Int)) = (c == v)) := Lib.hid (by rw [Bool.eq_iff_iff]; simp; omega)
   clear hn hl4 hl4L hs hc4 hc4L hc hv
   have hmx : Tryz.prog.follows .mixedOrders = true := by kernel_rfl
   go_enter Tryz.func95, Tryz.ntmps95
   go_wp2_with fail
   refine (of_any l4 w (by rw [HL4.out]; decide)).mono ?_
   rw [HN.out]
   rintro e w1 ⟨rfl, rfl⟩
   go_wp2_with fail
   have q1 : ∀ W, Calls Tryz.prog 147 #[.string ⟨s.toArray⟩] W fun e w' => e = .returned (.int .u32 c) ∧ w' = W := fun W => by
    have := wsum_any s W (by omega)
    rw [HC.out] at this
    exact this.mono fun _ _ h => ⟨h.1, h.2.symm⟩
   have q2 : ∀ W, Calls Tryz.prog 146 #[.string ⟨c4.toArray⟩] W fun e w' => e = .returned (.int .u64 v) ∧ w' = W := fun W => by
    have := of_any c4 W (by rw [HC4.out]; decide)
    rw [HV.out] at this
    exact this.mono fun _ _ h => ⟨h.1, h.2.symm⟩
   have Q1 := Lib.hid q1
   have Q2 := Lib.hid q2
   clear q1 q2
   rw [hext2]
   clear hext2
   go_quiet (first | (go_at_call 147; exact Calls.quiet_of_same (Q1.out _)) | (go_at_call 146; exact Calls.quiet_of_same (Q2.out _)))
   go_wp2
   go_ret2
   exact ⟨by rw [HW.out, ← HEQ.out]; rfl, below_drewN (Below.refl _ _) _⟩
theorem magic_eq (m : List UInt8) : (m == [83, 78, 76, 49]) = decide (m = Wal.magic) := by
 by_cases h : m = Wal.magic
 ·rw [decide_eq_true h, h]; rfl
 ·rw [decide_eq_false h]; simpa [Wal.magic] using h
set_option maxHeartbeats 1000000 in
theorem prefix_any (l : List UInt8) (w : World) (h : 12 ≤ l.length) (hl : l.length ≤ 2097152) :
  Calls Tryz.prog 145 #[.string ⟨l.toArray⟩, .string ⟨#[83, 78, 76, 49]⟩] w fun e w' => e = .returned (.bool (decide (l.take 4 = Wal.magic))) ∧ w = w' := by
 have hext := bytes_extract l 4
 have hm := magic_eq (l.take 4)
 obtain ⟨m4, hm4⟩ : ∃ m4, l.take 4 = m4 := ⟨_, rfl⟩
 rw [hm4] at hm hext ⊢
 clear hm4
 obtain ⟨b, hb⟩ : ∃ b, decide (m4 = Wal.magic) = b := ⟨_, rfl⟩
 rw [hb] at hm ⊢
 have HM := Lib.hid hm
 clear hb hm
 go_enter Tryz.func145, Tryz.ntmps145
 go_wp2
 go_ret
 exact ⟨ret_bool HM.out, rfl⟩
set_option maxHeartbeats 4000000 in
set_option maxRecDepth 100000 in
theorem counted_any (l : List UInt8) (w : World) (hl : l.length ≤ 2097152) :
  Calls Tryz.prog 94 #[.string ⟨l.toArray⟩] w fun e w' => e = .returned (.tuple #[.int .u64 (Wal.counts l).1, .string ⟨(Wal.counts l).2.1.toArray⟩, .int .i64 (Wal.counts l).2.2]) ∧ Below w.heap.size w w' := by
 by_cases h12 : l.length < 12
 ·have HW : Hid (Wal.counts l = (0, [], 0)) := Lib.hid (by unfold Wal.counts; rw [if_pos (.inl h12)])
  go_enter Tryz.func94, Tryz.ntmps94
  go_wp2_with fail
  go_ret3
  exact ⟨by rw [HW.out]; rfl, Below.refl _ _⟩
 obtain ⟨b, hb⟩ : ∃ b, decide (l.take 4 = Wal.magic) = b := ⟨_, rfl⟩
 have HP : Hid (∀ W, Calls Tryz.prog 145 #[.string ⟨l.toArray⟩, .string ⟨#[83, 78, 76, 49]⟩] W fun e w' => e = .returned (.bool b) ∧ W = w') := Lib.hid fun W => by
  have := prefix_any l W (by omega) hl
  rwa [hb] at this
 cases b with
 | false =>
  have HW : Hid (Wal.counts l = (0, [], 0)) := Lib.hid (by unfold Wal.counts; rw [if_pos (.inr (of_decide_eq_false hb))])
  clear hb
  go_enter Tryz.func94, Tryz.ntmps94
  go_wp2_with fail
  refine (HP.out w).mono ?_
  rintro e w1 ⟨rfl, rfl⟩
  go_wp2_with fail
  go_ret3
  exact ⟨by rw [HW.out]; rfl, Below.refl _ _⟩
 | true =>
  have hmag := of_decide_eq_true hb
  obtain ⟨l8, hl8⟩ : ∃ l8, (l.drop 4).take 8 = l8 := ⟨_, rfl⟩
  have hl8L : l8.length = 8 := by rw [← hl8]; simp; omega
  obtain ⟨n, hn⟩ : ∃ n, Sha.val l8 = n := ⟨_, rfl⟩
  have hnl : n < 18446744073709551616 := by
   have h := Sha.val_lt l8
   rw [hl8L, hn] at h
   exact h
  have hext := ext_take l 4 8
  rw [hl8] at hext
  obtain ⟨s, ok, hs⟩ : ∃ s ok, Wal.whole l 12 524288 = (s, ok) := ⟨_, _, rfl⟩
  have hsl : s.length ≤ 2097152 := by
   have h1 : (Wal.whole l 12 524288).1.length ≤ l.length := by
    unfold Wal.whole
    split
    ·simp
    ·split
     ·simp
     ·simp; omega
   rw [hs] at h1
   exact Nat.le_trans h1 hl
  have HWH : Hid (∀ W, Calls Tryz.prog 95 #[.string ⟨l.toArray⟩, .int .i64 12, .int .i64 524288] W fun e w' => e = .returned (.tuple #[.string ⟨s.toArray⟩, .bool ok]) ∧ Below W.heap.size W w') := Lib.hid fun W => by
   have := whole_any l 12 524288 W hl (by decide) (by decide)
   rw [hs] at this
   exact this
  have HOF : Hid (∀ W, Calls Tryz.prog 146 #[.string ⟨l8.toArray⟩] W fun e w' => e = .returned (.int .u64 n) ∧ W = w') := Lib.hid fun W => by
   have := of_any l8 W (by omega)
   rw [hn] at this
   exact this
  have hcount : Wal.counts l = if ok = false ∨ 4611686018427387904 < n then (0, [], 0) else (n, s, 20 + s.length) := by
   unfold Wal.counts
   rw [if_neg (by simp [hmag]; omega), hl8, hn, hs]
  have h3 : ok = false ∨ (ok = true ∧ 4611686018427387904 < n) ∨ (ok = true ∧ ¬ 4611686018427387904 < n) := by cases ok <;> simp <;> omega
  have HW0 : (ok = false ∨ 4611686018427387904 < n) → Hid (Wal.counts l = (0, [], 0)) := fun h => Lib.hid (by rw [hcount, if_pos h])
  have HW1 : ok = true → ¬ 4611686018427387904 < n → Hid (Wal.counts l = (n, s, 20 + s.length)) := fun h h' => Lib.hid (by rw [hcount, if_neg (by simp [h, h'])])
  clear hb hmag hl8 hl8L hn hs hcount
  rcases h3 with rfl | ⟨rfl, h4⟩ | ⟨rfl, h4⟩
  ·have HW := HW0 (.inl rfl)
   clear HW0 HW1
   go_enter Tryz.func94, Tryz.ntmps94
   go_wp2_with fail
   refine (HP.out w).mono ?_
   rintro e w1 ⟨rfl, rfl⟩
   go_wp2_with fail
   refine (HOF.out w).mono ?_
   rintro e w1 ⟨rfl, rfl⟩
   go_wp2_with fail
   refine (HWH.out w).mono ?_
   rintro e w1 ⟨rfl, b1⟩
   have B1 := Lib.hid b1
   clear b1
   go_wp2_with fail
   go_ret3
   exact ⟨by rw [HW.out]; rfl, B1.out⟩
  ·have HW := HW0 (.inr h4)
   clear HW0 HW1
   go_enter Tryz.func94, Tryz.ntmps94
   go_wp2_with fail
   refine (HP.out w).mono ?_
   rintro e w1 ⟨rfl, rfl⟩
   go_wp2_with fail
   refine (HOF.out w).mono ?_
   rintro e w1 ⟨rfl, rfl⟩
   go_wp2_with fail
   refine (HWH.out w).mono ?_
   rintro e w1 ⟨rfl, b1⟩
   have B1 := Lib.hid b1
   clear b1
   go_wp2_with fail
   go_ret3
   exact ⟨by rw [HW.out]; rfl, B1.out⟩
  ·have HW := HW1 rfl h4
   clear HW0 HW1
   go_enter Tryz.func94, Tryz.ntmps94
   go_wp2_with fail
   refine (HP.out w).mono ?_
   rintro e w1 ⟨rfl, rfl⟩
   go_wp2_with fail
   refine (HOF.out w).mono ?_
   rintro e w1 ⟨rfl, rfl⟩
   go_wp2_with fail
   refine (HWH.out w).mono ?_
   rintro e w1 ⟨rfl, b1⟩
   have B1 := Lib.hid b1
   clear b1
   go_wp2_with fail
   go_ret3
   exact ⟨by rw [HW.out]; simp, B1.out⟩
end Go.Proofs.YtpjpknndfhablaaGreat
namespace Go.Proofs.YtpjpknndfhablaaGreat
open Go.RowKit
theorem mod2_bit (n : Nat) (k : Nat) : ((n : Int) / 2 ^ k) % 2 = if n.testBit k then 1 else 0 := by
 have h : ((n : Int) / 2 ^ k) % 2 = ((n / 2 ^ k % 2 : Nat) : Int) := by
  rw [Int.natCast_emod, Int.natCast_ediv, Int.natCast_pow]; rfl
 rw [h, Nat.testBit_eq_decide_div_mod_eq]
 by_cases e : n / 2 ^ k % 2 = 1
 ·simp [e]
 ·have : n / 2 ^ k % 2 = 0 := by omega
  simp [this]
theorem u32_mod2 (r : U32) : (r.toNat : Int) % 2 = if r.getLsbD 0 then 1 else 0 := by
 have h := mod2_bit r.toNat 0
 simpa [BitVec.getLsbD] using h
theorem bit_ne (a b : Bool) : (((if a then (1 : Int) else 0) != (if b then (1 : Int) else 0)) : Bool) = (a != b) := by cases a <;> cases b <;> rfl
set_option maxHeartbeats 2000000 in
theorem rwsum_any (l : List UInt8) (w : World) (hl : l.length ≤ 140737488355328) :
  Calls Tryz.prog 144 #[.string ⟨l.toArray⟩] w fun e w' => e = .returned (.int .u32 (Wal.crc l)) ∧ w = w' := by
 go_enter Tryz.func144, Tryz.ntmps144
 go_wp2
 go_loop [3, 4] (fun r i => ∃ k : Nat, k ≤ l.length ∧ i = .int .i64 k ∧ r = .int .u32 (((l.take k).foldl Crc.byte 0xffffffff).toNat)) (fun _ i => l.length - (intOf i).toNat)
 case atStart => exact ⟨0, by omega, rfl, rfl⟩
 case round =>
  obtain ⟨k, hk, rfl, rfl⟩ := hrel
  obtain ⟨r, hr⟩ : ∃ r, (l.take k).foldl Crc.byte 0xffffffff = r := ⟨_, rfl⟩
  rw [hr]
  have HR := Lib.hid hr
  clear hr
  by_cases hkl : k < l.length
  ·obtain ⟨x, hx⟩ : ∃ x, l[k]'hkl = x := ⟨_, rfl⟩
   have hb := x.toNat_lt
   have HS : Hid ((l.take (k + 1)).foldl Crc.byte 0xffffffff = Crc.bits x 8 r) := Lib.hid (by
    rw [List.take_succ_eq_append_getElem hkl, List.foldl_append, HR.out, hx, Crc.byte_eq]; rfl)
   have hx2 : (⟨l.toArray⟩ : ByteArray)[k]'hkl = x := hx
   clear hx
   go_wp2
   go_loop [3, 5] (fun q i => ∃ j : Nat, j ≤ 8 ∧ i = .int .i64 j ∧ q = .int .u32 (Crc.bits x j r).toNat) (fun _ i => 8 - (intOf i).toNat)
   case atStart => exact ⟨0, by omega, rfl, rfl⟩
   case round =>
    obtain ⟨j, hj, rfl, rfl⟩ := hrel
    obtain ⟨q, hq⟩ : ∃ q, Crc.bits x j r = q := ⟨_, rfl⟩
    rw [hq]
    have HQ := Lib.hid hq
    clear hq
    by_cases hj8 : j < 8
    ·have hE : (((q.toNat : Int) % 2) != ((x.toNat : Int) / 2 ^ j % 2)) = (q.getLsbD 0 != x.toNat.testBit j) := by rw [u32_mod2, mod2_bit]; exact bit_ne _ _
     have HB := Lib.hid (u32_half q)
     have HC := Lib.hid (u32_poly q)
     cases ho : (q.getLsbD 0 != x.toNat.testBit j) with
     | true =>
      have HN : Hid (Crc.bits x (j + 1) r = q >>> 1 ^^^ Crc.poly) := Lib.hid (by rw [Crc.bits, HQ.out, Crc.bit, if_pos ho])
      rw [ho] at hE
      clear ho
      go_wp2
      go_round
      case rel => exact ⟨j + 1, by omega, by go_num, by rw [HN.out, ← HC.out, ← HB.out]⟩
      case measure => simp [intOf]; omega
     | false =>
      have HN : Hid (Crc.bits x (j + 1) r = q >>> 1) := Lib.hid (by rw [Crc.bits, HQ.out, Crc.bit, if_neg (by rw [ho]; simp)])
      rw [ho] at hE
      clear ho
      go_wp2
      go_round
      case rel => exact ⟨j + 1, by omega, by go_num, by rw [HN.out, ← HB.out]⟩
      case measure => simp [intOf]; omega
    ·obtain rfl : j = 8 := by omega
     go_wp2
     go_round
     case rel => exact ⟨k + 1, by omega, by go_num, by rw [HS.out, HQ.out]⟩
     case measure => simp [intOf]; omega
  ·obtain rfl : k = l.length := by omega
   have HN : Hid ((4294967295 : Int) - (r.toNat : Int) = ((~~~r).toNat : Int)) := Lib.hid (by rw [BitVec.toNat_not]; have := r.isLt; omega)
   have hrl := r.isLt
   go_wp2
   go_ret
   refine ⟨ret_int ?_, rfl⟩
   rw [HN.out, Wal.crc, Crc.sum, ← HR.out, List.take_length]
theorem u8_mod (m : Nat) : (m : Int) % 256 = ((UInt8.ofNat m).toNat : Int) := by rw [UInt8.toNat_ofNat', Int.natCast_emod]; rfl
theorem ownF_byte (w : World) (base m : Nat) (hb : base ≤ w.heap.size) : OwnF (w.alloc (.cells #[.int .u8 ((m : Int) % 256)] 5)) base 1 (.slice (some ⟨w.heap.size, 0, none⟩) 1 1) [UInt8.ofNat m].length (bytesOf [UInt8.ofNat m]) := by
 refine ownF_row (l := [UInt8.ofNat m]) ⟨heap_lt (heap_new w _), fun j x hj => ?_⟩ hb (by unfold maxLen; simp)
 have hj0 : j = 0 := by
  have := (List.getElem?_eq_some_iff.1 hj).1
  simp at this; exact this
 subst hj0
 simp at hj
 subst hj
 exact ⟨cell_of (heap_new w _) (congrArg some (congrArg (Value.int .u8) (u8_mod m))), free_of (heap_new w _) _⟩
theorem big_cons (n k : Nat) : Sha.big n (k + 1) = UInt8.ofNat (n / 256 ^ k) :: Sha.big n k := by
 induction k generalizing n with
 | zero => simp [Sha.big]
 | succ k ih => rw [Sha.big, ih (n / 256), Nat.div_div_eq_div_mul, ← Nat.pow_succ', List.cons_append]; rfl
set_option maxHeartbeats 2000000 in
set_option maxRecDepth 100000 in
theorem rbytes_any (n k : Nat) (w : World) (hk : k ≤ 8) (hn : n < 18446744073709551616) :
  Calls Tryz.prog 91 #[.int .u64 n, .int .i64 k] w fun e w' => e = .returned (.string ⟨(Sha.big n k).toArray⟩) ∧ Below w.heap.size w w' := by
 go_enter Tryz.func91, Tryz.ntmps91
 go_wp2
 go_loopw [0, 5, 6] (fun v s i wr => ∃ j : Nat, j ≤ k ∧ i = .int .i64 j ∧ v = .int .u64 ((n / 256 ^ j : Nat) : Int) ∧ s = .string ⟨(Sha.big n j).toArray⟩ ∧ Below w.heap.size w wr) (fun _ _ i _ => k - (intOf i).toNat)
 case atStart => exact ⟨0, by omega, rfl, by simp, rfl, Below.refl _ _⟩
 case round =>
  obtain ⟨j, hj, rfl, rfl, rfl, hb⟩ := hrel
  have HB := Lib.hid hb
  clear hb
  by_cases hjk : j < k
  ·obtain ⟨B, hB⟩ : ∃ B, Sha.big n j = B := ⟨_, rfl⟩
   have hBl : B.length = j := by rw [← hB]; exact Sha.big_length _ _
   obtain ⟨m, hm⟩ : ∃ m, n / 256 ^ j = m := ⟨_, rfl⟩
   have hml : m < 18446744073709551616 := by rw [← hm]; exact Nat.lt_of_le_of_lt (Nat.div_le_self _ _) hn
   have HN : Hid (Sha.big n (j + 1) = UInt8.ofNat m :: B) := Lib.hid (by rw [big_cons, hm, hB])
   have HM : Hid (n / 256 ^ (j + 1) = m / 256) := Lib.hid (by rw [Nat.pow_succ, ← Nat.div_div_eq_div_mul, hm])
   have HO := Lib.hid (ownF_byte wr w.heap.size m HB.out.size)
   have hap := bytes_append [UInt8.ofNat m] B
   rw [hB, hm]
   clear hB hm
   go_wp2_with (first | (refine wpList_convert_string _ rfl 175 9 5 (.tmp 15) rfl Tryz.underlying175 Tryz.underlying5 Tryz.underlying9 rfl HO.out ?_))
   refine ⟨⟨j + 1, by omega, by go_num, by rw [HM.out]; rfl, by rw [HN.out], bthen HB.out (balloc wr _)⟩, by simp [intOf]; omega⟩
  ·obtain rfl : j = k := by omega
   go_wp2
   go_ret
   exact ⟨rfl, HB.out⟩
set_option maxHeartbeats 1000000 in
theorem rvalue_any (l : List UInt8) (w : World) (hl : l.length ≤ 8) :
  Calls Tryz.prog 151 #[.string ⟨l.toArray⟩] w fun e w' => e = .returned (.int .u64 (Sha.val l)) ∧ w = w' := by
 go_enter Tryz.func151, Tryz.ntmps151
 go_wp2
 go_loop [3, 4] (fun n i => ∃ k : Nat, k ≤ l.length ∧ i = .int .i64 k ∧ n = .int .u64 (Sha.val (l.take k))) (fun _ i => l.length - (intOf i).toNat)
 case atStart => exact ⟨0, by omega, rfl, rfl⟩
 case round =>
  obtain ⟨k, hk, rfl, rfl⟩ := hrel
  obtain ⟨m, hm⟩ : ∃ m, Sha.val (l.take k) = m := ⟨_, rfl⟩
  have hlt := Sha.val_lt (l.take k)
  rw [hm] at hlt ⊢
  have HM := Lib.hid hm
  clear hm
  by_cases hkl : k < l.length
  ·have hp : (256 : Nat) ^ (l.take k).length ≤ 256 ^ 7 := Nat.pow_le_pow_right (by decide) (by simp; omega)
   have hm' : m * 256 + 255 < 18446744073709551616 := by
    have : (256 : Nat) ^ 7 = 72057594037927936 := rfl
    omega
   obtain ⟨x, hx⟩ : ∃ x, l[k]'hkl = x := ⟨_, rfl⟩
   have hb := x.toNat_lt
   have HS : Hid (Sha.val (l.take (k + 1)) = m * 256 + x.toNat) := Lib.hid (by rw [List.take_succ_eq_append_getElem hkl, Sha.val_snoc, HM.out, hx])
   have hx2 : (⟨l.toArray⟩ : ByteArray)[k]'hkl = x := hx
   clear hlt hp hx
   go_wp2
   go_round
   case rel => exact ⟨k + 1, by omega, by go_num, by rw [HS.out]; exact val_int (by omega)⟩
   case measure => simp [intOf]; omega
  ·obtain rfl : k = l.length := by omega
   clear hlt
   go_wp2
   go_ret
   exact ⟨ret_int (by rw [← HM.out, List.take_length]), rfl⟩
end Go.Proofs.YtpjpknndfhablaaGreat
namespace Go.Proofs.YtpjpknndfhablaaGreat
open Go.RowKit
namespace Sto
/-- A number of so many bytes at a place, and the place behind it; below 0: it isn't there. -/
def numAt (s : S) (p : Int) (many : Nat) : Nat × Int := if p < 0 ∨ s.length < p + many then (0, -1) else (Sha.val ((s.drop p.toNat).take many), p + many)
def textAt (s : S) (p : Int) (many : Nat) : S × Int := if p < 0 ∨ s.length < p + many then ([], -1) else ((s.drop p.toNat).take many, p + many)
end Sto
set_option maxHeartbeats 2000000 in
set_option maxRecDepth 100000 in
theorem rnumber11_any (s : Sto.S) (p : Int) (many : Nat) (w : World) (hs : s.length ≤ 4611686018427387904) (hp : p ≤ 4611686018427387904) (hp0 : -1 ≤ p) (hm : many ≤ 4) :
  Calls Tryz.prog 105 #[.string ⟨s.toArray⟩, .int .i64 p, .int .i64 many] w fun e w' => e = .returned (.tuple #[.int .i64 (Sto.numAt s p many).1, .int .i64 (Sto.numAt s p many).2]) ∧ w = w' := by
 by_cases h1 : p < 0
 ·have HX : Hid (Sto.numAt s p many = (0, -1)) := Lib.hid (by unfold Sto.numAt; rw [if_pos (.inl h1)])
  go_enter Tryz.func105, Tryz.ntmps105
  go_wp2
  go_ret2
  exact ⟨by rw [HX.out]; rfl, rfl⟩
 by_cases h2 : (s.length : Int) < p + many
 ·have HX : Hid (Sto.numAt s p many = (0, -1)) := Lib.hid (by unfold Sto.numAt; rw [if_pos (.inr h2)])
  go_enter Tryz.func105, Tryz.ntmps105
  go_wp2
  go_ret2
  exact ⟨by rw [HX.out]; rfl, rfl⟩
 ·have HX : Hid (Sto.numAt s p many = (Sha.val ((s.drop p.toNat).take many), p + many)) := Lib.hid (by unfold Sto.numAt; rw [if_neg (by omega)])
  obtain ⟨a, rfl⟩ : ∃ a : Nat, p = a := ⟨p.toNat, by omega⟩
  simp only [Int.toNat_natCast] at HX
  clear hp0 h1
  go_enter Tryz.func105, Tryz.ntmps105
  go_wp2
  go_loop [8, 9] (fun n i => ∃ k m : Nat, k ≤ many ∧ i = .int .i64 k ∧ n = .int .i64 m ∧ m = Sha.val ((s.drop a).take k)) (fun _ i => many - (intOf i).toNat)
  case atStart => exact ⟨0, 0, by omega, rfl, rfl, by simp [Sha.val]⟩
  case round =>
   obtain ⟨k, m, hk, rfl, rfl, hmv⟩ := hrel
   have hlt := Sha.val_lt ((s.drop a).take k)
   rw [← hmv] at hlt
   have HM := Lib.hid hmv
   clear hmv
   by_cases hkl : k < many
   ·have hpw : (256 : Nat) ^ ((s.drop a).take k).length ≤ 256 ^ 3 := Nat.pow_le_pow_right (by decide) (by simp; omega)
    have hm' : m < 16777216 := by
     have : (256 : Nat) ^ 3 = 16777216 := rfl
     omega
    have hak : a + k < s.length := by omega
    have hd : k < (s.drop a).length := by simp; omega
    obtain ⟨x, hx⟩ : ∃ x, s[a + k]'hak = x := ⟨_, rfl⟩
    have hb := x.toNat_lt
    have HS : Hid (Sha.val ((s.drop a).take (k + 1)) = 256 * m + x.toNat) := Lib.hid (by rw [List.take_succ_eq_append_getElem hd, Sha.val_snoc, ← HM.out, List.getElem_drop, hx]; omega)
    have hx2 : (⟨s.toArray⟩ : ByteArray)[a + k]'hak = x := hx
    clear hlt hpw hx
    go_wp2
    go_round
    case rel => exact ⟨k + 1, _, by omega, by go_num, by go_num, HS.out.symm⟩
    case measure => simp [intOf]; omega
   ·obtain rfl : k = many := by omega
    clear hlt
    go_wp2
    go_ret2
    exact ⟨by rw [HX.out, ← HM.out]; rfl, rfl⟩
set_option maxHeartbeats 2000000 in
set_option maxRecDepth 100000 in
theorem rtext11_any (s : Sto.S) (p : Int) (many : Nat) (w : World) (hs : s.length ≤ 4611686018427387904) (hp : p ≤ 4611686018427387904) (hp0 : -1 ≤ p) (hm : many ≤ 65536) :
  Calls Tryz.prog 106 #[.string ⟨s.toArray⟩, .int .i64 p, .int .i64 many] w fun e w' => e = .returned (.tuple #[.string ⟨(Sto.textAt s p many).1.toArray⟩, .int .i64 (Sto.textAt s p many).2]) ∧ w = w' := by
 by_cases h1 : p < 0
 ·have HX : Hid (Sto.textAt s p many = ([], -1)) := Lib.hid (by unfold Sto.textAt; rw [if_pos (.inl h1)])
  go_enter Tryz.func106, Tryz.ntmps106
  go_wp2
  go_ret2
  exact ⟨by rw [HX.out]; rfl, rfl⟩
 by_cases h2 : (s.length : Int) < p + many
 ·have HX : Hid (Sto.textAt s p many = ([], -1)) := Lib.hid (by unfold Sto.textAt; rw [if_pos (.inr h2)])
  go_enter Tryz.func106, Tryz.ntmps106
  go_wp2
  go_ret2
  exact ⟨by rw [HX.out]; rfl, rfl⟩
 ·have HX : Hid (Sto.textAt s p many = ((s.drop p.toNat).take many, p + many)) := Lib.hid (by unfold Sto.textAt; rw [if_neg (by omega)])
  obtain ⟨a, rfl⟩ : ∃ a : Nat, p = a := ⟨p.toNat, by omega⟩
  simp only [Int.toNat_natCast] at HX
  have hext := ext_take s a many
  clear hp0 h1
  go_enter Tryz.func106, Tryz.ntmps106
  go_wp2
  go_ret2
  exact ⟨by rw [HX.out]; rfl, rfl⟩
end Go.Proofs.YtpjpknndfhablaaGreat
namespace Go.Proofs.YtpjpknndfhablaaGreat
open Go.RowKit
def cCells : List Sto.Ch → List Value
 | [] => []
 | c :: r => .bool c.put :: .string ⟨c.key.toArray⟩ :: .string ⟨c.value.toArray⟩ :: cCells r
theorem cCells_length (l : List Sto.Ch) : (cCells l).length = l.length * 3 := by
 induction l with
 | nil => rfl
 | cons p r ih => simp [cCells, ih, Nat.add_mul]
theorem cCells_append (l m : List Sto.Ch) : cCells (l ++ m) = cCells l ++ cCells m := by
 induction l with
 | nil => rfl
 | cons p r ih => simp [cCells, ih]
theorem cCells_at : ∀ {l : List Sto.Ch} {j : Nat} {p : Sto.Ch}, l[j]? = some p →
  (cCells l)[j * 3]? = some (.bool p.put) ∧ (cCells l)[j * 3 + 1]? = some (.string ⟨p.key.toArray⟩) ∧ (cCells l)[j * 3 + 2]? = some (.string ⟨p.value.toArray⟩)
 | [], _, _, h => by simp at h
 | q :: r, 0, p, h => by simp at h; subst h; simp [cCells]
 | q :: r, j + 1, p, h => by
  have := cCells_at (l := r) (j := j) (by simpa using h)
  simpa [cCells, Nat.add_mul] using this
theorem cCells_one (l : List Sto.Ch) : ∀ v ∈ cCells l, v.oneCell' = true := by
 induction l with
 | nil => simp [cCells]
 | cons p r ih =>
  intro v hv
  simp only [cCells, List.mem_cons] at hv
  rcases hv with rfl | rfl | rfl | hv
  ·rfl
  ·rfl
  ·rfl
  ·exact ih v hv
/-- A value is a slice that holds these changes. -/
def ChsAt (w : World) (v : Value) (l : List Sto.Ch) : Prop := OwnF w 0 3 v l.length (cCells l)
theorem ChsAt.touch {S : Nat → Prop} {w w' : World} {v : Value} {l : List Sto.Ch} (h : ChsAt w v l) (ht : Touch S w w') (hS : ∀ k, v.ownBlock = some k → ¬ S k) : ChsAt w' v l := OwnF.touch h ht hS
theorem ChsAt.below {w w' : World} {v : Value} {l : List Sto.Ch} (h : ChsAt w v l) (hb : Below w.heap.size w w') : ChsAt w' v l :=
 h.touch (Touch.of_below (S := fun _ => False) hb) (fun _ _ h => h)
theorem ChsAt.nil (w : World) : ChsAt w (.slice none 0 0) [] := ⟨rfl, .inl ⟨rfl, rfl⟩⟩
theorem chsAt_read {w : World} {base : Nat} {v : Value} {l : List Sto.Ch} (h : OwnF w base 3 v l.length (cCells l)) : ∃ ao cap, v = .slice ao l.length cap ∧ l.length ≤ cap ∧ cap ≤ 9223372036854775807 ∧
  ∀ j p, l[j]? = some p → ∃ g, ao = some ⟨g, 0, none⟩ ∧ g < w.heap.size ∧ w.cell? ⟨g, j * 3, none⟩ = some (.bool p.put) ∧ w.cell? ⟨g, j * 3 + 1, none⟩ = some (.string ⟨p.key.toArray⟩) ∧ w.cell? ⟨g, j * 3 + 2, none⟩ = some (.string ⟨p.value.toArray⟩) := by
 rcases h.2 with ⟨rfl, h0⟩ | ⟨g, cap, rfl, _, hg, hn, hc, _, hx⟩
 ·refine ⟨none, 0, by rw [h0], by omega, by omega, fun j p hj => ?_⟩
  have := (List.getElem?_eq_some_iff.1 hj).1
  omega
 ·refine ⟨_, cap, rfl, hn, by unfold maxLen at hc; omega, fun j p hj => ⟨g, rfl, hg, ?_, ?_, ?_⟩⟩
  ·exact hx _ _ (cCells_at hj).1
  ·exact hx _ _ (cCells_at hj).2.1
  ·exact hx _ _ (cCells_at hj).2.2
theorem chInfo : (Tryz.prog.info? 116).map (fun i => (i.zero, i.size, i.bytes)) = some (some (.agg #[.bool false, .string ⟨#[]⟩, .string ⟨#[]⟩]), 3, 40) := by kernel_rfl
theorem chInfo11 : (Tryz.prog.info? 58).map (fun i => (i.zero, i.size, i.bytes)) = some (some (.agg #[.bool false, .string ⟨#[]⟩, .string ⟨#[]⟩]), 3, 40) := by kernel_rfl
/-- One change more, of which the block g holds the three cells. -/
theorem wpList_append_ch {P : Program} (w : World) {ops : Array Oper} {rest : List Oper} {o : Oper} {a : Act} {Q : Exit → Act → World → Prop} (hgd : o.guard = none) (s x : Operand) (t e : TypeId)
  (hinfo : (P.info? e).map (fun i => (i.zero, i.size, i.bytes)) = some (some (.agg #[.bool false, .string ⟨#[]⟩, .string ⟨#[]⟩]), 3, 40)) (ht : P.underlying t = some (.slice e))
  (ho : o.op = .call { callee := .builtin .append, args := #[s, x], argTypes := #[t, t] })
  (base : Nat) (v : Value) (l : List Sto.Ch) (c : Sto.Ch) (g : Nat) (hs : a.eval s = v) (hx : a.eval x = .slice (some ⟨g, 0, none⟩) 1 1) (hown : OwnF w base 3 v l.length (cCells l))
  (hc : ∀ j u, (cCells [c])[j]? = some u → w.cell? ⟨g, j, none⟩ = some u) (hb : l.length + 1 ≤ 3298534883328) (hbase : base ≤ w.heap.size)
  (h : ∀ v' w', OwnF w' base 3 v' (l ++ [c]).length (cCells (l ++ [c])) → w.grownBy w' v.ownBlock → (v'.ownBlock = v.ownBlock ∨ v'.ownBlock = some w.heap.size) → wpList P ops Q rest (a.put o.dst v') w') : wpList P ops Q (o :: rest) a w := by
 refine wpList_append_ownF w hgd s x t ho base e 3 40 _ hinfo ht rfl (by decide) v l.length (cCells l) hs hown ⟨g, 0, none⟩ 1 1 (cCells [c]) hx rfl (fun j u hj => by rw [addr_add, Nat.zero_add]; exact hc j u hj) (cCells_one _) (by decide) (by unfold maxLen; omega) (by omega) hbase ?_
 intro v' w' h1 h2 h3
 exact h v' w' (by rw [List.length_append, cCells_append]; exact h1) h2 h3
set_option maxHeartbeats 2000000 in
theorem key_any (k : Sto.S) (w : World) : Calls Tryz.prog 62 #[.string ⟨k.toArray⟩] w fun e w' => e = .returned (.bool (Sto.keyOk k)) ∧ w = w' := by
 by_cases h : k.length < 1
 ·have hk : k = [] := List.eq_nil_of_length_eq_zero (by omega)
  subst hk
  go_enter Tryz.func62, Tryz.ntmps62
  go_wp2
  go_ret
  exact ⟨rfl, rfl⟩
 have hne : (k == []) = false := by
  rw [beq_eq_false_iff_ne]
  rintro rfl
  simp at h
 have hne' : k ≠ [] := by
  rintro rfl
  simp at h
 by_cases g : k.length ≤ 64
 ·have HX : Hid (Sto.keyOk k = true) := Lib.hid (by unfold Sto.keyOk; rw [decide_eq_true (by omega), decide_eq_true g, Bool.true_and])
  go_enter Tryz.func62, Tryz.ntmps62
  go_wp2
  go_ret
  exact ⟨by rw [HX.out, ← (decide_eq_true (by omega) : decide ((k.length : Int) ≤ 64) = true)]; rfl, rfl⟩
 ·have HX : Hid (Sto.keyOk k = false) := Lib.hid (by unfold Sto.keyOk; rw [decide_eq_false g, Bool.and_false])
  go_enter Tryz.func62, Tryz.ntmps62
  go_wp2
  go_ret
  exact ⟨by rw [HX.out, ← (decide_eq_false (by omega) : decide ((k.length : Int) ≤ 64) = false)]; rfl, rfl⟩
set_option maxHeartbeats 2000000 in
theorem value11_any (k : Sto.S) (w : World) : Calls Tryz.prog 63 #[.string ⟨k.toArray⟩] w fun e w' => e = .returned (.bool (Sto.valueOk k)) ∧ w = w' := by
 by_cases g : k.length ≤ 4096
 ·have HX : Hid (Sto.valueOk k = true) := Lib.hid (by unfold Sto.valueOk; rw [decide_eq_true g])
  go_enter Tryz.func63, Tryz.ntmps63
  go_wp2
  go_ret
  exact ⟨by rw [HX.out, ← (decide_eq_true (by omega) : decide ((k.length : Int) ≤ 4096) = true)]; rfl, rfl⟩
 ·have HX : Hid (Sto.valueOk k = false) := Lib.hid (by unfold Sto.valueOk; rw [decide_eq_false g])
  go_enter Tryz.func63, Tryz.ntmps63
  go_wp2
  go_ret
  exact ⟨by rw [HX.out, ← (decide_eq_false (by omega) : decide ((k.length : Int) ≤ 4096) = false)]; rfl, rfl⟩
end Go.Proofs.YtpjpknndfhablaaGreat
namespace Go.Proofs.YtpjpknndfhablaaGreat
open Go.RowKit
theorem wp_append_pairs (w : World) {o : Oper} {a : Act} {K : Act → World → Prop} {Q : Exit → Act → World → Prop} (s x : Operand)
  (ho : o.op = .call { callee := .builtin .append, args := #[s, x], argTypes := #[42, 42] })
  (base : Nat) (v u : Value) (l m : Sto.Pairs) (hs : a.eval s = v) (hx : a.eval x = u) (hown : OwnF w base 2 v l.length (pCells l)) (hu : PieceAt w u m) (hb : l.length + m.length ≤ 4398046511104) (hbase : base ≤ w.heap.size)
  (h : ∀ v' w', OwnF w' base 2 v' (l ++ m).length (pCells (l ++ m)) → w.grownBy w' v.ownBlock → (v'.ownBlock = v.ownBlock ∨ v'.ownBlock = some w.heap.size) → K (a.put o.dst v') w') : o.wp Tryz.prog a w K Q := by
 obtain ⟨ao, cap, rfl, hm⟩ := hu
 obtain ⟨i, hi, hz, hsize, hby⟩ := info_parts pairInfo
 cases m with
 | nil =>
  have hr := run_append_none (P := Tryz.prog) w 42 o.type 97 i Tryz.underlying42 hi ao cap v hown
  unfold Oper.wp execOp
  simp only [ho, resolve, invoke, builtin, Sem.run_bind, Sem.run_pure, Result.andThen_ok, List.map_toArray, List.map_cons, List.map_nil, hs, hx, List.length_nil, hr]
  exact h v w (by rw [List.append_nil]; exact hown) ⟨rfl, rfl, rfl, Nat.le_refl _, fun _ _ _ => rfl⟩ (.inl rfl)
 | cons p r =>
  rcases hm with hm | ⟨ad, rfl, hc⟩
  ·cases hm
  ·obtain ⟨v', w', hr, h2, h3, h4⟩ := run_append_ownF (P := Tryz.prog) w base 42 o.type 97 i _ 2 32 Tryz.underlying42 hi hz hsize hby rfl (by decide) v l.length (pCells l) hown ad (p :: r).length cap (pCells (p :: r)) (pCells_length _) hc (pCells_one _) (by simp) (by unfold maxLen; omega) (by omega) hbase
   unfold Oper.wp execOp
   simp only [ho, resolve, invoke, builtin, Sem.run_bind, Sem.run_pure, Result.andThen_ok, List.map_toArray, List.map_cons, List.map_nil, hs, hx, hr]
   exact h v' w' (by rw [List.length_append, pCells_append]; exact h2) h3 h4
set_option maxHeartbeats 4000000 in
set_option maxRecDepth 100000 in
theorem rwithout_any (v : Value) (l : Sto.Pairs) (k : Sto.S) (w : World) (h : PairsAt w v l) (hb : l.length ≤ 4398046511104) :
  Calls Tryz.prog 110 #[v, .string ⟨k.toArray⟩] w fun e w' => ∃ v', e = .returned v' ∧ PairsAt w' v' (Sto.del l k) ∧ (v' = v ∨ ∀ g, v'.ownBlock = some g → w.heap.size ≤ g) ∧ Below w.heap.size w w' := by
 have hf := rfind_any v l k w h
 have HF := Lib.hid hf
 have hpl := Sto.place_le l k
 have hhp := Sto.here_place l k
 have hdel := Sto.del_place l k
 obtain ⟨b, hbe⟩ : ∃ b, Sto.here l k = b := ⟨_, rfl⟩
 obtain ⟨q, hq⟩ : ∃ q, Sto.place l k = q := ⟨_, rfl⟩
 rw [hbe, hq] at HF hdel
 rw [hq] at hpl
 rw [hq, hbe] at hhp
 have HX := Lib.hid hdel
 cases b with
 | false =>
  rw [if_neg (by decide)] at HX
  have HP := Lib.hid h
  clear h hf hpl hhp hdel hbe hq
  go_enter Tryz.func110, Tryz.ntmps110
  go_wp2_with fail
  refine HF.out.mono ?_
  rintro e w1 ⟨rfl, hb1⟩
  go_wp2
  go_ret
  exact ⟨v, rfl, by rw [HX.out]; exact HP.out.below hb1, .inl rfl, hb1⟩
 | true =>
  rw [if_pos rfl] at HX
  have hql : q < l.length := by
   rcases Nat.lt_or_ge q l.length with h | h
   ·exact h
   ·rw [List.getElem?_eq_none h] at hhp; cases hhp
  rcases h.2 with ⟨rfl, h0⟩ | ⟨g, cap, rfl, _, hg, hn, hcap, _, hx⟩
  ·omega
  have HC := Lib.hid hx
  unfold maxLen at hcap
  have hqc : q ≤ cap := by omega
  have hw : IntKind.i64.wrap ((q : Int) + 1) = ((q + 1 : Nat) : Int) := by rw [IntWalk.i64_in _ (by omega)]; omega
  have hqc1 : q + 1 ≤ cap := by omega
  have hql1 : q + 1 ≤ l.length := by omega
  clear hx h hf hhp hdel hbe hq
  go_enter Tryz.func110, Tryz.ntmps110
  go_wp2_with fail
  refine HF.out.mono ?_
  rintro e w1 ⟨rfl, hb1⟩
  have HB1 := Lib.hid hb1
  have hSb : Below w.heap.size w w1.drew := hb1.drew
  clear hb1
  go_wp2
  refine wp_region_heldL (S := fun w' => Below w.heap.size w w') (by kernel_rfl) ?_
  refine planned [1, 2] ?_
  iterate 2 (refine planned_take (v := ?_) rfl (by kernel_rfl) (by kernel_rfl) (by kernel_rfl) (fun _ _ _ h => h) ?_ (by assumption) ?_; rotate_left; (focus (first | (refine Or.inr ⟨by rfl, ?_⟩; with_reducible rfl) | (refine Or.inl ⟨by rfl, ?_⟩; (intro w hSw; (try dsimp only at hSw); go_simp); try with_reducible rfl))); try simp only [Act.put, List.setIfInBounds_toArray, List.set_cons_zero, List.set_cons_succ])
  refine planned_end ?_
  refine wpAnyH_takeL (i := 3) (v := .slice (some ⟨g, 0, none⟩) q cap) rfl (by kernel_rfl) (by kernel_rfl) (by kernel_rfl) (fun _ _ _ h => h) ?_ (by assumption) ?_; focus (refine Or.inl ⟨by rfl, ?_⟩; intro w hSw; (try dsimp only at hSw); go_simp)
  try simp only [Act.put, List.setIfInBounds_toArray, List.set_cons_zero, List.set_cons_succ]
  refine planned [5, 6, 7] ?_
  iterate 3 (refine planned_take (v := ?_) rfl (by kernel_rfl) (by kernel_rfl) (by kernel_rfl) (fun _ _ _ h => h) ?_ (by assumption) ?_; rotate_left; (focus (first | (refine Or.inr ⟨by rfl, ?_⟩; with_reducible rfl) | (refine Or.inl ⟨by rfl, ?_⟩; (intro w hSw; (try dsimp only at hSw); go_simp); try with_reducible rfl))); try simp only [Act.put, List.setIfInBounds_toArray, List.set_cons_zero, List.set_cons_succ])
  refine planned_end ?_
  refine wpAnyH_takeL (i := 8) (v := .slice (if cap = q + 1 then some ⟨g, 0, none⟩ else some ⟨g, (q + 1) * 2, none⟩) (l.length - (q + 1)) (cap - (q + 1))) rfl (by kernel_rfl) (by kernel_rfl) (by kernel_rfl) (fun _ _ _ h => h) ?_ (by assumption) ?_; focus (refine Or.inl ⟨by rfl, ?_⟩; intro w hSw; (try dsimp only at hSw); go_simp; intro hh; exact absurd (hh (by omega)) (by omega))
  try simp only [Act.put, List.setIfInBounds_toArray, List.set_cons_zero, List.set_cons_succ]
  refine wpAnyH_oneL (i := 0) rfl (by kernel_rfl) ?_
  intro K hK
  rw [if_pos (by rfl)]
  go_simp
  refine hK _ _ (bthen hSb (balloc _ _)) ?_
  clear hK K
  try simp only [Act.put, List.setIfInBounds_toArray, List.set_cons_zero, List.set_cons_succ]
  refine wpAnyH_oneL (i := 4) rfl (by kernel_rfl) ?_
  intro K hK
  rw [if_pos (by rfl)]
  refine wp_append_pairs _ (.tmp 16) (.tmp 19) rfl w.heap.size _ _ [] (l.take q) rfl rfl (ownF_empty w1.drew _ _ hSb.size) (PieceAt.take (fun j u hj => cell_later (bthen hSb (balloc _ _)) (HC.out j u hj)) (by omega)) (by simp; omega) (bthen hSb (balloc _ _)).size ?_
  intro v2 w2 ho2 hgr2 _
  have HO2 := Lib.hid ho2
  have HB2 := Lib.hid (below_grown (bthen hSb (balloc _ _)) (bthen hSb (balloc _ _)).size hgr2 (fun k hk => ((ownF_empty w1.drew 97 w.heap.size hSb.size).lt k hk).1))
  clear ho2 hgr2
  refine hK _ _ HB2.out ?_
  clear hK K
  try simp only [Act.put, List.setIfInBounds_toArray, List.set_cons_zero, List.set_cons_succ]
  refine wpAnyH_oneL (i := 9) rfl (by kernel_rfl) ?_
  intro K hK
  rw [if_pos (by rfl)]
  refine wp_append_pairs w2 (.tmp 20) (.tmp 24) rfl w.heap.size v2 _ ([] ++ l.take q) (l.drop (q + 1)) rfl rfl HO2.out (PieceAt.drop hn (fun j u hj => cell_later HB2.out (HC.out j u hj))) (by simp; omega) HB2.out.size ?_
  intro v3 w3 ho3 hgr3 _
  have HO3 := Lib.hid ho3
  have HB3 := Lib.hid (below_grown HB2.out HB2.out.size hgr3 (fun k hk => (HO2.out.lt k hk).1))
  clear ho3 hgr3
  refine hK _ _ HB3.out ?_
  clear hK K
  try simp only [Act.put, List.setIfInBounds_toArray, List.set_cons_zero, List.set_cons_succ]
  refine wpAnyH_oneL (i := 10) rfl (by kernel_rfl) ?_
  intro K hK
  rw [if_pos (by rfl)]
  go_simp
  refine hK _ _ HB3.out ?_
  clear hK K
  try simp only [Act.put, List.setIfInBounds_toArray, List.set_cons_zero, List.set_cons_succ]
  refine wpAnyH_done (by kernel_rfl) ?_ _
  go_wp2
  all_goals go_ret
  all_goals exact ⟨v3, rfl, by rw [HX.out]; have := HO3.out.zero; simpa [PairsAt] using this, .inr (fun g hg => (HO3.out.lt g hg).1), HB3.out⟩
end Go.Proofs.YtpjpknndfhablaaGreat
namespace Go.Proofs.YtpjpknndfhablaaGreat
open Go.RowKit
namespace Sto
theorem steps_append : ∀ (a b : List Ch) (l : Pairs), steps l (a ++ b) = (steps l a).bind fun m => steps m b
 | [], b, l => rfl
 | c :: a, b, l => by
  simp only [List.cons_append, steps]
  cases step l c with
  | none => rfl
  | some m => exact steps_append a b m
theorem steps_take {l m : Pairs} {c : List Ch} {j : Nat} {x : Ch} (h : steps l (c.take j) = some m) (hx : c[j]? = some x) : steps l (c.take (j + 1)) = step m x := by
 rw [List.take_add_one, hx, steps_append, h]
 simp only [Option.toList_some, Option.bind_some, steps]
 cases step m x <;> rfl
theorem steps_none {l : Pairs} {c : List Ch} {j : Nat} (h : steps l (c.take j) = none) : steps l c = none := by
 have := steps_append (c.take j) (c.drop j) l
 rw [List.take_append_drop, h] at this
 exact this
theorem step_length {m n : Pairs} {x : Ch} (h : step m x = some n) : n.length ≤ m.length + 1 := by
 unfold step at h
 split at h
 ·split at h
  ·cases h
  ·cases h
   rw [put_place]
   simp
   have := place_le m x.key
   omega
 ·split at h
  ·cases h
   rw [del_place]
   split <;> simp <;> omega
  ·cases h
end Sto
set_option maxHeartbeats 8000000 in
set_option maxRecDepth 100000 in
theorem rdoes11_any (v u : Value) (l : Sto.Pairs) (c : List Sto.Ch) (w : World) (h : PairsAt w v l) (hc : ChsAt w u c) (hg : Sto.Good l) (hf : ∀ x ∈ c, Sto.Fine x) (hb : l.length + c.length ≤ 1099511627776) :
  Calls Tryz.prog 54 #[v, u] w fun e w' => ∃ v', e = .returned (.tuple #[v', .bool (Sto.does l c).isSome]) ∧ (∀ m, Sto.does l c = some m → PairsAt w' v' m) ∧ (v' = v ∨ ∀ g, v'.ownBlock = some g → w.heap.size ≤ g) ∧ Below w.heap.size w w' := by
 have hv0 : ∃ ao n cap, v = .slice ao n cap := by
  obtain ⟨ao, cap, rfl, _⟩ := h.read
  exact ⟨_, _, _, rfl⟩
 obtain ⟨ao, cap, rfl, hn, hcap, hcell⟩ := chsAt_read hc
 have HC : Hid (∀ w' : World, Below w.heap.size w w' → ∀ (j : Nat) p, c[j]? = some p → ∃ g, ao = some ⟨g, 0, none⟩ ∧ g < w.heap.size ∧ w'.cell? ⟨g, j * 3, none⟩ = some (.bool p.put) ∧ w'.cell? ⟨g, j * 3 + 1, none⟩ = some (.string ⟨p.key.toArray⟩) ∧ w'.cell? ⟨g, j * 3 + 2, none⟩ = some (.string ⟨p.value.toArray⟩)) := Lib.hid (fun w' hbl j p hj => by
  obtain ⟨g, h1, h2, h3, h4, h5⟩ := hcell j p hj
  exact ⟨g, h1, h2, cell_later hbl h3, cell_later hbl h4, cell_later hbl h5⟩)
 have HP := Lib.hid h
 have HG := Lib.hid hg
 have HF := Lib.hid hf
 clear hcell h hc hg hf
 go_enter Tryz.func54, Tryz.ntmps54
 go_wp2
 go_loopw [0, 6] (fun va i wr => ∃ (j : Nat) (m : Sto.Pairs) (vb : Value), va = vb ∧ i = .int .i64 j ∧ j ≤ c.length ∧ PairsAt wr vb m ∧ Sto.steps l (c.take j) = some m ∧ m.length ≤ l.length + j ∧ (vb = v ∨ ∀ g, vb.ownBlock = some g → w.heap.size ≤ g) ∧ Below w.heap.size w wr) (fun _ i _ => c.length - (intOf i).toNat)
 case atStart => exact ⟨0, l, v, rfl, rfl, by omega, HP.out, rfl, by omega, .inl rfl, Below.refl _ _⟩
 case round =>
  obtain ⟨j, m, _, rfl, rfl, hj, hpa, hst, hml, hva, hbl⟩ := hrel
  have HPA := Lib.hid hpa
  have HST := Lib.hid hst
  have HVA := Lib.hid hva
  have HB := Lib.hid hbl
  by_cases hlt : j < c.length
  ·obtain ⟨⟨pu, ky, vl⟩, hx⟩ : ∃ x, c[j]? = some x := ⟨_, List.getElem?_eq_getElem hlt⟩
   obtain ⟨g, rfl, hg', c0, c1, c2⟩ := HC.out wr hbl j _ hx
   have HS1 := Lib.hid (Sto.steps_take HST.out hx)
   have HFX := Lib.hid (HF.out _ (List.mem_of_getElem? hx))
   have hfd := rfind_any u0 m ky wr HPA.out
   obtain ⟨b, hbe⟩ : ∃ b, Sto.here m ky = b := ⟨_, rfl⟩
   obtain ⟨q, hq⟩ : ∃ q, Sto.place m ky = q := ⟨_, rfl⟩
   rw [hbe, hq] at hfd
   have HFD := Lib.hid hfd
   have HBE := Lib.hid hbe
   have HQ := Lib.hid hq
   clear hfd hbe hq hx hpa hst hva hbl
   simp only at c0 c1 c2
   cases pu with
   | false =>
    cases b with
    | false =>
     have HD : Hid (Sto.does l c = none) := Lib.hid (by
      have h1 : Sto.step m ⟨false, ky, vl⟩ = none := by unfold Sto.step; rw [if_neg (by simp)]; simp only []; rw [HBE.out]; rfl
      have h2 := HS1.out
      rw [h1] at h2
      unfold Sto.does
      rw [Sto.steps_none h2]; rfl)
     go_wp2_with fail
     refine HFD.out.mono ?_
     rintro e w1 ⟨rfl, hb1⟩
     have HB1 := Lib.hid hb1
     have c01 := cell_later hb1 c0
     have c11 := cell_later hb1 c1
     clear hb1
     go_wp2
     go_quiet (fail)
     go_wp2
     go_ret2
     exact ⟨u0, by rw [HD.out]; rfl, fun m' hm' => (by rw [HD.out] at hm'; cases hm'), HVA.out, below_drewN (bthen HB.out HB1.out) _⟩
    | true =>
     have h1 : Sto.step m ⟨false, ky, vl⟩ = some (Sto.del m ky) := by unfold Sto.step; rw [if_neg (by simp)]; simp only []; rw [HBE.out]; rfl
     have hlen := Sto.step_length h1
     have HS2 : Hid (Sto.steps l (c.take (j + 1)) = some (Sto.del m ky)) := Lib.hid (by rw [HS1.out, h1])
     have HWO := Lib.hid (fun W hW => rwithout_any u0 m ky W hW (by omega))
     clear h1
     go_wp2_with fail
     refine HFD.out.mono ?_
     rintro e w1 ⟨rfl, hb1⟩
     have HB1 := Lib.hid hb1
     have c01 := cell_later hb1 c0
     have c11 := cell_later hb1 c1
     have HPA1 := Lib.hid (HPA.out.below hb1)
     clear hb1
     go_wp2
     go_quiet (fail)
     rename_i nq
     have HBN := Lib.hid (below_drewN (Below.refl w1.heap.size w1) nq)
     go_wp2_with fail
     refine (HWO.out _ (HPA1.out.below HBN.out)).mono ?_
     rintro e w2 ⟨v2, rfl, hp2, hf2, hb2⟩
     have HP2 := Lib.hid hp2
     have HF2 := Lib.hid hf2
     have HB2 := Lib.hid (bthen (bthen HB1.out HBN.out) hb2)
     have HBW := Lib.hid (bthen HB.out HB2.out)
     clear hp2 hf2 hb2
     go_wp2
     go_round
     all_goals first
      | (simp [intOf]; omega)
      | exact ⟨j + 1, _, _, rfl, by go_num, by omega, HP2.out, HS2.out, by omega, (by
        rcases HF2.out with rfl | h
        ·exact HVA.out
        ·exact .inr (fun g hg => Nat.le_trans (Nat.le_trans HB.out.size (bthen HB1.out HBN.out).size) (h g hg))), HBW.out⟩
   | true =>
    cases b with
    | false =>
     have h1 : Sto.step m ⟨true, ky, vl⟩ = some (Sto.put m ky vl) := by
      have hb0 := HBE.out
      unfold Sto.here at hb0
      unfold Sto.step
      rw [if_pos rfl]
      simp only []
      cases hg : Sto.get m ky with
      | none => simp
      | some y => rw [hg] at hb0; cases hb0
     have hlen := Sto.step_length h1
     have HS2 : Hid (Sto.steps l (c.take (j + 1)) = some (Sto.put m ky vl)) := Lib.hid (by rw [HS1.out, h1])
     have HWI := Lib.hid (fun W hW => rwith_any u0 m ky vl W hW (by omega))
     clear h1
     go_wp2_with fail
     refine HFD.out.mono ?_
     rintro e w1 ⟨rfl, hb1⟩
     have HB1 := Lib.hid hb1
     have c01 := cell_later hb1 c0
     have c11 := cell_later hb1 c1
     have c21 := cell_later hb1 c2
     have HPA1 := Lib.hid (HPA.out.below hb1)
     clear hb1
     go_wp2
     go_quiet (fail)
     rename_i nq
     have HBN := Lib.hid (below_drewN (Below.refl w1.heap.size w1) nq)
     go_wp2_with fail
     obtain ⟨W0, hW0⟩ : ∃ W, (w1.drewN nq).drew = W := ⟨_, rfl⟩
     have HB0 : Hid (Below w1.heap.size w1 W0) := Lib.hid (by rw [← hW0]; exact HBN.out.drew)
     have c02 := cell_later HB0.out c01
     have c12 := cell_later HB0.out c11
     have c22 := cell_later HB0.out c21
     have HPA2 := Lib.hid (HPA1.out.below HB0.out)
     have HSZ := Lib.hid (bthen HB1.out HB0.out).size
     refine wp_region_heldL (S := fun w' => (w'.cell? ⟨g, j * 3, none⟩ = some (.bool true) ∧ w'.cell? ⟨g, j * 3 + 1, none⟩ = some (.string ⟨ky.toArray⟩) ∧ w'.cell? ⟨g, j * 3 + 2, none⟩ = some (.string ⟨vl.toArray⟩))) (by kernel_rfl) ?_
     rw [hW0]
     have hS0 : (W0.cell? ⟨g, j * 3, none⟩ = some (.bool true) ∧ W0.cell? ⟨g, j * 3 + 1, none⟩ = some (.string ⟨ky.toArray⟩) ∧ W0.cell? ⟨g, j * 3 + 2, none⟩ = some (.string ⟨vl.toArray⟩)) := ⟨c02, c12, c22⟩
     refine planned [0, 1, 2, 3, 4, 5, 6, 7, 8, 9, 10] ?_
     iterate 11 (refine planned_take (v := ?_) rfl (by kernel_rfl) (by kernel_rfl) (by kernel_rfl) (fun _ _ _ h => h) ?_ (by assumption) ?_; rotate_left; (focus (first | (refine Or.inr ⟨by rfl, ?_⟩; with_reducible rfl) | (refine Or.inl ⟨by rfl, ?_⟩; (intro w hSw; (try dsimp only at hSw); go_simp); try with_reducible rfl))); try simp only [Act.put, List.setIfInBounds_toArray, List.set_cons_zero, List.set_cons_succ])
     refine planned_end ?_
     refine wpAnyH_oneL (i := 11) rfl (by kernel_rfl) ?_
     intro K hK
     rw [if_pos (by rfl)]
     go_simp
     go_at_call 109
     refine (HWI.out _ HPA2.out).mono ?_
     rintro e w2 ⟨v2, rfl, hp2, hf2, hb2⟩
     have HP2 := Lib.hid hp2
     have HF2 := Lib.hid hf2
     have HB2 := Lib.hid (bthen (bthen HB1.out HB0.out) hb2)
     have HBW := Lib.hid (bthen HB.out HB2.out)
     have hS2 : (w2.cell? ⟨g, j * 3, none⟩ = some (.bool true) ∧ w2.cell? ⟨g, j * 3 + 1, none⟩ = some (.string ⟨ky.toArray⟩) ∧ w2.cell? ⟨g, j * 3 + 2, none⟩ = some (.string ⟨vl.toArray⟩)) := ⟨cell_later hb2 c02, cell_later hb2 c12, cell_later hb2 c22⟩
     clear hp2 hf2 hb2
     refine hK _ _ hS2 ?_
     clear hK K
     try simp only [Act.put, List.setIfInBounds_toArray, List.set_cons_zero, List.set_cons_succ]
     refine wpAnyH_oneL (i := 12) rfl (by kernel_rfl) ?_
     intro K hK
     rw [if_pos (by rfl)]
     go_simp
     refine hK _ _ hS2 ?_
     clear hK K
     try simp only [Act.put, List.setIfInBounds_toArray, List.set_cons_zero, List.set_cons_succ]
     refine wpAnyH_done (by kernel_rfl) ?_ _
     go_wp2
     go_round
     all_goals first
      | (simp [intOf]; omega)
      | exact ⟨j + 1, _, _, rfl, by go_num, by omega, HP2.out, HS2.out, by omega, .inr (fun g hg => Nat.le_trans (Nat.le_trans HB.out.size HSZ.out) (HF2.out g hg)), HBW.out⟩
    | true =>
     obtain ⟨p, hp, hk⟩ : ∃ p, m[q]? = some p ∧ p.1 = ky := by
      have hh := Sto.here_place m ky
      rw [HBE.out, HQ.out] at hh
      cases hl : m[q]? with
      | none => rw [hl] at hh; cases hh
      | some p => rw [hl] at hh; exact ⟨p, rfl, by simpa using hh.symm⟩
     have hget : Sto.get m ky = some p.2 := by rw [Sto.get_place, HQ.out, hp]; simp [hk]
     have hqm : q < m.length := (List.getElem?_eq_some_iff.1 hp).1
     obtain ⟨bo, bcap, rfl, hmn, hmc, hpc⟩ := HPA.out.read
     obtain ⟨g2, rfl, hg2, d0, d1⟩ := hpc q p hp
     clear hpc d0 hp
     by_cases hv : p.2 = vl
     ·-- nothing is changed
      have HD : Hid (Sto.does l c = none) := Lib.hid (by
       have h2 := HS1.out
       rw [show Sto.step m ⟨true, ky, vl⟩ = none by unfold Sto.step; rw [if_pos rfl]; simp only []; rw [hget, hv, if_pos rfl]] at h2
       unfold Sto.does
       rw [Sto.steps_none h2]; rfl)
      rw [hv] at d1
      clear hget
      go_wp2_with fail
      refine HFD.out.mono ?_
      rintro e w1 ⟨rfl, hb1⟩
      have HB1 := Lib.hid hb1
      have c01 := cell_later hb1 c0
      have c11 := cell_later hb1 c1
      have c21 := cell_later hb1 c2
      have d11 := cell_later hb1 d1
      clear hb1
      go_wp2
      go_quiet (fail)
      go_wp2
      go_ret2
      exact ⟨_, by rw [HD.out]; rfl, fun m' hm' => (by rw [HD.out] at hm'; cases hm'), HVA.out, below_drewN (bthen HB.out HB1.out) _⟩
     ·have hne : (p.2 == vl) = false := beq_eq_false_iff_ne.2 hv
      have h1 : Sto.step m ⟨true, ky, vl⟩ = some (Sto.put m ky vl) := by
       unfold Sto.step
       rw [if_pos rfl]
       simp only []
       rw [hget, if_neg (fun e => hv (Option.some.inj e))]
      clear hget
      have hlen := Sto.step_length h1
      have HS2 : Hid (Sto.steps l (c.take (j + 1)) = some (Sto.put m ky vl)) := Lib.hid (by rw [HS1.out, h1])
      have HWI := Lib.hid (fun W hW => rwith_any (.slice (some ⟨g2, 0, none⟩) m.length bcap) m ky vl W hW (by omega))
      clear h1
      go_wp2_with fail
      refine HFD.out.mono ?_
      rintro e w1 ⟨rfl, hb1⟩
      have HB1 := Lib.hid hb1
      have c01 := cell_later hb1 c0
      have c11 := cell_later hb1 c1
      have c21 := cell_later hb1 c2
      have HPA1 := Lib.hid (HPA.out.below hb1)
      have d11 := cell_later hb1 d1
      clear hb1
      go_wp2
      go_quiet (fail)
      rename_i nq
      have HBN := Lib.hid (below_drewN (Below.refl w1.heap.size w1) nq)
      go_wp2_with fail
      obtain ⟨W0, hW0⟩ : ∃ W, (w1.drewN nq).drew = W := ⟨_, rfl⟩
      have HB0 : Hid (Below w1.heap.size w1 W0) := Lib.hid (by rw [← hW0]; exact HBN.out.drew)
      have c02 := cell_later HB0.out c01
      have c12 := cell_later HB0.out c11
      have c22 := cell_later HB0.out c21
      have HPA2 := Lib.hid (HPA1.out.below HB0.out)
      have HSZ := Lib.hid (bthen HB1.out HB0.out).size
      refine wp_region_heldL (S := fun w' => (w'.cell? ⟨g, j * 3, none⟩ = some (.bool true) ∧ w'.cell? ⟨g, j * 3 + 1, none⟩ = some (.string ⟨ky.toArray⟩) ∧ w'.cell? ⟨g, j * 3 + 2, none⟩ = some (.string ⟨vl.toArray⟩))) (by kernel_rfl) ?_
      rw [hW0]
      have hS0 : (W0.cell? ⟨g, j * 3, none⟩ = some (.bool true) ∧ W0.cell? ⟨g, j * 3 + 1, none⟩ = some (.string ⟨ky.toArray⟩) ∧ W0.cell? ⟨g, j * 3 + 2, none⟩ = some (.string ⟨vl.toArray⟩)) := ⟨c02, c12, c22⟩
      refine planned [0, 1, 2, 3, 4, 5, 6, 7, 8, 9, 10] ?_
      iterate 11 (refine planned_take (v := ?_) rfl (by kernel_rfl) (by kernel_rfl) (by kernel_rfl) (fun _ _ _ h => h) ?_ (by assumption) ?_; rotate_left; (focus (first | (refine Or.inr ⟨by rfl, ?_⟩; with_reducible rfl) | (refine Or.inl ⟨by rfl, ?_⟩; (intro w hSw; (try dsimp only at hSw); go_simp); try with_reducible rfl))); try simp only [Act.put, List.setIfInBounds_toArray, List.set_cons_zero, List.set_cons_succ])
      refine planned_end ?_
      refine wpAnyH_oneL (i := 11) rfl (by kernel_rfl) ?_
      intro K hK
      rw [if_pos (by rfl)]
      go_simp
      go_at_call 109
      refine (HWI.out _ HPA2.out).mono ?_
      rintro e w2 ⟨v2, rfl, hp2, hf2, hb2⟩
      have HP2 := Lib.hid hp2
      have HF2 := Lib.hid hf2
      have HB2 := Lib.hid (bthen (bthen HB1.out HB0.out) hb2)
      have HBW := Lib.hid (bthen HB.out HB2.out)
      have hS2 : (w2.cell? ⟨g, j * 3, none⟩ = some (.bool true) ∧ w2.cell? ⟨g, j * 3 + 1, none⟩ = some (.string ⟨ky.toArray⟩) ∧ w2.cell? ⟨g, j * 3 + 2, none⟩ = some (.string ⟨vl.toArray⟩)) := ⟨cell_later hb2 c02, cell_later hb2 c12, cell_later hb2 c22⟩
      clear hp2 hf2 hb2
      refine hK _ _ hS2 ?_
      clear hK K
      try simp only [Act.put, List.setIfInBounds_toArray, List.set_cons_zero, List.set_cons_succ]
      refine wpAnyH_oneL (i := 12) rfl (by kernel_rfl) ?_
      intro K hK
      rw [if_pos (by rfl)]
      go_simp
      refine hK _ _ hS2 ?_
      clear hK K
      try simp only [Act.put, List.setIfInBounds_toArray, List.set_cons_zero, List.set_cons_succ]
      refine wpAnyH_done (by kernel_rfl) ?_ _
      go_wp2
      go_round
      all_goals first
       | (simp [intOf]; omega)
       | exact ⟨j + 1, _, _, rfl, by go_num, by omega, HP2.out, HS2.out, by omega, .inr (fun g hg => Nat.le_trans (Nat.le_trans HB.out.size HSZ.out) (HF2.out g hg)), HBW.out⟩
  ·obtain rfl : j = c.length := by omega
   rw [List.take_length] at HST
   have HGM : Hid (Sto.Good m) := Lib.hid (HG.out.steps HF.out HST.out)
   have hsz : Sto.size m ≤ 4611686018427387904 := by
    have := Sto.size_ok HGM.out.ok
    omega
   have HFT := Lib.hid (rfits_any u0 m wr HPA.out hsz)
   have HD : Hid (Sto.does l c = if Sto.fits m then some m else none) := Lib.hid (by unfold Sto.does; rw [HST.out]; rfl)
   obtain ⟨ft, hft⟩ : ∃ b, Sto.fits m = b := ⟨_, rfl⟩
   rw [hft] at HFT HD
   clear hpa hst hva hbl hsz hft
   go_wp2_with fail
   refine HFT.out.mono ?_
   rintro e w1 ⟨rfl, hb1⟩
   have HB1 := Lib.hid hb1
   clear hb1
   go_wp2
   go_ret2
   refine ⟨u0, ?_, ?_, HVA.out, bthen HB.out HB1.out⟩
   ·rw [HD.out]; cases ft <;> rfl
   ·intro m' hm'
    rw [HD.out] at hm'
    cases ft with
    | false => cases hm'
    | true => cases hm'; exact HPA.out.below HB1.out
end Go.Proofs.YtpjpknndfhablaaGreat
namespace Go.Proofs.YtpjpknndfhablaaGreat
open Go.RowKit
/-- A reader lies in block b: what is left of the text, and whether it was overrun. -/
def ReaderAt (w : World) (b : Nat) (s : Sto.S) (lost : Bool) : Prop := w.heap[b]? = some (.cells #[.string ⟨s.toArray⟩, .bool lost] 162 (0, 0))
theorem ReaderAt.cells {w : World} {b : Nat} {s : Sto.S} {lost : Bool} (h : ReaderAt w b s lost) : w.cell? ⟨b, 0, none⟩ = some (.string ⟨s.toArray⟩) ∧ w.cell? ⟨b, 1, none⟩ = some (.bool lost) ∧ (∀ i, w.frozen? ⟨b, i, none⟩ = false) ∧ b < w.heap.size :=
 ⟨cell_of h rfl, cell_of h rfl, free_of h, heap_lt h⟩
theorem ReaderAt.setLost {w : World} {b : Nat} {s : Sto.S} {lost : Bool} (h : ReaderAt w b s lost) (x : Bool) : ReaderAt (w.setCell ⟨b, 1, none⟩ (.bool x)) b s x := by
 have := heap_set (i := 1) (.bool x) h
 simpa [ReaderAt] using this
theorem ReaderAt.setText {w : World} {b : Nat} {s : Sto.S} {lost : Bool} (h : ReaderAt w b s lost) (t : Sto.S) : ReaderAt (w.setCell ⟨b, 0, none⟩ (.string ⟨t.toArray⟩)) b t lost := by
 have := heap_set (i := 0) (.string ⟨t.toArray⟩) h
 simpa [ReaderAt] using this
set_option maxHeartbeats 2000000 in
theorem take_lost (b : Nat) (s : Sto.S) (n : Nat) (w : World) (h : ReaderAt w b s true) :
  Calls Tryz.prog 100 #[.pointer (some ⟨b, 0, none⟩), .int .i64 n] w fun e w' => e = .returned (.string ⟨#[]⟩) ∧ ReaderAt w' b s true ∧ Touch (· = b) w w' := by
 obtain ⟨c0, c1, cf, _⟩ := h.cells
 have cf1 := cf 1
 have H := Lib.hid h
 clear h cf
 go_enter Tryz.func100, Tryz.ntmps100
 go_wp2
 go_ret
 exact ⟨rfl, H.out.setLost true, (Touch.refl (· = b) w).setCell _ (fun _ => rfl)⟩
set_option maxHeartbeats 2000000 in
theorem take_short (b : Nat) (s : Sto.S) (n : Nat) (w : World) (h : ReaderAt w b s false) (hn : s.length < n) :
  Calls Tryz.prog 100 #[.pointer (some ⟨b, 0, none⟩), .int .i64 n] w fun e w' => e = .returned (.string ⟨#[]⟩) ∧ ReaderAt w' b s true ∧ Touch (· = b) w w' := by
 obtain ⟨c0, c1, cf, _⟩ := h.cells
 have cf1 := cf 1
 have H := Lib.hid h
 clear h cf
 go_enter Tryz.func100, Tryz.ntmps100
 go_wp2
 go_ret
 exact ⟨rfl, H.out.setLost true, (Touch.refl (· = b) w).setCell _ (fun _ => rfl)⟩
set_option maxHeartbeats 2000000 in
theorem take_some (b : Nat) (s : Sto.S) (n : Nat) (w : World) (h : ReaderAt w b s false) (hn : n ≤ s.length) :
  Calls Tryz.prog 100 #[.pointer (some ⟨b, 0, none⟩), .int .i64 n] w fun e w' => e = .returned (.string ⟨(s.take n).toArray⟩) ∧ ReaderAt w' b (s.drop n) false ∧ Touch (· = b) w w' := by
 obtain ⟨c0, c1, cf, _⟩ := h.cells
 have cf0 := cf 0
 have H := Lib.hid h
 have he1 : (⟨s.toArray⟩ : ByteArray).extract 0 n = ⟨(s.take n).toArray⟩ := by
  have := ext_take s 0 n
  simpa using this
 have he2 : (⟨s.toArray⟩ : ByteArray).extract n s.length = ⟨(s.drop n).toArray⟩ := by
  have := ext_take s n (s.length - n)
  rw [show n + (s.length - n) = s.length by omega] at this
  rw [this, List.take_of_length_le (by simp)]
 clear h cf
 go_enter Tryz.func100, Tryz.ntmps100
 go_wp2
 go_ret
 exact ⟨rfl, H.out.setText (s.drop n), (Touch.refl (· = b) w).setCell _ (fun _ => rfl)⟩
end Go.Proofs.YtpjpknndfhablaaGreat
namespace Go.Proofs.YtpjpknndfhablaaGreat
namespace Sto
theorem numAt_bad {s : S} {p : Int} {m : Nat} (h : p < 0 ∨ (s.length : Int) < p + m) : numAt s p m = (0, -1) := by unfold numAt; rw [if_pos h]
theorem numAt_ok {s : S} {p m : Nat} (h : p + m ≤ s.length) : numAt s p m = (Sha.val ((s.drop p).take m), ((p + m : Nat) : Int)) := by
 unfold numAt
 rw [if_neg (by omega)]
 simp
theorem textAt_bad {s : S} {p : Int} {m : Nat} (h : p < 0 ∨ (s.length : Int) < p + m) : textAt s p m = ([], -1) := by unfold textAt; rw [if_pos h]
theorem textAt_ok {s : S} {p m : Nat} (h : p + m ≤ s.length) : textAt s p m = ((s.drop p).take m, ((p + m : Nat) : Int)) := by
 unfold textAt
 rw [if_neg (by omega)]
 simp
theorem val_one (x : UInt8) : Sha.val [x] = x.toNat := by simp [Sha.val]
theorem drop_two {s : S} {p : Nat} {x y : UInt8} {r : S} (h : s.drop p = x :: y :: r) : s.drop (p + 1) = y :: r ∧ s.drop (p + 2) = r ∧ p + 2 + r.length = s.length := by
 have h1 : s.drop (p + 1) = y :: r := by rw [← List.drop_drop, h]; rfl
 have h2 : s.drop (p + 2) = r := by rw [← List.drop_drop, h]; rfl
 have := congrArg List.length h
 rw [List.length_drop] at this
 simp at this
 exact ⟨h1, h2, by omega⟩
/-- What the document reads at a place: the kind, the key, the value, the place behind. -/
def kindAt (s : S) (p : Int) : Nat × Int := numAt s p 1
def manyAt (s : S) (p : Int) : Nat × Int := numAt s (kindAt s p).2 1
def keyAt (s : S) (p : Int) : S × Int := textAt s (manyAt s p).2 (manyAt s p).1
def lenAt (s : S) (p : Int) : Nat × Int := numAt s (keyAt s p).2 2
def valAt (s : S) (p : Int) : S × Int := textAt s (lenAt s p).2 (lenAt s p).1
theorem heads {s : S} {p : Nat} :
  ((s.drop p).length < 2 ∧ (kindAt s p).1 < 256 ∧ keyAt s p = ([], -1) ∧ valAt s p = ([], -1) ∧ one (s.drop p) = none) ∨
  ∃ x y r, s.drop p = x :: y :: r ∧ kindAt s p = (x.toNat, ((p + 1 : Nat) : Int)) ∧ manyAt s p = (y.toNat, ((p + 2 : Nat) : Int)) ∧ p + 2 + r.length = s.length := by
 rcases hd : s.drop p with _ | ⟨x, _ | ⟨y, r⟩⟩
 ·left
  have hl := congrArg List.length hd
  rw [List.length_drop] at hl
  simp at hl
  have hk : kindAt s p = (0, -1) := numAt_bad (by omega)
  have hm : manyAt s p = (0, -1) := by unfold manyAt; rw [hk]; exact numAt_bad (.inl (by decide))
  have ht : keyAt s p = ([], -1) := by unfold keyAt; rw [hm]; exact textAt_bad (.inl (by decide))
  have hl' : lenAt s p = (0, -1) := by unfold lenAt; rw [ht]; exact numAt_bad (.inl (by decide))
  have hv : valAt s p = ([], -1) := by unfold valAt; rw [hl']; exact textAt_bad (.inl (by decide))
  exact ⟨by simp, by rw [hk]; decide, ht, hv, rfl⟩
 ·left
  have hl := congrArg List.length hd
  rw [List.length_drop] at hl
  simp at hl
  have hk : kindAt s p = (x.toNat, ((p + 1 : Nat) : Int)) := by
   unfold kindAt
   rw [show ((p : Int)) = ((p : Nat) : Int) from rfl, numAt_ok (by omega), hd]
   simp [val_one]
  have hm : manyAt s p = (0, -1) := by unfold manyAt; rw [hk]; exact numAt_bad (.inr (by simp; omega))
  have ht : keyAt s p = ([], -1) := by unfold keyAt; rw [hm]; exact textAt_bad (.inl (by decide))
  have hl' : lenAt s p = (0, -1) := by unfold lenAt; rw [ht]; exact numAt_bad (.inl (by decide))
  have hv : valAt s p = ([], -1) := by unfold valAt; rw [hl']; exact textAt_bad (.inl (by decide))
  exact ⟨by simp, by rw [hk]; exact x.toNat_lt, ht, hv, rfl⟩
 ·right
  obtain ⟨h1, h2, h3⟩ := drop_two hd
  have hk : kindAt s p = (x.toNat, ((p + 1 : Nat) : Int)) := by
   unfold kindAt
   rw [numAt_ok (by omega), hd]
   simp [val_one]
  have hm : manyAt s p = (y.toNat, ((p + 2 : Nat) : Int)) := by
   unfold manyAt
   rw [hk]
   simp only
   rw [numAt_ok (by omega), h1]
   simp [val_one]
   omega
  exact ⟨x, y, r, rfl, hk, hm, h3⟩
theorem keyAt_cases {s : S} {p : Nat} {x y : UInt8} {r : S} (hd : s.drop p = x :: y :: r) (hm : manyAt s p = (y.toNat, ((p + 2 : Nat) : Int))) :
  (r.length < y.toNat ∧ keyAt s p = ([], -1)) ∨ (y.toNat ≤ r.length ∧ keyAt s p = (r.take y.toNat, ((p + 2 + y.toNat : Nat) : Int))) := by
 obtain ⟨h1, h2, h3⟩ := drop_two hd
 rcases Nat.lt_or_ge r.length y.toNat with h | h
 ·exact .inl ⟨h, by unfold keyAt; rw [hm]; exact textAt_bad (.inr (by simp; omega))⟩
 ·right
  refine ⟨h, ?_⟩
  unfold keyAt
  rw [hm]
  simp only
  rw [textAt_ok (by omega), h2]
theorem toNat_zero {x : UInt8} (h : x.toNat = 0) : x = 0 := UInt8.toNat_inj.1 (by rw [h]; rfl)
theorem toNat_one {x : UInt8} (h : x.toNat = 1) : x = 1 := UInt8.toNat_inj.1 (by rw [h]; rfl)
theorem one_del_bad {s : S} {p : Nat} (h1 : (kindAt s p).1 ≠ 1) (h : (keyAt s p).2 < 0 ∨ 1 < (kindAt s p).1) : one (s.drop p) = none := by
 rcases heads (s := s) (p := p) with ⟨_, _, _, _, h⟩ | ⟨x, y, r, hd, hk, hm, hl⟩
 ·exact h
 rw [hd]
 rw [hk] at h1 h
 simp only at h1 h
 have hx1 : x ≠ 1 := fun e => h1 (by rw [e]; rfl)
 rcases keyAt_cases hd hm with ⟨a, b⟩ | ⟨a, b⟩
 ·simp only [one, if_pos a]
 ·rw [b] at h
  have hx0 : x ≠ 0 := fun e => by rw [e] at h; simp at h; omega
  simp only [one, if_neg (Nat.not_lt.2 a), if_neg hx0, if_neg hx1]
theorem one_del_ok {s : S} {p : Nat} (h1 : (kindAt s p).1 ≠ 1) (h2 : 0 ≤ (keyAt s p).2) (h3 : (kindAt s p).1 ≤ 1) :
  one (s.drop p) = some (⟨false, (keyAt s p).1, []⟩, s.drop (keyAt s p).2.toNat) ∧ (keyAt s p).2 ≤ s.length ∧ (p : Int) < (keyAt s p).2 := by
 rcases heads (s := s) (p := p) with ⟨_, _, h, _, _⟩ | ⟨x, y, r, hd, hk, hm, hl⟩
 ·rw [h] at h2; exact absurd h2 (by decide)
 rw [hk] at h1 h3
 simp only at h1 h3
 have hx : x = 0 := toNat_zero (by omega)
 obtain ⟨_, e2, _⟩ := drop_two hd
 rcases keyAt_cases hd hm with ⟨a, b⟩ | ⟨a, b⟩
 ·rw [b] at h2; exact absurd h2 (by decide)
 ·rw [b, hd]
  refine ⟨?_, by simp; omega, by simp; omega⟩
  simp only [one, if_neg (Nat.not_lt.2 a), hx, if_true, Int.toNat_natCast]
  rw [← e2, List.drop_drop]
theorem one_put {s : S} {p : Nat} (h1 : (kindAt s p).1 = 1) :
  ((valAt s p).2 < 0 ∧ one (s.drop p) = none) ∨
  (0 ≤ (valAt s p).2 ∧ one (s.drop p) = some (⟨true, (keyAt s p).1, (valAt s p).1⟩, s.drop (valAt s p).2.toNat) ∧ (valAt s p).2 ≤ s.length ∧ (p : Int) < (valAt s p).2) := by
 rcases heads (s := s) (p := p) with ⟨_, _, _, h, h'⟩ | ⟨x, y, r, hd, hk, hm, hl⟩
 ·exact .inl ⟨by rw [h]; decide, h'⟩
 rw [hk] at h1
 simp only at h1
 have hx : x = 1 := toNat_one h1
 obtain ⟨_, e2, _⟩ := drop_two hd
 have h10 : ¬ ((1 : UInt8) = 0) := by decide
 rcases keyAt_cases hd hm with ⟨a, b⟩ | ⟨a, b⟩
 ·left
  have hl' : lenAt s p = (0, -1) := by unfold lenAt; rw [b]; exact numAt_bad (.inl (by decide))
  have hv : valAt s p = ([], -1) := by unfold valAt; rw [hl']; exact textAt_bad (.inl (by decide))
  rw [hv, hd]
  exact ⟨by decide, by simp only [one, if_pos a]⟩
 ·have e3 : s.drop (p + 2 + y.toNat) = r.drop y.toNat := by rw [← e2, List.drop_drop]
  have e4 : (r.drop y.toNat).length = r.length - y.toNat := List.length_drop
  by_cases hc : (r.drop y.toNat).length < 2
  ·left
   have hl' : lenAt s p = (0, -1) := by unfold lenAt; rw [b]; exact numAt_bad (.inr (by simp; omega))
   have hv : valAt s p = ([], -1) := by unfold valAt; rw [hl']; exact textAt_bad (.inl (by decide))
   rw [hv, hd]
   exact ⟨by decide, by simp only [one, if_neg (Nat.not_lt.2 a), hx, h10, if_false, if_true, if_pos hc]⟩
  ·have hl' : lenAt s p = (Sha.val ((r.drop y.toNat).take 2), ((p + 2 + y.toNat + 2 : Nat) : Int)) := by
    unfold lenAt
    rw [b]
    simp only
    rw [numAt_ok (by omega), e3]
   have e5 : s.drop (p + 2 + y.toNat + 2) = (r.drop y.toNat).drop 2 := by rw [← e3, List.drop_drop]
   have e6 : ((r.drop y.toNat).drop 2).length = r.length - y.toNat - 2 := by rw [List.length_drop, e4]
   by_cases hv : ((r.drop y.toNat).drop 2).length < Sha.val ((r.drop y.toNat).take 2)
   ·left
    have hv' : valAt s p = ([], -1) := by unfold valAt; rw [hl']; exact textAt_bad (.inr (by simp; omega))
    rw [hv', hd]
    exact ⟨by decide, by simp only [one, if_neg (Nat.not_lt.2 a), hx, h10, if_false, if_true, if_neg hc, if_pos hv]⟩
   ·right
    have hv' : valAt s p = (((r.drop y.toNat).drop 2).take (Sha.val ((r.drop y.toNat).take 2)), ((p + 2 + y.toNat + 2 + Sha.val ((r.drop y.toNat).take 2) : Nat) : Int)) := by
     unfold valAt
     rw [hl']
     simp only
     rw [textAt_ok (by omega), e5]
    rw [hv', b, hd]
    refine ⟨by simp; omega, ?_, by simp; omega, by simp; omega⟩
    simp only [one, if_neg (Nat.not_lt.2 a), hx, h10, if_false, if_true, if_neg hc, if_neg hv, Int.toNat_natCast]
    rw [← e5, List.drop_drop]
/-! Rounds. -/
theorem dec_bad {n : Nat} {s : S} {last : Option S} (h : one s = none) : dec (n + 1) s last = none := by simp [dec, h]
theorem dec_bad' {n : Nat} {s r : S} {c : Ch} {last : Option S} (h : one s = some (c, r)) (hb : (keyOk c.key && valueOk c.value && after last c.key) = false) : dec (n + 1) s last = none := by
 simp only [dec, h, hb]
 rfl
theorem dec_ok {n : Nat} {s r : S} {c : Ch} {last : Option S} (h : one s = some (c, r)) (hb : (keyOk c.key && valueOk c.value && after last c.key) = true) : dec (n + 1) s last = (dec n r (some c.key)).map (c :: ·) := by
 simp only [dec, h, hb]
 rfl
/-- So many are read already. -/
def Read (N : Nat) (s : S) (l : List Ch) (n : Nat) (r : S) : Prop := dec N s none = (dec n r (l.getLast?.map (·.key))).map (l ++ ·)
theorem Read.start (N : Nat) (s : S) : Read N s [] N s := by
 unfold Read
 cases h : dec N s none <;> simp [h]
theorem Read.bad {N n : Nat} {s r : S} {l : List Ch} (h : Read N s l (n + 1) r) (hb : one r = none) : dec N s none = none := by
 unfold Read at h
 rw [h, dec_bad hb]; rfl
theorem Read.bad' {N n : Nat} {s r r' : S} {l : List Ch} {c : Ch} (h : Read N s l (n + 1) r) (h1 : one r = some (c, r')) (hb : (keyOk c.key && valueOk c.value && after (l.getLast?.map (·.key)) c.key) = false) : dec N s none = none := by
 unfold Read at h
 rw [h, dec_bad' h1 hb]; rfl
theorem Read.next {N n : Nat} {s r r' : S} {l : List Ch} {c : Ch} (h : Read N s l (n + 1) r) (h1 : one r = some (c, r')) (hb : (keyOk c.key && valueOk c.value && after (l.getLast?.map (·.key)) c.key) = true) : Read N s (l ++ [c]) n r' := by
 unfold Read at h ⊢
 rw [h, dec_ok h1 hb]
 have e : (l ++ [c]).getLast?.map (·.key) = some c.key := by simp
 rw [e]
 cases hd : dec n r' (some c.key) <;> simp
theorem Read.done {N : Nat} {s r : S} {l : List Ch} (h : Read N s l 0 r) : dec N s none = if r = [] then some l else none := by
 unfold Read at h
 rw [h]
 simp only [dec]
 split <;> simp
end Sto
end Go.Proofs.YtpjpknndfhablaaGreat
