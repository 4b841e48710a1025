/- Walks of the log's small functions: framed, whole, counted. -/
import Derived.Test.YtpjpknndfhablaaWalA
namespace Go.Proofs.Ytpjpknndfhablaa
open Go.RowKit
theorem ext_take (l : List UInt8) (i n : Nat) : (⟨l.toArray⟩ : ByteArray).extract i (i + n) = ⟨((l.drop i).take n).toArray⟩ := by
  apply ByteArray.ext
  simp [ByteArray.data_extract, List.take_drop]
set_option maxHeartbeats 2000000 in
theorem framed_any (s : List UInt8) (w : World) (hs : s.length ≤ 1048576) :
    Calls Try.prog 79 #[.string ⟨s.toArray⟩] w fun e w' => e = .returned (.string ⟨(Wal.frame s).toArray⟩) ∧ Below w.heap.size w w' := by
  obtain ⟨A, hA⟩ : ∃ A, Sha.big s.length 4 = A := ⟨_, rfl⟩
  obtain ⟨c, hc⟩ : ∃ c, Wal.crc s = c := ⟨_, rfl⟩
  have hcl := Wal.crc_lt s
  rw [hc] at hcl
  obtain ⟨B, hB⟩ : ∃ B, Sha.big c 4 = B := ⟨_, rfl⟩
  have hAl : A.length = 4 := by rw [← hA]; exact Sha.big_length _ _
  have hBl : B.length = 4 := by rw [← hB]; exact Sha.big_length _ _
  have HF : Hid (Wal.frame s = A ++ B ++ s) := Lib.hid (by unfold Wal.frame; rw [hA, hc, hB])
  have HA := Lib.hid hA
  have HB := Lib.hid hB
  have HC := Lib.hid hc
  clear hA hB hc
  have hap1 := bytes_append A B
  have hap2 := bytes_append (A ++ B) s
  go_enter Try.func79, Try.ntmps79
  go_wp2_with fail
  refine (put_any s.length 4 w (by decide) (by omega)).mono ?_
  rw [HA.out]
  rintro e w1 ⟨rfl, b1⟩
  have B1 := Lib.hid b1
  clear b1
  go_wp2_with fail
  refine (wsum_any s w1 (by omega)).mono ?_
  rw [HC.out]
  rintro e w2 ⟨rfl, rfl⟩
  go_wp2_with fail
  refine (put_any c 4 w1 (by decide) (by omega)).mono ?_
  rw [HB.out]
  rintro e w2 ⟨rfl, b2⟩
  have B2 := Lib.hid (bthen B1.out b2)
  clear b2
  go_wp2_with fail
  go_ret
  exact ⟨by rw [HF.out, List.append_assoc]; rfl, B2.out⟩
set_option maxHeartbeats 4000000 in
set_option maxRecDepth 100000 in
theorem whole_any (l : List UInt8) (p most : Nat) (w : World) (hl : l.length ≤ 2097152) (hp : p ≤ 4194304) (hm : most ≤ 1048576) :
    Calls Try.prog 88 #[.string ⟨l.toArray⟩, .int .i64 p, .int .i64 most] w fun e w' => e = .returned (.tuple #[.string ⟨(Wal.whole l p most).1.toArray⟩, .bool (Wal.whole l p most).2]) ∧ Below w.heap.size w w' := by
  by_cases h1 : l.length < p + 8
  · have HW := Lib.hid (Wal.whole_short (most := most) h1)
    go_enter Try.func88, Try.ntmps88
    go_wp2
    go_ret2
    exact ⟨by rw [HW.out]; rfl, Below.refl _ _⟩
  · obtain ⟨l4, hl4⟩ : ∃ l4, (l.drop p).take 4 = l4 := ⟨_, rfl⟩
    have hl4L : l4.length = 4 := by rw [← hl4]; simp; omega
    obtain ⟨n, hn⟩ : ∃ n, Sha.val l4 = n := ⟨_, rfl⟩
    have hnl : n < 4294967296 := by
      have h := Sha.val_lt l4
      rw [hl4L, hn] at h
      exact h
    have hext1 := ext_take l p 4
    rw [hl4] at hext1
    have HN := Lib.hid hn
    have HL4 := Lib.hid hl4L
    by_cases h2 : most < n
    · have HW : Hid (Wal.whole l p most = ([], false)) := Lib.hid (by unfold Wal.whole; rw [if_neg h1, hl4, hn, if_pos (.inl h2)])
      clear hn hl4 hl4L
      go_enter Try.func88, Try.ntmps88
      go_wp2_with fail
      refine (of_any l4 w (by rw [HL4.out]; decide)).mono ?_
      rw [HN.out]
      rintro e w1 ⟨rfl, rfl⟩
      go_wp2
      go_ret2
      exact ⟨by rw [HW.out]; rfl, Below.refl _ _⟩
    by_cases h3 : l.length - p - 8 < n
    · have HW : Hid (Wal.whole l p most = ([], false)) := Lib.hid (by unfold Wal.whole; rw [if_neg h1, hl4, hn, if_pos (.inr h3)])
      clear hn hl4 hl4L
      go_enter Try.func88, Try.ntmps88
      go_wp2_with fail
      refine (of_any l4 w (by rw [HL4.out]; decide)).mono ?_
      rw [HN.out]
      rintro e w1 ⟨rfl, rfl⟩
      go_wp2
      go_ret2
      exact ⟨by rw [HW.out]; rfl, Below.refl _ _⟩
    · obtain ⟨s, hs⟩ : ∃ s, (l.drop (p + 8)).take n = s := ⟨_, rfl⟩
      obtain ⟨c4, hc4⟩ : ∃ c4, (l.drop (p + 4)).take 4 = c4 := ⟨_, rfl⟩
      have hc4L : c4.length = 4 := by rw [← hc4]; simp; omega
      have hsl : s.length ≤ 2097152 := by rw [← hs]; simp; omega
      obtain ⟨c, hc⟩ : ∃ c, Wal.crc s = c := ⟨_, rfl⟩
      obtain ⟨v, hv⟩ : ∃ v, Sha.val c4 = v := ⟨_, rfl⟩
      have hcl := Wal.crc_lt s
      rw [hc] at hcl
      have hext2 := ext_take l (p + 8) n
      rw [hs] at hext2
      have hext3 := ext_take l (p + 4) 4
      rw [hc4, show p + 4 + 4 = p + 8 by omega] at hext3
      have HW : Hid (Wal.whole l p most = (s, c == v)) := Lib.hid (by unfold Wal.whole; rw [if_neg h1, hl4, hn, if_neg (by omega), hs, hc4, hc, hv])
      have HC := Lib.hid hc
      have HV := Lib.hid hv
      have HC4 := Lib.hid hc4L
      have HEQ : Hid (((c : Int) == (v : Int)) = (c == v)) := Lib.hid (by rw [Bool.eq_iff_iff]; simp; omega)
      clear hn hl4 hl4L hs hc4 hc4L hc hv
      have hmx : Try.prog.follows .mixedOrders = true := by kernel_rfl
      go_enter Try.func88, Try.ntmps88
      go_wp2_with fail
      refine (of_any l4 w (by rw [HL4.out]; decide)).mono ?_
      rw [HN.out]
      rintro e w1 ⟨rfl, rfl⟩
      go_wp2_with fail
      have q1 : ∀ W, Calls Try.prog 33 #[.string ⟨s.toArray⟩] W fun e w' => e = .returned (.int .u32 c) ∧ w' = W := fun W => by
        have := wsum_any s W (by omega)
        rw [HC.out] at this
        exact this.mono fun _ _ h => ⟨h.1, h.2.symm⟩
      have q2 : ∀ W, Calls Try.prog 104 #[.string ⟨c4.toArray⟩] W fun e w' => e = .returned (.int .u64 v) ∧ w' = W := fun W => by
        have := of_any c4 W (by rw [HC4.out]; decide)
        rw [HV.out] at this
        exact this.mono fun _ _ h => ⟨h.1, h.2.symm⟩
      have Q1 := Lib.hid q1
      have Q2 := Lib.hid q2
      clear q1 q2
      rw [hext2]
      clear hext2
      go_quiet (first | (go_at_call 33; exact Calls.quiet_of_same (Q1.out _)) | (go_at_call 104; exact Calls.quiet_of_same (Q2.out _)))
      go_wp2
      go_ret2
      exact ⟨by rw [HW.out, ← HEQ.out]; rfl, below_drewN (Below.refl _ _) _⟩
theorem magic_eq (m : List UInt8) : (m == [83, 78, 76, 49]) = decide (m = Wal.magic) := by
  by_cases h : m = Wal.magic
  · rw [decide_eq_true h, h]; rfl
  · rw [decide_eq_false h]; simpa [Wal.magic] using h
set_option maxHeartbeats 1000000 in
theorem prefix_any (l : List UInt8) (w : World) (h : 12 ≤ l.length) (hl : l.length ≤ 2097152) :
    Calls Try.prog 103 #[.string ⟨l.toArray⟩, .string ⟨#[83, 78, 76, 49]⟩] w fun e w' => e = .returned (.bool (decide (l.take 4 = Wal.magic))) ∧ w = w' := by
  have hext := bytes_extract l 4
  have hm := magic_eq (l.take 4)
  obtain ⟨m4, hm4⟩ : ∃ m4, l.take 4 = m4 := ⟨_, rfl⟩
  rw [hm4] at hm hext ⊢
  clear hm4
  obtain ⟨b, hb⟩ : ∃ b, decide (m4 = Wal.magic) = b := ⟨_, rfl⟩
  rw [hb] at hm ⊢
  have HM := Lib.hid hm
  clear hb hm
  go_enter Try.func103, Try.ntmps103
  go_wp2
  go_ret
  exact ⟨ret_bool HM.out, rfl⟩
set_option maxHeartbeats 4000000 in
set_option maxRecDepth 100000 in
theorem counted_any (l : List UInt8) (w : World) (hl : l.length ≤ 2097152) :
    Calls Try.prog 87 #[.string ⟨l.toArray⟩] w fun e w' => e = .returned (.tuple #[.int .u64 (Wal.counts l).1, .string ⟨(Wal.counts l).2.1.toArray⟩, .int .i64 (Wal.counts l).2.2]) ∧ Below w.heap.size w w' := by
  by_cases h12 : l.length < 12
  · have HW : Hid (Wal.counts l = (0, [], 0)) := Lib.hid (by unfold Wal.counts; rw [if_pos (.inl h12)])
    go_enter Try.func87, Try.ntmps87
    go_wp2_with fail
    go_ret3
    exact ⟨by rw [HW.out]; rfl, Below.refl _ _⟩
  obtain ⟨b, hb⟩ : ∃ b, decide (l.take 4 = Wal.magic) = b := ⟨_, rfl⟩
  have HP : Hid (∀ W, Calls Try.prog 103 #[.string ⟨l.toArray⟩, .string ⟨#[83, 78, 76, 49]⟩] W fun e w' => e = .returned (.bool b) ∧ W = w') := Lib.hid fun W => by
    have := prefix_any l W (by omega) hl
    rwa [hb] at this
  cases b with
  | false =>
    have HW : Hid (Wal.counts l = (0, [], 0)) := Lib.hid (by unfold Wal.counts; rw [if_pos (.inr (of_decide_eq_false hb))])
    clear hb
    go_enter Try.func87, Try.ntmps87
    go_wp2_with fail
    refine (HP.out w).mono ?_
    rintro e w1 ⟨rfl, rfl⟩
    go_wp2_with fail
    go_ret3
    exact ⟨by rw [HW.out]; rfl, Below.refl _ _⟩
  | true =>
    have hmag := of_decide_eq_true hb
    obtain ⟨l8, hl8⟩ : ∃ l8, (l.drop 4).take 8 = l8 := ⟨_, rfl⟩
    have hl8L : l8.length = 8 := by rw [← hl8]; simp; omega
    obtain ⟨n, hn⟩ : ∃ n, Sha.val l8 = n := ⟨_, rfl⟩
    have hnl : n < 18446744073709551616 := by
      have h := Sha.val_lt l8
      rw [hl8L, hn] at h
      exact h
    have hext := ext_take l 4 8
    rw [hl8] at hext
    obtain ⟨s, ok, hs⟩ : ∃ s ok, Wal.whole l 12 524288 = (s, ok) := ⟨_, _, rfl⟩
    have hsl : s.length ≤ 2097152 := by
      have h1 : (Wal.whole l 12 524288).1.length ≤ l.length := by
        unfold Wal.whole
        split
        · simp
        · split
          · simp
          · simp; omega
      rw [hs] at h1
      exact Nat.le_trans h1 hl
    have HWH : Hid (∀ W, Calls Try.prog 88 #[.string ⟨l.toArray⟩, .int .i64 12, .int .i64 524288] W fun e w' => e = .returned (.tuple #[.string ⟨s.toArray⟩, .bool ok]) ∧ Below W.heap.size W w') := Lib.hid fun W => by
      have := whole_any l 12 524288 W hl (by decide) (by decide)
      rw [hs] at this
      exact this
    have HOF : Hid (∀ W, Calls Try.prog 104 #[.string ⟨l8.toArray⟩] W fun e w' => e = .returned (.int .u64 n) ∧ W = w') := Lib.hid fun W => by
      have := of_any l8 W (by omega)
      rw [hn] at this
      exact this
    have hcount : Wal.counts l = if ok = false ∨ 4611686018427387904 < n then (0, [], 0) else (n, s, 20 + s.length) := by
      unfold Wal.counts
      rw [if_neg (by simp [hmag]; omega), hl8, hn, hs]
    have h3 : ok = false ∨ (ok = true ∧ 4611686018427387904 < n) ∨ (ok = true ∧ ¬ 4611686018427387904 < n) := by cases ok <;> simp <;> omega
    have HW0 : (ok = false ∨ 4611686018427387904 < n) → Hid (Wal.counts l = (0, [], 0)) := fun h => Lib.hid (by rw [hcount, if_pos h])
    have HW1 : ok = true → ¬ 4611686018427387904 < n → Hid (Wal.counts l = (n, s, 20 + s.length)) := fun h h' => Lib.hid (by rw [hcount, if_neg (by simp [h, h'])])
    clear hb hmag hl8 hl8L hn hs hcount
    rcases h3 with rfl | ⟨rfl, h4⟩ | ⟨rfl, h4⟩
    · have HW := HW0 (.inl rfl)
      clear HW0 HW1
      go_enter Try.func87, Try.ntmps87
      go_wp2_with fail
      refine (HP.out w).mono ?_
      rintro e w1 ⟨rfl, rfl⟩
      go_wp2_with fail
      refine (HOF.out w).mono ?_
      rintro e w1 ⟨rfl, rfl⟩
      go_wp2_with fail
      refine (HWH.out w).mono ?_
      rintro e w1 ⟨rfl, b1⟩
      have B1 := Lib.hid b1
      clear b1
      go_wp2_with fail
      go_ret3
      exact ⟨by rw [HW.out]; rfl, B1.out⟩
    · have HW := HW0 (.inr h4)
      clear HW0 HW1
      go_enter Try.func87, Try.ntmps87
      go_wp2_with fail
      refine (HP.out w).mono ?_
      rintro e w1 ⟨rfl, rfl⟩
      go_wp2_with fail
      refine (HOF.out w).mono ?_
      rintro e w1 ⟨rfl, rfl⟩
      go_wp2_with fail
      refine (HWH.out w).mono ?_
      rintro e w1 ⟨rfl, b1⟩
      have B1 := Lib.hid b1
      clear b1
      go_wp2_with fail
      go_ret3
      exact ⟨by rw [HW.out]; rfl, B1.out⟩
    · have HW := HW1 rfl h4
      clear HW0 HW1
      go_enter Try.func87, Try.ntmps87
      go_wp2_with fail
      refine (HP.out w).mono ?_
      rintro e w1 ⟨rfl, rfl⟩
      go_wp2_with fail
      refine (HOF.out w).mono ?_
      rintro e w1 ⟨rfl, rfl⟩
      go_wp2_with fail
      refine (HWH.out w).mono ?_
      rintro e w1 ⟨rfl, b1⟩
      have B1 := Lib.hid b1
      clear b1
      go_wp2_with fail
      go_ret3
      exact ⟨by rw [HW.out]; simp, B1.out⟩
end Go.Proofs.Ytpjpknndfhablaa
