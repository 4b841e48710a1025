/- Walks of awake, OtpCodes, OtpFinds, OtpWider. -/
import Derived.Test.YtommbdlkmkphpaaDoorOtpF
import Derived.Test.YtommbdlkmkphpaaDoorOtpV
namespace Go.Proofs.YtommbdlkmkphpaaDoor
open Go.RowKit
set_option maxHeartbeats 4000000 in
set_option maxRecDepth 100000 in
theorem awake_any (w : World) (ht : Tab w) :
    Calls Tryd.prog 8 #[] w fun e w' => e = .returned (.bool true) ∧ Below w.heap.size w w' := by
  have HT := Lib.hid ht
  clear ht
  go_enter Tryd.func8, Tryd.ntmps8
  go_wp2_with fail
  refine (find_any [49, 50, 51, 52, 53, 54, 55, 56, 57, 48, 49, 50, 51, 52, 53, 54, 55, 56, 57, 48, 49, 50, 51, 52, 53, 54, 55, 56, 57, 48, 49, 50] [49, 49, 57, 50, 52, 54] 2 1 w HT.out (by decide) (by decide) (by decide) (by decide)).mono ?_
  rw [show Otp.find [49, 50, 51, 52, 53, 54, 55, 56, 57, 48, 49, 50, 51, 52, 53, 54, 55, 56, 57, 48, 49, 50, 51, 52, 53, 54, 55, 56, 57, 48, 49, 50] [49, 49, 57, 50, 52, 54] 2 1 = some 1 from Otp.codes.2.2.1]
  rintro e w1 ⟨rfl, b1⟩
  have B1 := Lib.hid b1
  clear b1
  go_wp2_with fail
  refine (find_any [49, 50, 51, 52, 53, 54, 55, 56, 57, 48, 49, 50, 51, 52, 53, 54, 55, 56, 57, 48, 49, 50, 51, 52, 53, 54, 55, 56, 57, 48, 49, 50] [49, 49, 57, 50, 52, 54] (-1) 1 w1 (HT.out.below B1.out) (by decide) (by decide) (by decide) (by decide)).mono ?_
  rw [show Otp.find [49, 50, 51, 52, 53, 54, 55, 56, 57, 48, 49, 50, 51, 52, 53, 54, 55, 56, 57, 48, 49, 50, 51, 52, 53, 54, 55, 56, 57, 48, 49, 50] [49, 49, 57, 50, 52, 54] (-1) 1 = none from Otp.codes.2.2.2]
  rintro e w2 ⟨rfl, b2⟩
  have B2 := Lib.hid (bthen B1.out b2)
  clear b2
  go_wp2_with fail
  refine (code_any [49, 50, 51, 52, 53, 54, 55, 56, 57, 48, 49, 50, 51, 52, 53, 54, 55, 56, 57, 48, 49, 50, 51, 52, 53, 54, 55, 56, 57, 48, 49, 50] 1 w2 (HT.out.below B2.out) (by decide) (by decide) (by decide)).mono ?_
  rw [show Otp.code [49, 50, 51, 52, 53, 54, 55, 56, 57, 48, 49, 50, 51, 52, 53, 54, 55, 56, 57, 48, 49, 50, 51, 52, 53, 54, 55, 56, 57, 48, 49, 50] 1 = [49, 49, 57, 50, 52, 54] from Otp.codes.1]
  rintro e w3 ⟨rfl, b3⟩
  have B3 := Lib.hid (bthen B2.out b3)
  clear b3
  go_wp2_with fail
  refine (code_any [49, 50, 51, 52, 53, 54, 55, 56, 57, 48, 49, 50, 51, 52, 53, 54, 55, 56, 57, 48, 49, 50, 51, 52, 53, 54, 55, 56, 57, 48, 49, 50] 37037036 w3 (HT.out.below B3.out) (by decide) (by decide) (by decide)).mono ?_
  rw [show Otp.code [49, 50, 51, 52, 53, 54, 55, 56, 57, 48, 49, 50, 51, 52, 53, 54, 55, 56, 57, 48, 49, 50, 51, 52, 53, 54, 55, 56, 57, 48, 49, 50] 37037036 = [48, 56, 52, 55, 55, 52] from Otp.codes.2.1]
  rintro e w4 ⟨rfl, b4⟩
  have B4 := Lib.hid (bthen B3.out b4)
  clear b4
  go_wp2_with fail
  go_ret
  exact ⟨rfl, B4.out⟩
set_option maxHeartbeats 4000000 in
set_option maxRecDepth 100000 in
theorem otpCodes_any (secret : List UInt8) (s : Int) (w : World) (ht : Tab w) (hs : secret.length ≤ 140737488351232) (hb : -9223372036854775808 ≤ s ∧ s ≤ 9223372036854775807) :
    Calls Tryd.prog 3 #[.string ⟨secret.toArray⟩, .int .i64 s] w fun e w' => e = .returned (.bool true) ∧ Below w.heap.size w w' := by
  obtain ⟨D, hD⟩ : ∃ D, Otp.code secret s = D := ⟨_, rfl⟩
  have HD := Lib.hid hD
  have HT := Lib.hid ht
  clear hD ht
  go_enter Tryd.func3, Tryd.ntmps3
  go_wp2_with fail
  refine (awake_any w HT.out).mono ?_
  rintro e w1 ⟨rfl, b1⟩
  have B1 := Lib.hid b1
  clear b1
  go_wp2_with fail
  refine (code_any secret s w1 (HT.out.below B1.out) (by omega) hb.1 hb.2).mono ?_
  rw [HD.out]
  rintro e w2 ⟨rfl, b2⟩
  have B2 := Lib.hid (bthen B1.out b2)
  clear b2
  go_wp2_with fail
  refine (rcode_any secret s w2 (by omega) hb.1 hb.2).mono ?_
  rw [HD.out]
  rintro e w3 ⟨rfl, b3⟩
  have B3 := Lib.hid (bthen B2.out b3)
  clear b3
  go_wp2_with fail
  go_ret
  exact ⟨rfl, B3.out⟩
theorem rfind_any (secret c : List UInt8) (step win : Int) (w : World) (hs : secret.length ≤ 140737488355200) :
    Calls Tryd.prog 12 #[.string ⟨secret.toArray⟩, .string ⟨c.toArray⟩, .int .i64 step, .int .i64 win] w fun e w' => e = .returned (.tuple #[.int .i64 ((Otp.find secret c step win).getD 0), .bool (Otp.find secret c step win).isSome]) ∧ Below w.heap.size w w' := by
  by_cases h : Otp.good step win
  · exact rfind_yes secret c step win w hs h
  · refine (rfind_no secret c step win w h).mono ?_
    rintro e w' ⟨rfl, rfl⟩
    have : Otp.find secret c step win = none := by unfold Otp.find; rw [if_neg h]
    rw [this]
    exact ⟨rfl, Below.refl _ _⟩
set_option maxHeartbeats 4000000 in
set_option maxRecDepth 100000 in
theorem otpFinds_any (secret c : List UInt8) (step win : Int) (w : World) (ht : Tab w) (hs : secret.length ≤ 140737488351232) (hc : c.length ≤ 140737488351232) (hst : -9223372036854775808 ≤ step ∧ step ≤ 9223372036854775807) (hwi : -9223372036854775808 ≤ win ∧ win ≤ 9223372036854775807) :
    Calls Tryd.prog 4 #[.string ⟨secret.toArray⟩, .string ⟨c.toArray⟩, .agg #[.int .i64 step, .int .i64 win]] w fun e w' => e = .returned (.bool true) ∧ Below w.heap.size w w' := by
  obtain ⟨n, hn⟩ : ∃ n, (Otp.find secret c step win).getD 0 = n := ⟨_, rfl⟩
  obtain ⟨b, hb⟩ : ∃ b, (Otp.find secret c step win).isSome = b := ⟨_, rfl⟩
  have HN := Lib.hid hn
  have HB := Lib.hid hb
  have HT := Lib.hid ht
  clear hn hb ht
  go_enter Tryd.func4, Tryd.ntmps4
  have HN0 := Lib.hid (heap_new w (.cells #[.int .i64 step, .int .i64 win] 26))
  go_wp2_with fail
  have B0 := Lib.hid (balloc w (.cells #[.int .i64 step, .int .i64 win] 26))
  refine (find_any secret c step win _ (HT.out.below B0.out) (by omega) (by omega) hst hwi).mono ?_
  rw [HN.out, HB.out]
  rintro e w1 ⟨rfl, b1⟩
  have HN1 := Lib.hid (stays HN0.out b1)
  have B1 := Lib.hid (bthen B0.out b1)
  clear b1
  obtain ⟨c0, c1, _, _⟩ := cells2 HN1.out
  go_wp2_with fail
  refine (rfind_any secret c step win w1 (by omega)).mono ?_
  rw [HN.out, HB.out]
  rintro e w2 ⟨rfl, b2⟩
  have B2 := Lib.hid (bthen B1.out b2)
  clear b2 c0 c1
  go_wp2_with fail
  refine (awake_any w2 (HT.out.below B2.out)).mono ?_
  rintro e w3 ⟨rfl, b3⟩
  have B3 := Lib.hid (bthen B2.out b3)
  clear b3
  go_wp2_with fail
  go_ret
  exact ⟨rfl, B3.out⟩
set_option maxHeartbeats 4000000 in
set_option maxRecDepth 100000 in
theorem otpWider_any (secret c : List UInt8) (step win : Int) (w : World) (ht : Tab w) (hs : secret.length ≤ 140737488351232) (hc : c.length ≤ 140737488351232) (hst : -9223372036854775808 ≤ step ∧ step ≤ 9223372036854775807) (hwi : -9223372036854775808 ≤ win ∧ win ≤ 9223372036854775807) :
    Calls Tryd.prog 7 #[.string ⟨secret.toArray⟩, .string ⟨c.toArray⟩, .agg #[.int .i64 step, .int .i64 win]] w fun e w' => e = .returned (.bool true) ∧ Below w.heap.size w w' := by
  have HT := Lib.hid ht
  clear ht
  cases hF : Otp.find secret c step win with
  | none =>
    have HF := Lib.hid hF
    clear hF
    go_enter Tryd.func7, Tryd.ntmps7
    have HN0 := Lib.hid (heap_new w (.cells #[.int .i64 step, .int .i64 win] 26))
    go_wp2_with fail
    have B0 := Lib.hid (balloc w (.cells #[.int .i64 step, .int .i64 win] 26))
    refine (find_any secret c step win _ (HT.out.below B0.out) (by omega) (by omega) hst hwi).mono ?_
    rw [HF.out]
    rintro e w1 ⟨rfl, b1⟩
    have B1 := Lib.hid (bthen B0.out b1)
    clear b1
    go_wp2_with fail
    refine (awake_any w1 (HT.out.below B1.out)).mono ?_
    rintro e w2 ⟨rfl, b2⟩
    have B2 := Lib.hid (bthen B1.out b2)
    clear b2
    go_wp2_with fail
    go_ret
    exact ⟨rfl, B2.out⟩
  | some r =>
    have HF := Lib.hid hF
    obtain ⟨⟨g1, g2, g3, g4⟩, _⟩ := Otp.find_some hF
    by_cases h10 : 10 ≤ win
    · clear hF
      go_enter Tryd.func7, Tryd.ntmps7
      have HN0 := Lib.hid (heap_new w (.cells #[.int .i64 step, .int .i64 win] 26))
      go_wp2_with fail
      have B0 := Lib.hid (balloc w (.cells #[.int .i64 step, .int .i64 win] 26))
      refine (find_any secret c step win _ (HT.out.below B0.out) (by omega) (by omega) hst hwi).mono ?_
      rw [HF.out]
      rintro e w1 ⟨rfl, b1⟩
      have HN1 := Lib.hid (stays HN0.out b1)
      have B1 := Lib.hid (bthen B0.out b1)
      clear b1
      go_wp2_with fail
      refine (awake_any w1 (HT.out.below B1.out)).mono ?_
      rintro e w2 ⟨rfl, b2⟩
      have HN2 := Lib.hid (stays HN1.out b2)
      have B2 := Lib.hid (bthen B1.out b2)
      clear b2
      obtain ⟨c0, c1, _, _⟩ := cells2 HN2.out
      go_wp2_with fail
      go_ret
      exact ⟨rfl, B2.out⟩
    · obtain ⟨m, hm, hrm⟩ := Otp.find_wider hF (by omega)
      have HM := Lib.hid hm
      clear hF hm
      go_enter Tryd.func7, Tryd.ntmps7
      have HN0 := Lib.hid (heap_new w (.cells #[.int .i64 step, .int .i64 win] 26))
      go_wp2_with fail
      have B0 := Lib.hid (balloc w (.cells #[.int .i64 step, .int .i64 win] 26))
      refine (find_any secret c step win _ (HT.out.below B0.out) (by omega) (by omega) hst hwi).mono ?_
      rw [HF.out]
      rintro e w1 ⟨rfl, b1⟩
      have HN1 := Lib.hid (stays HN0.out b1)
      have B1 := Lib.hid (bthen B0.out b1)
      clear b1
      go_wp2_with fail
      refine (awake_any w1 (HT.out.below B1.out)).mono ?_
      rintro e w2 ⟨rfl, b2⟩
      have HN2 := Lib.hid (stays HN1.out b2)
      have B2 := Lib.hid (bthen B1.out b2)
      clear b2
      obtain ⟨c0, c1, _, _⟩ := cells2 HN2.out
      go_wp2_with fail
      clear c0 c1
      refine (find_any secret c step (win + 1) w2 (HT.out.below B2.out) (by omega) (by omega) hst (by omega)).mono ?_
      rw [HM.out]
      rintro e w3 ⟨rfl, b3⟩
      have B3 := Lib.hid (bthen B2.out b3)
      clear b3
      go_wp2_with fail
      go_ret
      exact ⟨rfl, B3.out⟩
end Go.Proofs.YtommbdlkmkphpaaDoor
