/- Walk of the document's Find of chapter 05. -/
import Derived.Test.YtommbdlkmkphpaaDoorOtpB
namespace Go.Proofs.YtommbdlkmkphpaaDoor
open Go.RowKit
set_option maxHeartbeats 2000000 in
set_option maxRecDepth 100000 in
theorem rfind_no (secret c : List UInt8) (step win : Int) (w : World) (h : ¬ Otp.good step win) :
    Calls Tryd.prog 12 #[.string ⟨secret.toArray⟩, .string ⟨c.toArray⟩, .int .i64 step, .int .i64 win] w fun e w' => e = .returned (.tuple #[.int .i64 0, .bool false]) ∧ w = w' := by
  unfold Otp.good at h
  rcases (show step < 0 ∨ (¬ step < 0 ∧ 1099511627776 < step) ∨ (¬ step < 0 ∧ ¬ 1099511627776 < step ∧ win < 0) ∨ (¬ step < 0 ∧ ¬ 1099511627776 < step ∧ ¬ win < 0 ∧ 10 < win) by omega) with h1 | ⟨h1, h2⟩ | ⟨h1, h2, h3⟩ | ⟨h1, h2, h3, h4⟩
  all_goals clear h
  all_goals go_enter Tryd.func12, Tryd.ntmps12
  all_goals go_wp2
  all_goals go_ret2
  all_goals exact ⟨rfl, rfl⟩
set_option maxHeartbeats 2000000 in
set_option maxRecDepth 100000 in
theorem rfind_yes (secret c : List UInt8) (step win : Int) (w : World) (hs : secret.length ≤ 140737488355200) (h : Otp.good step win) :
    Calls Tryd.prog 12 #[.string ⟨secret.toArray⟩, .string ⟨c.toArray⟩, .int .i64 step, .int .i64 win] w fun e w' => e = .returned (.tuple #[.int .i64 ((Otp.find secret c step win).getD 0), .bool (Otp.find secret c step win).isSome]) ∧ Below w.heap.size w w' := by
  obtain ⟨F, hF⟩ : ∃ F, Otp.find secret c step win = F := ⟨_, rfl⟩
  have hFL : Otp.look (fun s => Otp.code secret s == c) (Otp.span step win) (step + win) = F := by
    unfold Otp.find at hF
    rw [if_pos h] at hF
    exact hF
  rw [hF]
  obtain ⟨S, hS⟩ : ∃ S, Otp.span step win = S := ⟨_, rfl⟩
  rw [hS] at hFL
  obtain ⟨g1, g2, g3, g4⟩ := h
  have hSv : (S : Int) = step + win - max 0 (step - win) + 1 := by rw [← hS]; unfold Otp.span; omega
  have HSV := Lib.hid hSv
  have HFL := Lib.hid hFL
  clear hF hFL hS hSv
  go_enter Tryd.func12, Tryd.ntmps12
  go_wp2_with fail
  go_loopw [10] (fun sv wr => ∃ k : Nat, k ≤ S ∧ sv = .int .i64 (step + win - k) ∧ Hid (Otp.look (fun s => Otp.code secret s == c) (S - k) (step + win - k) = F) ∧ Below w.heap.size w wr) (fun sv _ => ((intOf sv) + 1).toNat)
  case atStart => exact ⟨0, by omega, by go_num, Lib.hid (by have h := HFL.out; simpa using h), Below.refl _ _⟩
  case round =>
    obtain ⟨k, hk, rfl, HL, hb⟩ := hrel
    have HB := Lib.hid hb
    clear hb
    by_cases hkS : k < S
    · have t1 : step - win ≤ step + win - k := by have := HSV.out; omega
      have t2 : 0 ≤ step + win - (k : Int) := by have := HSV.out; omega
      obtain ⟨n, hn⟩ : ∃ n, S - k = n + 1 := ⟨S - k - 1, by omega⟩
      have hl := HL.out
      rw [hn, Otp.look] at hl
      obtain ⟨C, hC⟩ : ∃ C, Otp.code secret (step + win - k) = C := ⟨_, rfl⟩
      have hcall := rcode_any secret (step + win - k) wr hs (by omega) (by omega)
      simp only [hC] at hl hcall
      have HCALL := Lib.hid hcall
      clear hcall hC
      by_cases he : C = c
      · subst he
        have HF : Hid (F = some (step + win - k)) := by
          rw [if_pos (by simp)] at hl
          exact hl.symm
        clear hl hn
        go_wp2_with fail
        refine HCALL.out.mono ?_
        rintro e w2 ⟨rfl, b2⟩
        have B2 := Lib.hid (bthen HB.out b2)
        clear b2
        go_wp2_with fail
        go_ret2
        exact ⟨by rw [HF.out]; rfl, B2.out⟩
      · have he2 : (C == c) = false := by simpa using he
        have HF : Hid (Otp.look (fun s => Otp.code secret s == c) n (step + win - k - 1) = F) := by
          rw [if_neg (by simp [he])] at hl
          exact hl
        have hnk : n = S - (k + 1) := by omega
        rw [hnk] at HF
        clear hl hn hnk he
        go_wp2_with fail
        refine HCALL.out.mono ?_
        rintro e w2 ⟨rfl, b2⟩
        have B2 := Lib.hid (bthen HB.out b2)
        clear b2
        go_wp2_with fail
        refine ⟨⟨k + 1, by omega, by go_num, Lib.hid (by rw [show step + win - ((k + 1 : Nat) : Int) = step + win - k - 1 by omega]; exact HF.out), B2.out⟩, by simp [intOf]; omega⟩
    · have HF : Hid (F = none) := by
        have h := HL.out
        rw [show S - k = 0 by omega] at h
        exact h.symm
      rcases (show ¬ (step - win ≤ step + win - (k : Int)) ∨ (step - win ≤ step + win - (k : Int) ∧ ¬ (0 ≤ step + win - (k : Int))) by have := HSV.out; omega) with t1 | ⟨t1, t2⟩
      all_goals go_wp2_with fail
      all_goals go_ret2
      all_goals exact ⟨by rw [HF.out]; rfl, HB.out⟩
end Go.Proofs.YtommbdlkmkphpaaDoor
