/- Walks of OtpForms and OtpLives. -/
import Derived.Test.YtommbdlkmkphpaaDoorOtpG
namespace Go.Proofs.YtommbdlkmkphpaaDoor
open Go.RowKit
/-- The first k of six signs are digits. -/
def Digs (c : List UInt8) (k : Nat) : Prop := c.length = 6 ∧ ∀ x ∈ c.take k, 48 ≤ x.toNat ∧ x.toNat ≤ 57
theorem Digs.less {c : List UInt8} {k : Nat} (h : Digs c (k + 1)) : Digs c k := ⟨h.1, fun x hx => h.2 x (by
  have : c.take k <+: c.take (k + 1) := List.take_prefix_take_left (by omega)
  exact this.subset hx)⟩
theorem Digs.more {c : List UInt8} {k : Nat} (h : Digs c k) (hk : k < c.length) : Digs c (k + 1) ↔ (48 ≤ (c[k]'hk).toNat ∧ (c[k]'hk).toNat ≤ 57) := by
  constructor
  · intro h2
    have hm : (c[k]'hk) ∈ c.take (k + 1) := List.mem_take_iff_getElem.2 ⟨k, by omega, rfl⟩
    exact h2.2 _ hm
  · intro h2
    refine ⟨h.1, fun x hx => ?_⟩
    rw [List.take_succ_eq_append_getElem hk] at hx
    rcases List.mem_append.1 hx with hx | hx
    · exact h.2 x hx
    · simp at hx; subst hx; exact h2
theorem code_digit (secret : List UInt8) (s : Int) : ∀ x ∈ Otp.code secret s, 48 ≤ x.toNat ∧ x.toNat ≤ 57 := Otp.six_digit _
set_option maxHeartbeats 4000000 in
set_option maxRecDepth 100000 in
theorem otpForms_any (secret c : List UInt8) (step win : Int) (w : World) (ht : Tab w) (hs : secret.length ≤ 140737488351232) (hc : c.length ≤ 140737488351232) (hst : -9223372036854775808 ≤ step ∧ step ≤ 9223372036854775807) (hwi : -9223372036854775808 ≤ win ∧ win ≤ 9223372036854775807) :
    Calls Tryd.prog 6 #[.string ⟨secret.toArray⟩, .string ⟨c.toArray⟩, .agg #[.int .i64 step, .int .i64 win]] w fun e w' => e = .returned (.bool true) ∧ Below w.heap.size w w' := by
  obtain ⟨D, hD⟩ : ∃ D, Otp.code secret step = D := ⟨_, rfl⟩
  have hDL : D.length = 6 := by rw [← hD]; rfl
  have hDG := code_digit secret step
  rw [hD] at hDG
  have HDG := Lib.hid hDG
  have HD := Lib.hid hD
  have HT := Lib.hid ht
  clear hD ht hDG
  go_enter Tryd.func6, Tryd.ntmps6
  have HN0 := Lib.hid (heap_new w (.cells #[.int .i64 step, .int .i64 win] 26))
  go_wp2_with fail
  have B0 := Lib.hid (balloc w (.cells #[.int .i64 step, .int .i64 win] 26))
  refine (code_any secret step _ (HT.out.below B0.out) (by omega) hst.1 hst.2).mono ?_
  rw [HD.out]
  rintro e w1 ⟨rfl, b1⟩
  have HN1 := Lib.hid (stays HN0.out b1)
  have B1 := Lib.hid (bthen B0.out b1)
  clear b1
  go_wp2_with fail
  refine (awake_any w1 (HT.out.below B1.out)).mono ?_
  rintro e w2 ⟨rfl, b2⟩
  have HN2 := Lib.hid (stays HN1.out b2)
  have B2 := Lib.hid (bthen B1.out b2)
  clear b2
  go_wp2_with fail
  go_loopw [8, 9] (fun d i wr => wr = w2 ∧ ∃ k : Nat, k ≤ 6 ∧ i = .int .i64 k ∧ ∃ b, d = .bool b ∧ (b = true ↔ Digs c k)) (fun _ i _ => 6 - (intOf i).toNat)
  case atStart => exact ⟨rfl, 0, by omega, rfl, _, rfl, by simp [Digs]; omega⟩
  case round =>
    obtain ⟨rfl, k, hk, rfl, b, rfl, hb⟩ := hrel
    by_cases hk6 : k < 6
    · have hkD : k < D.length := by omega
      obtain ⟨h1, h2⟩ := HDG.out (D[k]'hkD) (List.getElem_mem hkD)
      obtain ⟨x, hx⟩ : ∃ x, D[k]'hkD = x := ⟨_, rfl⟩
      rw [hx] at h1 h2
      have hx2 : (⟨D.toArray⟩ : ByteArray)[k]'hkD = x := hx
      clear hx
      cases b with
      | false =>
        have HB := Lib.hid hb
        clear hb
        go_wp2
        refine ⟨⟨trivial, k + 1, by omega, by go_num, _, rfl, ?_⟩, by simp [intOf]; omega⟩
        constructor
        · intro h; cases h
        · intro h; exact HB.out.2 h.less
      | true =>
        have hd := hb.1 rfl
        have hkc : k < c.length := by rw [hd.1]; exact hk6
        have HM := Lib.hid (hd.more hkc)
        obtain ⟨y, hy⟩ : ∃ y, c[k]'hkc = y := ⟨_, rfl⟩
        rw [hy] at HM
        have hy2 : (⟨c.toArray⟩ : ByteArray)[k]'hkc = y := hy
        have hyl := y.toNat_lt
        clear hb hd hy
        by_cases hy1 : 48 ≤ y.toNat
        · by_cases hy3 : y.toNat ≤ 57
          · go_wp2
            refine ⟨⟨trivial, k + 1, by omega, by go_num, _, rfl, ?_⟩, by simp [intOf]; omega⟩
            rw [HM.out]; simp only [decide_eq_true_eq]; omega
          · go_wp2
            refine ⟨⟨trivial, k + 1, by omega, by go_num, _, rfl, ?_⟩, by simp [intOf]; omega⟩
            rw [HM.out]; simp only [decide_eq_true_eq]; omega
        · go_wp2
          refine ⟨⟨trivial, k + 1, by omega, by go_num, _, rfl, ?_⟩, by simp [intOf]; omega⟩
          rw [HM.out]; simp; omega
    · obtain rfl : k = 6 := by omega
      obtain ⟨c0, c1, _, _⟩ := cells2 HN2.out
      have HB := Lib.hid hb
      clear hb hk6
      go_wp2_with fail
      clear c0 c1
      refine (find_any secret c step win wr (HT.out.below B2.out) (by omega) (by omega) hst hwi).mono ?_
      cases hF : Otp.find secret c step win with
      | none =>
        rintro e w3 ⟨rfl, b3⟩
        have B3 := Lib.hid (bthen B2.out b3)
        clear b3
        cases b
        all_goals go_wp2_with fail
        all_goals go_ret
        all_goals exact ⟨rfl, B3.out⟩
      | some r =>
        have hbt : b = true := HB.out.2 ⟨(Otp.find_form hF).1, fun x hx => (Otp.find_form hF).2 x (List.mem_of_mem_take hx)⟩
        subst hbt
        clear hF HB
        rintro e w3 ⟨rfl, b3⟩
        have B3 := Lib.hid (bthen B2.out b3)
        clear b3
        go_wp2_with fail
        go_ret
        exact ⟨rfl, B3.out⟩
set_option maxHeartbeats 8000000 in
set_option maxRecDepth 100000 in
theorem otpLives_any (secret : List UInt8) (step drift : Int) (w : World) (ht : Tab w) (hs : secret.length ≤ 140737488351232) (hst : -9223372036854775808 ≤ step ∧ step ≤ 9223372036854775807) (hdr : -9223372036854775808 ≤ drift ∧ drift ≤ 9223372036854775807) :
    Calls Tryd.prog 5 #[.string ⟨secret.toArray⟩, .int .i64 step, .int .i64 drift] w fun e w' => e = .returned (.bool true) ∧ Below w.heap.size w w' := by
  have HT := Lib.hid ht
  clear ht
  by_cases hin : 0 ≤ step ∧ step ≤ 1099511627766 ∧ -10 ≤ drift ∧ drift ≤ 10 ∧ 0 ≤ step + drift
  · obtain ⟨i1, i2, i3, i4, i5⟩ := hin
    obtain ⟨D, hD⟩ : ∃ D, Otp.code secret step = D := ⟨_, rfl⟩
    have hDL : D.length ≤ 6 := by rw [← hD]; exact Nat.le_refl _
    have HD := Lib.hid hD
    clear hD
    go_enter Tryd.func5, Tryd.ntmps5
    go_wp2_with fail
    refine (awake_any w HT.out).mono ?_
    rintro e w1 ⟨rfl, b1⟩
    have B1 := Lib.hid b1
    clear b1
    go_wp2_with fail
    refine (code_any secret step w1 (HT.out.below B1.out) (by omega) hst.1 hst.2).mono ?_
    rw [HD.out]
    rintro e w2 ⟨rfl, b2⟩
    have B2 := Lib.hid (bthen B1.out b2)
    clear b2
    go_wp2_with fail
    go_loopw [8] (fun v wr => ∃ k : Nat, k ≤ 3 ∧ v = .int .i64 (5 * (k : Int)) ∧ Below w.heap.size w wr) (fun v _ => (15 - intOf v).toNat)
    case atStart => exact ⟨0, by omega, rfl, B2.out⟩
    case round =>
      obtain ⟨wo, hwo⟩ : ∃ wo, wo = wr := ⟨_, rfl⟩
      subst hwo
      obtain ⟨k, hk, rfl, hb⟩ := hrel
      have HB := Lib.hid hb
      clear hb
      obtain ⟨q, hq⟩ : ∃ q, 5 * (k : Int) = q := ⟨_, rfl⟩
      rw [hq]
      by_cases hk3 : k < 3
      · have hq0 : 0 ≤ q := by omega
        have hq1 : q ≤ 10 := by omega
        have HQ : Hid (q + 5 = 5 * ((k + 1 : Nat) : Int)) := Lib.hid (by omega)
        clear hq
        have hg : Otp.good (step + drift) q := ⟨by omega, by omega, by omega, by omega⟩
        go_wp2_with fail
        refine (find_any secret D (step + drift) q wo (HT.out.below HB.out) (by omega) (by omega) (by omega) (by omega)).mono ?_
        cases hF : Otp.find secret D (step + drift) q with
        | none =>
          rintro e w3 ⟨rfl, b3⟩
          have B3 := Lib.hid (bthen HB.out b3)
          have hout : drift < -q ∨ (-q ≤ drift ∧ q < drift) := by
            rcases Int.lt_or_le drift (-q) with h | h
            · exact .inl h
            · rcases Int.lt_or_le q drift with h' | h'
              · exact .inr ⟨h, h'⟩
              · obtain ⟨r, hr, _⟩ := Otp.find_has hg i1 (by omega) (by omega) HD.out
                rw [hF] at hr; cases hr
          clear b3 hF hg
          rcases hout with h | ⟨h, h'⟩
          all_goals go_wp2_with fail
          all_goals go_loopw [11] (fun v wr => wr = w3 ∧ v = .int .i64 1) (fun _ _ => 0)
          all_goals try (case atStart => exact ⟨rfl, rfl⟩)
          all_goals
            obtain ⟨rfl, rfl⟩ := hrel
            go_wp2_with fail
            exact ⟨⟨k + 1, by omega, val_int HQ.out, B3.out⟩, by simp [intOf]; omega⟩
        | some r =>
          obtain ⟨_, r1, r2, r3, r4, r5⟩ := Otp.find_some hF
          have hin : drift < -q ∨ (-q ≤ drift ∧ q < drift) ∨ (-q ≤ drift ∧ drift ≤ q ∧ step ≤ r) := by
            rcases Int.lt_or_le drift (-q) with h | h
            · exact .inl h
            · rcases Int.lt_or_le q drift with h' | h'
              · exact .inr (.inl ⟨h, h'⟩)
              · obtain ⟨r', hr, hle⟩ := Otp.find_has hg i1 (by omega) (by omega) HD.out
                rw [hF] at hr; cases hr
                exact .inr (.inr ⟨h, h', hle⟩)
          have R4 := Lib.hid r4
          have R5 := Lib.hid r5
          clear r4 r5 hF hg
          rintro e w3 ⟨rfl, b3⟩
          have B3 := Lib.hid (bthen HB.out b3)
          clear b3
          go_wp2_with fail
          refine (code_any secret r w3 (HT.out.below B3.out) (by omega) (by omega) (by omega)).mono ?_
          rw [R4.out]
          rintro e w4 ⟨rfl, b4⟩
          have B4 := Lib.hid (bthen B3.out b4)
          clear b4
          rcases hin with h | ⟨h, h'⟩ | ⟨h, h', h''⟩
          all_goals go_wp2_with fail
          all_goals go_loopw [11] (fun v wr => ∃ j : Nat, r + j ≤ step + drift + q ∧ v = .int .i64 (r + 1 + (j : Int)) ∧ Below w.heap.size w wr) (fun v _ => (step + drift + q + 1 - intOf v).toNat)
          all_goals try (case atStart => exact ⟨0, by omega, by go_num, B4.out⟩)
          all_goals
            obtain ⟨j, hj, rfl, hb⟩ := hrel
            have HBJ := Lib.hid hb
            clear hb
            by_cases hjl : r + 1 + (j : Int) ≤ step + drift + q
            · obtain ⟨E, hE⟩ : ∃ E, Otp.code secret (r + 1 + j) = E := ⟨_, rfl⟩
              have hne := R5.out (r + 1 + j) (by omega) hjl
              rw [hE] at hne
              have hne2 : (E == D) = false := by simpa using hne
              have HE := Lib.hid hE
              clear hne hE
              go_wp2_with fail
              refine (code_any secret (r + 1 + j) wr (HT.out.below HBJ.out) (by omega) (by omega) (by omega)).mono ?_
              rw [HE.out]
              rintro e w5 ⟨rfl, b5⟩
              have B5 := Lib.hid (bthen HBJ.out b5)
              clear b5
              go_wp2_with fail
              exact ⟨⟨j + 1, by omega, by go_num, B5.out⟩, by simp [intOf]; omega⟩
            · go_wp2_with fail
              exact ⟨⟨k + 1, by omega, val_int HQ.out, HBJ.out⟩, by simp [intOf]; omega⟩
      · have HQ : Hid (10 < q) := Lib.hid (by omega)
        have hq := HQ.out
        go_wp2_with fail
        go_ret
        exact ⟨rfl, HB.out⟩
  · have hout : step < 0 ∨ (¬ step < 0 ∧ 1099511627766 < step) ∨ (¬ step < 0 ∧ ¬ 1099511627766 < step ∧ drift < -10) ∨ (¬ step < 0 ∧ ¬ 1099511627766 < step ∧ ¬ drift < -10 ∧ 10 < drift) ∨ (¬ step < 0 ∧ ¬ 1099511627766 < step ∧ ¬ drift < -10 ∧ ¬ 10 < drift ∧ step + drift < 0) := by omega
    clear hin
    rcases hout with h1 | ⟨h1, h2⟩ | ⟨h1, h2, h3⟩ | ⟨h1, h2, h3, h4⟩ | ⟨h1, h2, h3, h4, h5⟩
    all_goals go_enter Tryd.func5, Tryd.ntmps5
    all_goals go_wp2_with fail
    all_goals refine (awake_any w HT.out).mono ?_
    all_goals rintro e w1 ⟨rfl, b1⟩
    all_goals go_wp2_with fail
    all_goals go_ret
    all_goals exact ⟨rfl, b1⟩
end Go.Proofs.YtommbdlkmkphpaaDoor
