/- The walk of DiskLeaves. -/
import Derived.Test.YtpjpknndfhablaaPair
import Derived.Test.YtpjpknndfhablaaArmM
import Derived.Test.YtpjpknndfhablaaLawD
namespace Go.Proofs.Ytpjpknndfhablaa
open Go.RowKit

theorem DS.left_prefix (d : DS) (k : Nat) (f : Bool) : (d.left k f).length ≤ (d.file f).length ∧ (d.file f).take (d.left k f).length = d.left k f := by
  have h : d.file f = d.left k f ++ DS.of f (d.u.drop k) := by
    unfold DS.file DS.left
    rw [List.append_assoc, ← DS.of_append, List.take_append_drop]
  rw [h]
  simp
theorem DS.left_zero (d : DS) (f : Bool) : d.left 0 f = d.base f := by simp [DS.left, DS.of]
theorem DS.base_prefix (d : DS) (k : Nat) (f : Bool) : (d.left 0 f).length ≤ (d.left k f).length ∧ (d.left k f).take (d.left 0 f).length = d.left 0 f := by
  rw [DS.left_zero]
  simp [DS.left]
theorem DS.left_count (d : DS) (k : Nat) : ((d.left k false).length - (d.left 0 false).length) + ((d.left k true).length - (d.left 0 true).length) = min k d.u.length := by
  have := DS.of_length (d.u.take k)
  rw [List.length_take] at this
  simp only [DS.left_zero]
  simp only [DS.left, List.length_append]
  omega
theorem DS.file_die (d : DS) (k : Nat) (f : Bool) : (d.die k).file f = d.left k f := by
  have : (d.die k).file f = d.left k f ++ DS.of f [] := by cases f <;> rfl
  rw [this]; simp [DS.of]
theorem DS.left_die (d : DS) (k j : Nat) (f : Bool) : (d.die k).left j f = d.left k f := by
  have : (d.die k).left j f = d.left k f ++ DS.of f (([] : List (Bool × UInt8)).take j) := by cases f <;> rfl
  rw [this]; simp [DS.of]
theorem DS.crash_die (d : DS) (k : Nat) (j : Int) : (d.die k).crash j = (d.die k, 2) := by unfold DS.crash; rw [if_pos (show (d.die k).dead = true from rfl)]

set_option maxHeartbeats 8000000 in
set_option maxRecDepth 100000 in
theorem diskLeaves_any (w : World) (ao bo : Option Addr) (ca cb : Nat) (l : List (List UInt8)) (s : List OpV) (k : Int) (h : Texts w ao l) (hs : OpsAt w bo s) :
    Calls Try.prog 5 #[.slice ao l.length ca, .slice bo s.length cb, .int .i64 k] w fun e w' => e = .returned (.bool true) ∧ Below w.heap.size w w' := by
  have HL := Lib.hid h
  have HS := Lib.hid hs
  have hsl := hs.len
  clear h hs
  go_enter Try.func5, Try.ntmps5
  go_wp2_with fail
  refine (made_any w ao bo ca cb l s HL.out HS.out).mono ?_
  rintro e w1 (⟨hn, rfl, hb1⟩ | ⟨d, c, hd, rfl, h1⟩)
  · obtain ⟨hk0, hk1⟩ := made_code hn
    have HN := Lib.hid hn
    have HB1 := Lib.hid hb1
    clear hn hb1
    go_wp2_with fail
    refine (rnew_any w1 ao ca l (HL.out.below HB1.out)).mono ?_
    rintro e w2 ⟨hb2, ⟨hn2, rfl⟩ | ⟨d, c, hd, _⟩⟩
    · have HB2 := Lib.hid hb2
      clear hb2 hn2
      go_wp2_with fail
      refine (fixed9_any w2).mono ?_
      rintro e w3 ⟨rfl, hb3⟩
      have HB3 := Lib.hid hb3
      clear hb3
      go_wp2
      go_ret
      exact ⟨rfl, bthen (bthen HB1.out HB2.out) HB3.out⟩
    · rw [HN.out] at hd; cases hd
  · have HI := Lib.hid ((made_idle hd).plays s)
    have H1 := Lib.hid h1
    generalize d.plays s = D at HI H1
    clear hd h1 d
    have hKK : Hid (0 ≤ k % 10000 ∧ k % 10000 < 10000) := ⟨Int.emod_nonneg _ (by decide), Int.emod_lt_of_pos _ (by decide)⟩
    obtain ⟨K, hK⟩ : ∃ K : Int, k % 10000 = K := ⟨_, rfl⟩
    go_wp2_with fail
    refine (place9_any k 10000 w1 (by decide) (by decide)).mono ?_
    rw [hK] at hKK ⊢
    rintro e w1' ⟨rfl, rfl⟩
    clear hK
    obtain ⟨hK0, hK1⟩ := hKK.out
    go_wp2_with fail
    refine (clone_duo H1.out (by omega)).mono ?_
    rintro e w2 ⟨c', rfl, p2, _⟩
    have P2 := Lib.hid p2
    clear p2
    go_wp2_with fail
    refine (crash_duo P2.out.swap K (by omega)).mono ?_
    rw [HI.out.crash hK0]
    rintro e w3 ⟨rfl, p3, _⟩
    have P3 := Lib.hid p3.swap
    clear p3
    go_wp2_with fail
    refine (files_duo P3.out).mono ?_
    rintro e w4 ⟨ga, rfl, _, t4, p4, _⟩
    have P4 := Lib.hid p4
    have TA4 := Lib.hid t4
    clear p4 t4
    go_wp2_with fail
    refine (after_duo P4.out K (by omega) (by omega)).mono ?_
    rintro e w5 ⟨gk, rfl, _, t5, p5, b5⟩
    have P5 := Lib.hid p5
    have TA5 := Lib.hid (TA4.out.below b5)
    have TK5 := Lib.hid t5
    clear p5 t5 b5
    go_wp2_with fail
    refine (after_duo P5.out 0 (by decide) (by decide)).mono ?_
    rintro e w6 ⟨gn, rfl, _, t6, p6, b6⟩
    have P6 := Lib.hid p6
    have TA6 := Lib.hid (TA5.out.below b6)
    have TK6 := Lib.hid (TK5.out.below b6)
    have TN6 : Hid (Two w6 gn (D.left 0 false) (D.left 0 true)) := t6
    clear p6 t6 b6
    go_wp2_with fail
    refine (files_duo P6.out.swap).mono ?_
    rw [DS.file_die, DS.file_die]
    rintro e w7 ⟨gw, rfl, _, t7, p7, b7⟩
    have P7 := Lib.hid p7.swap
    have TA7 := Lib.hid (TA6.out.below b7)
    have TK7 := Lib.hid (TK6.out.below b7)
    have TN7 := Lib.hid (TN6.out.below b7)
    have TW7 := Lib.hid t7
    clear p7 t7 b7
    go_wp2_with fail
    refine (same_any w7 _ _ 2 2 _ _ TW7.out.texts TK7.out.texts).mono ?_
    rw [show decide ([D.left K.toNat false, D.left K.toNat true] = [D.left K.toNat false, D.left K.toNat true]) = true from decide_eq_true rfl]
    rintro e w8 ⟨rfl, b8⟩
    have P8 := Lib.hid (P7.out.below b8)
    have TA8 := Lib.hid (TA7.out.below b8)
    have TK8 := Lib.hid (TK7.out.below b8)
    have TN8 := Lib.hid (TN7.out.below b8)
    clear b8
    go_wp2_with fail
    refine (waiting_duo P8.out.swap).mono ?_
    rintro e w9 ⟨rfl, p9, b9⟩
    have P9 := Lib.hid p9.swap
    have TA9 := Lib.hid (TA8.out.below b9)
    have TK9 := Lib.hid (TK8.out.below b9)
    have TN9 := Lib.hid (TN8.out.below b9)
    clear p9 b9
    have HOK := Lib.hid P9.out.ok
    have HX : Hid ((∀ f, (D.left K.toNat f).length ≤ (D.file f).length) ∧ (∀ f, (D.left 0 f).length ≤ (D.left K.toNat f).length) ∧ (∀ f, (D.file f).take (D.left K.toNat f).length = D.left K.toNat f) ∧ (∀ f, (D.left K.toNat f).take (D.left 0 f).length = D.left 0 f)) :=
      ⟨fun f => (D.left_prefix _ f).1, fun f => (D.base_prefix _ f).1, fun f => (D.left_prefix _ f).2, fun f => (D.base_prefix _ f).2⟩
    have HC := Lib.hid (D.left_count K.toNat)
    have HOKC := Lib.hid (D.left_prefix K.toNat)
    go_wp2
    go_loopw [15, 16] (fun n i wr => ∃ (j : Nat) (m : Nat), n = .int .i64 m ∧ i = .int .i64 j ∧ j ≤ 2 ∧ Duo w wr c c' D (D.die K.toNat) s.length s.length ∧ Two wr ga (D.file false) (D.file true) ∧ Two wr gk (D.left K.toNat false) (D.left K.toNat true) ∧ Two wr gn (D.left 0 false) (D.left 0 true) ∧
        m = if j = 0 then 0 else if j = 1 then (D.left K.toNat false).length - (D.left 0 false).length else min K.toNat D.u.length) (fun _ i _ => 2 - (intOf i).toNat)
    case atStart => exact ⟨0, 0, rfl, rfl, by omega, P9.out, TA9.out, TK9.out, TN9.out, rfl⟩
    case round =>
      obtain ⟨j, m, rfl, rfl, hj, hdn, hta, htk, htn, hm⟩ := hrel
      have HD := Lib.hid hdn
      have HA := Lib.hid hta
      have HK := Lib.hid htk
      have HN := Lib.hid htn
      have HM := Lib.hid hm
      have s0 := HOK.out.s0
      have s1 := HOK.out.s1
      clear hdn hta htk htn hm
      rcases (show j = 0 ∨ j = 1 ∨ j = 2 by omega) with rfl | rfl | rfl
      · have hlk := HX.out.1 false
        have hln := HX.out.2.1 false
        have LK := Lib.hid ((bytes_extract (D.file false) (D.left K.toNat false).length).trans (by rw [HX.out.2.2.1 false]))
        have LN := Lib.hid ((bytes_extract (D.left K.toNat false) (D.left 0 false).length).trans (by rw [HX.out.2.2.2 false]))
        obtain ⟨a0, a1, al⟩ := HA.out.cells
        obtain ⟨k0, k1, kl⟩ := HK.out.cells
        obtain ⟨n0, n1, nl⟩ := HN.out.cells
        have xk := LK.out
        have xn := LN.out
        have hfl : (D.file false).length ≤ 1048576 := s0
        have hml : m ≤ 1048576 := by
          have := HM.out
          have q0 := HX.out.1 false
          have q1 : (D.file false).length ≤ 1048576 := s0
          simp at this; omega
        go_wp2
        go_quiet (fail)
        go_wp2
        go_quiet (fail)
        go_wp2
        go_roundw
        case rel =>
          refine ⟨0 + 1, m + ((D.left K.toNat false).length - (D.left 0 false).length), ?_, by go_num, by omega, HD.out.below (below_drewN (Below.refl _ _) _), HA.out.below (below_drewN (Below.refl _ _) _), HK.out.below (below_drewN (Below.refl _ _) _), HN.out.below (below_drewN (Below.refl _ _) _), ?_⟩
          · go_num
          · have := HM.out
            have := HC.out
            simp at *
            omega
        case measure => simp [intOf]
      · have hlk := HX.out.1 true
        have hln := HX.out.2.1 true
        have LK := Lib.hid ((bytes_extract (D.file true) (D.left K.toNat true).length).trans (by rw [HX.out.2.2.1 true]))
        have LN := Lib.hid ((bytes_extract (D.left K.toNat true) (D.left 0 true).length).trans (by rw [HX.out.2.2.2 true]))
        obtain ⟨a0, a1, al⟩ := HA.out.cells
        obtain ⟨k0, k1, kl⟩ := HK.out.cells
        obtain ⟨n0, n1, nl⟩ := HN.out.cells
        have xk := LK.out
        have xn := LN.out
        have hfl : (D.file true).length ≤ 1048576 := s1
        have hml : m ≤ 1048576 := by
          have := HM.out
          have q0 := HX.out.1 false
          have q1 : (D.file false).length ≤ 1048576 := s0
          simp at this; omega
        go_wp2
        go_quiet (fail)
        go_wp2
        go_quiet (fail)
        go_wp2
        go_roundw
        case rel =>
          refine ⟨1 + 1, m + ((D.left K.toNat true).length - (D.left 0 true).length), ?_, by go_num, by omega, HD.out.below (below_drewN (Below.refl _ _) _), HA.out.below (below_drewN (Below.refl _ _) _), HK.out.below (below_drewN (Below.refl _ _) _), HN.out.below (below_drewN (Below.refl _ _) _), ?_⟩
          · go_num
          · have := HM.out
            have := HC.out
            simp at *
            omega
        case measure => simp [intOf]
      · obtain rfl : m = min K.toNat D.u.length := HM.out
        go_wp2_with fail
        refine (waiting_duo HD.out).mono ?_
        rintro e wa ⟨rfl, pa, ba⟩
        have PA := Lib.hid pa
        have TKA := Lib.hid (HK.out.below ba)
        clear pa ba
        have hcase : (((min K.toNat D.u.length : Nat) : Int) = K ∧ K ≤ (D.u.length : Int)) ∨ (((min K.toNat D.u.length : Nat) : Int) = (D.u.length : Int) ∧ (D.u.length : Int) < K) := by omega
        rcases hcase with ⟨hm, hle⟩ | ⟨hm, hle⟩
        all_goals rw [hm]
        all_goals clear hm
        all_goals
          go_wp2_with fail
          refine (crash_duo PA.out.swap 0 (by decide)).mono ?_
          rw [DS.crash_die]
          rintro e wb ⟨rfl, pb, kb⟩
          have PB := Lib.hid pb
          have TKB := Lib.hid (TKA.out.keeps kb)
          clear pb kb
          go_wp2_with fail
          refine (after_duo PB.out 0 (by decide) (by decide)).mono ?_
          rw [DS.left_die, DS.left_die]
          rintro e wd ⟨gd, rfl, _, td, pd, bd⟩
          have PD := Lib.hid pd
          have TKD := Lib.hid (TKB.out.below bd)
          have TD := Lib.hid td
          clear pd td bd
          go_wp2_with fail
          refine (same_any wd _ _ 2 2 _ _ TD.out.texts TKD.out.texts).mono ?_
          rw [show decide ([D.left K.toNat false, D.left K.toNat true] = [D.left K.toNat false, D.left K.toNat true]) = true from decide_eq_true rfl]
          rintro e wf ⟨rfl, bf⟩
          have BF := Lib.hid (PD.out.below bf).old
          clear bf
          go_wp2_with fail
          refine (fixed9_any wf).mono ?_
          rintro e wz ⟨rfl, bz⟩
          have BZ := Lib.hid (BF.out.trans (bz.mono BF.out.size))
          clear bz
          go_wp2
          go_ret
          exact ⟨rfl, BZ.out⟩
end Go.Proofs.Ytpjpknndfhablaa
