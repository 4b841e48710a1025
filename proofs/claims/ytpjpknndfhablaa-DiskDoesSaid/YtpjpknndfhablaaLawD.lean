/- The walk of DiskSafe. -/
import Derived.Test.YtpjpknndfhablaaLawC
namespace Go.Proofs.Ytpjpknndfhablaa
open Go.RowKit

theorem Two.texts {w : World} {g : Nat} {s t : List UInt8} (h : Two w g s t) : Texts w (some ⟨g, 0, none⟩) [s, t] := by
  obtain ⟨h0, h1, _⟩ := h.cells
  refine ⟨by simp, fun i x hi => ⟨g, 0, rfl, ?_⟩⟩
  match i, hi with
  | 0, hi => simp at hi; subst hi; exact h0
  | 1, hi => simp at hi; subst hi; exact h1
theorem made_code {l : List (List UInt8)} (h : (DS.made l).1 = none) : ((DS.made l).2 == 0) = false ∧ ((DS.made l).2 != 0) = true := by
  match l, h with
  | [], _ => exact ⟨rfl, rfl⟩
  | [_], _ => exact ⟨rfl, rfl⟩
  | [s, t], h =>
    unfold DS.made at h ⊢
    simp only [] at h ⊢
    by_cases hc : s.length ≤ 1048576 ∧ t.length ≤ 1048576
    · rw [if_pos hc] at h; cases h
    · rw [if_neg hc]; exact ⟨rfl, rfl⟩
  | _ :: _ :: _ :: _, _ => exact ⟨rfl, rfl⟩
theorem made_idle {l : List (List UInt8)} {d : DS} (h : (DS.made l).1 = some d) : d.Idle := by
  unfold DS.made at h
  split at h
  · split at h
    · cases h; exact ⟨rfl, rfl⟩
    · cases h
  · cases h

/-- How DiskSafe's disk stands behind j rounds of its loop. -/
def safeAt (d : DS) (n : Int) (j : Nat) : DS :=
  let k0 := (n % ((d.file false).length + 1 : Int)).toNat
  let k1 := (n % ((d.file true).length + 1 : Int)).toNat
  if j = 0 then d.saved else if j = 1 then d.saved.short false k0 else (d.saved.short false k0).short true k1

set_option maxHeartbeats 4000000 in
set_option maxRecDepth 100000 in
theorem diskSafe_any (w : World) (ao bo : Option Addr) (ca cb : Nat) (l : List (List UInt8)) (s : List OpV) (n : Int) (h : Texts w ao l) (hs : OpsAt w bo s) :
    Calls Try.prog 3 #[.slice ao l.length ca, .slice bo s.length cb, .int .i64 n] w fun e w' => e = .returned (.bool true) ∧ Below w.heap.size w w' := by
  have HL := Lib.hid h
  have HS := Lib.hid hs
  have hsl := hs.len
  clear h hs
  go_enter Try.func3, Try.ntmps3
  go_wp2_with fail
  refine (made_any w ao bo ca cb l s HL.out HS.out).mono ?_
  rintro e w1 (⟨hn, rfl, hb1⟩ | ⟨d, c, hd, rfl, h1⟩)
  · obtain ⟨hk0, hk1⟩ := made_code hn
    have HN := Lib.hid hn
    have HB1 := Lib.hid hb1
    clear hn hb1
    go_wp2_with fail
    refine (rnew_any w1 ao ca l (HL.out.below HB1.out)).mono ?_
    rintro e w2 ⟨hb2, ⟨hn2, rfl⟩ | ⟨d, c, hd, _⟩⟩
    · have HB2 := Lib.hid hb2
      clear hb2 hn2
      go_wp2_with fail
      refine (fixed9_any w2).mono ?_
      rintro e w3 ⟨rfl, hb3⟩
      have HB3 := Lib.hid hb3
      clear hb3
      go_wp2
      go_ret
      exact ⟨rfl, bthen (bthen HB1.out HB2.out) HB3.out⟩
    · rw [HN.out] at hd; cases hd
  · have HI := Lib.hid ((made_idle hd).plays s)
    have H1 := Lib.hid h1
    generalize d.plays s = D at HI H1
    clear hd h1 d
    go_wp2_with fail
    refine (files_new H1.out).mono ?_
    rintro e w2 ⟨g, rfl, hg, ht2, h2, _⟩
    have H2 := Lib.hid h2
    have T2 := Lib.hid ht2
    clear h2 ht2 hg
    go_wp2_with fail
    refine (sync_newK H2.out).mono ?_
    simp only [HI.out.sync]
    rintro e w3 ⟨rfl, h3, k3⟩
    have H3 := Lib.hid h3
    have T3 := Lib.hid (T2.out.keeps k3)
    clear h3 k3
    go_wp2_with fail
    refine (waiting_new H3.out).mono ?_
    rw [DS.u_saved]
    rintro e w4 ⟨rfl, h4, b4⟩
    have H4 := Lib.hid h4
    have T4 := Lib.hid (T3.out.below b4)
    clear h4 b4
    go_wp2_with fail
    refine (files_new H4.out).mono ?_
    rw [DS.file_saved, DS.file_saved]
    rintro e w5 ⟨g5, rfl, _, t5, h5, b5⟩
    have H5 := Lib.hid h5
    have T5 := Lib.hid (T4.out.below b5)
    have G5 := Lib.hid t5
    clear h5 b5 t5
    go_wp2_with fail
    refine (same_any w5 _ _ 2 2 _ _ G5.out.texts T5.out.texts).mono ?_
    rw [show decide ([D.file false, D.file true] = [D.file false, D.file true]) = true from decide_eq_true rfl]
    rintro e w6 ⟨rfl, b6⟩
    have H6 := Lib.hid (H5.out.below b6)
    have T6 := Lib.hid (T5.out.below b6)
    clear b6
    go_wp2_with fail
    refine (after_new H6.out 0 (by decide) (by decide)).mono ?_
    rw [DS.left_saved, DS.left_saved]
    rintro e w7 ⟨g7, rfl, _, t7, h7, b7⟩
    have H7 := Lib.hid h7
    have T7 := Lib.hid (T6.out.below b7)
    have G7 := Lib.hid t7
    clear h7 b7 t7
    go_wp2_with fail
    refine (same_any w7 _ _ 2 2 _ _ G7.out.texts T7.out.texts).mono ?_
    rw [show decide ([D.file false, D.file true] = [D.file false, D.file true]) = true from decide_eq_true rfl]
    rintro e w8 ⟨rfl, b8⟩
    have H8 : Hid (DiskNew w w8 c (safeAt D n 0) s.length) := H7.out.below b8
    have T8 := Lib.hid (T7.out.below b8)
    have HOK := Lib.hid H1.out.ok
    clear b8
    go_wp2
    go_loopw [11] (fun i wr => ∃ j : Nat, i = .int .i64 j ∧ j ≤ 2 ∧ DiskNew w wr c (safeAt D n j) s.length ∧ Two wr g (D.file false) (D.file true)) (fun i _ => 2 - (intOf i).toNat)
    case atStart => exact ⟨0, rfl, by omega, H8.out, T8.out⟩
    case round =>
      obtain ⟨j, rfl, hj, hdn, htw⟩ := hrel
      have HD := Lib.hid hdn
      have HT := Lib.hid htw
      clear hdn htw
      rcases (show j = 0 ∨ j = 1 ∨ j = 2 by omega) with rfl | rfl | rfl
      · have hkk : Hid (0 ≤ n % (((D.file false).length : Int) + 1) ∧ n % (((D.file false).length : Int) + 1) ≤ (D.file false).length) := ⟨Int.emod_nonneg _ (by omega), by have := Int.emod_lt_of_pos n (show (0 : Int) < ((D.file false).length : Int) + 1 by omega); omega⟩
        have HF : Hid (DS.file (safeAt D n 0) false = D.file false ∧ (safeAt D n 0).u = [] ∧ (safeAt D n 0).Idle) := ⟨DS.file_saved D false, rfl, HI.out.saved⟩
        have HNX : Hid (safeAt D n (0 + 1) = (safeAt D n 0).short false (n % (((D.file false).length : Int) + 1)).toNat) := rfl
        have HCU := Lib.hid (DS.Idle.cut HF.out.2.2 HF.out.2.1 false (n % (((D.file false).length : Int) + 1)) hkk.out.1 (by rw [HF.out.1]; exact hkk.out.2))
        have hlen := HOK.out.base_len' false
        have hle : (D.file false).length ≤ 1048576 := hlen
        have e1 : (DS.fi false) = 0 := rfl
        rw [e1] at HCU
        have HFS := Lib.hid ((DS.file_short _ HF.out.2.1 false (n % (((D.file false).length : Int) + 1)).toNat).trans (by rw [HF.out.1]))
        have hid2 := HF.out.2.2.short false (n % (((D.file false).length : Int) + 1)).toNat
        have HRD := Lib.hid (DS.read_of hid2 false)
        have HSI := Lib.hid (DS.sizeI_file ((safeAt D n 0).short false (n % (((D.file false).length : Int) + 1)).toNat) false)
        rw [e1] at HRD HSI
        have HXB := Lib.hid (bytes_extract (D.file false) (n % (((D.file false).length : Int) + 1)).toNat)
        obtain ⟨x0, x1, xl⟩ := HT.out.cells
        clear e1 hid2 hlen
        obtain ⟨K, hK⟩ : ∃ K : Int, n % (((D.file false).length : Int) + 1) = K := ⟨_, rfl⟩
        go_wp2_with fail
        refine (place9_any n _ wr (by omega) (by omega)).mono ?_
        rw [hK] at hkk HNX HCU HFS HRD HSI HXB ⊢
        obtain ⟨hK0, hK1⟩ := hkk.out
        rintro e w' ⟨rfl, rfl⟩
        clear hK hkk
        go_wp2_with fail
        refine (cut_newK HD.out 0 K).mono ?_
        simp only [HCU.out]
        rintro e w6 ⟨rfl, h6, k6⟩
        have H6 := Lib.hid h6
        have T6 := Lib.hid (HT.out.keeps k6)
        clear h6 k6 x0 x1 xl
        go_wp2_with fail
        refine (size_new H6.out 0).mono ?_
        rw [HSI.out, HFS.out, List.length_take, show ((min K.toNat (D.file false).length : Nat) : Int) = K by omega]
        rintro e w7 ⟨rfl, h7, b7⟩
        have H7 := Lib.hid h7
        have T7 := Lib.hid (T6.out.below b7)
        clear h7 b7
        go_wp2_with fail
        refine (read_new H7.out 0).mono ?_
        rw [HRD.out, HFS.out]
        rintro e w8 ⟨rfl, h8, b8⟩
        have H8 := Lib.hid h8
        have T8 := Lib.hid (T7.out.below b8)
        obtain ⟨x0, x1, xl⟩ := (T7.out.below b8).cells
        clear h8 b8
        have hxb := HXB.out
        go_wp2
        go_roundw
        case rel => exact ⟨0 + 1, rfl, by omega, by rw [HNX.out]; exact H8.out, T8.out⟩
        case measure => simp [intOf]
      · have hkk : Hid (0 ≤ n % (((D.file true).length : Int) + 1) ∧ n % (((D.file true).length : Int) + 1) ≤ (D.file true).length) := ⟨Int.emod_nonneg _ (by omega), by have := Int.emod_lt_of_pos n (show (0 : Int) < ((D.file true).length : Int) + 1 by omega); omega⟩
        have HF : Hid (DS.file (safeAt D n 1) true = D.file true ∧ (safeAt D n 1).u = [] ∧ (safeAt D n 1).Idle) := ⟨(DS.file_short_other D.saved false _).trans (DS.file_saved D true), DS.u_short D.saved false (n % (((D.file false).length : Int) + 1)).toNat, HI.out.saved.short false (n % (((D.file false).length : Int) + 1)).toNat⟩
        have HNX : Hid (safeAt D n (1 + 1) = (safeAt D n 1).short true (n % (((D.file true).length : Int) + 1)).toNat) := rfl
        have HCU := Lib.hid (DS.Idle.cut HF.out.2.2 HF.out.2.1 true (n % (((D.file true).length : Int) + 1)) hkk.out.1 (by rw [HF.out.1]; exact hkk.out.2))
        have hlen := HOK.out.base_len' true
        have hle : (D.file true).length ≤ 1048576 := hlen
        have e1 : (DS.fi true) = 1 := rfl
        rw [e1] at HCU
        have HFS := Lib.hid ((DS.file_short _ HF.out.2.1 true (n % (((D.file true).length : Int) + 1)).toNat).trans (by rw [HF.out.1]))
        have hid2 := HF.out.2.2.short true (n % (((D.file true).length : Int) + 1)).toNat
        have HRD := Lib.hid (DS.read_of hid2 true)
        have HSI := Lib.hid (DS.sizeI_file ((safeAt D n 1).short true (n % (((D.file true).length : Int) + 1)).toNat) true)
        rw [e1] at HRD HSI
        have HXB := Lib.hid (bytes_extract (D.file true) (n % (((D.file true).length : Int) + 1)).toNat)
        obtain ⟨x0, x1, xl⟩ := HT.out.cells
        clear e1 hid2 hlen
        obtain ⟨K, hK⟩ : ∃ K : Int, n % (((D.file true).length : Int) + 1) = K := ⟨_, rfl⟩
        go_wp2_with fail
        refine (place9_any n _ wr (by omega) (by omega)).mono ?_
        rw [hK] at hkk HNX HCU HFS HRD HSI HXB ⊢
        obtain ⟨hK0, hK1⟩ := hkk.out
        rintro e w' ⟨rfl, rfl⟩
        clear hK hkk
        go_wp2_with fail
        refine (cut_newK HD.out 1 K).mono ?_
        simp only [HCU.out]
        rintro e w6 ⟨rfl, h6, k6⟩
        have H6 := Lib.hid h6
        have T6 := Lib.hid (HT.out.keeps k6)
        clear h6 k6 x0 x1 xl
        go_wp2_with fail
        refine (size_new H6.out 1).mono ?_
        rw [HSI.out, HFS.out, List.length_take, show ((min K.toNat (D.file true).length : Nat) : Int) = K by omega]
        rintro e w7 ⟨rfl, h7, b7⟩
        have H7 := Lib.hid h7
        have T7 := Lib.hid (T6.out.below b7)
        clear h7 b7
        go_wp2_with fail
        refine (read_new H7.out 1).mono ?_
        rw [HRD.out, HFS.out]
        rintro e w8 ⟨rfl, h8, b8⟩
        have H8 := Lib.hid h8
        have T8 := Lib.hid (T7.out.below b8)
        obtain ⟨x0, x1, xl⟩ := (T7.out.below b8).cells
        clear h8 b8
        have hxb := HXB.out
        go_wp2
        go_roundw
        case rel => exact ⟨1 + 1, rfl, by omega, by rw [HNX.out]; exact H8.out, T8.out⟩
        case measure => simp [intOf]
      · go_wp2_with fail
        refine (fixed9_any wr).mono ?_
        rintro e w9 ⟨rfl, b9⟩
        have B9 := Lib.hid b9
        clear b9
        go_wp2
        go_ret
        exact ⟨rfl, HD.out.2.1.trans (B9.out.mono HD.out.2.1.size)⟩
end Go.Proofs.Ytpjpknndfhablaa
