/- Walks of the law's own functions of chapter 10: laid, fixed; and of WalSums. -/
import Derived.Test.YtpjpknndfhablaaOne
import Derived.Test.YtpjpknndfhablaaFixM
import Derived.Test.YtpjpknndfhablaaWalC
namespace Go.Proofs.Ytpjpknndfhablaa
open Go.RowKit
theorem made_two : DS.made [[], []] = (some {}, 0) := by simp [DS.made]
set_option maxHeartbeats 2000000 in
set_option maxRecDepth 100000 in
theorem laid10_any (w : World) : Calls Try.prog 36 #[] w fun e w' => ∃ c x, e = .returned (.tuple #[.pointer (some ⟨c, 0, none⟩), .pointer (some ⟨x, 0, none⟩)]) ∧ One w w' x c Wal.q0 Wal.e0 1 := by
  have E0 := Lib.hid made_two
  go_enter Try.func36, Try.ntmps36
  go_wp2_with fail
  have hn0 := heap_new w (.cells #[.string ⟨#[]⟩, .string ⟨#[]⟩] 9)
  obtain ⟨x0, x1, _, _⟩ := cells2 hn0
  have HT : Hid (Texts (w.alloc (.cells #[.string ⟨#[]⟩, .string ⟨#[]⟩] 9)) (some ⟨w.heap.size, 0, none⟩) [[], []]) := ⟨by decide, fun i s hi => ⟨w.heap.size, 0, rfl, by
    match i, hi with
    | 0, hi => simp at hi; subst hi; exact x0
    | 1, hi => simp at hi; subst hi; exact x1⟩⟩
  clear hn0 x0 x1
  refine (new_any _ (some ⟨w.heap.size, 0, none⟩) 2 [[], []] HT.out).mono ?_
  rw [E0.out]
  rintro e w1 ⟨hb1, ⟨h, _⟩ | ⟨d, c, hd, rfl, hc, hat⟩⟩
  · cases h
  obtain rfl := Option.some.inj hd
  have HAT := Lib.hid hat
  have hc' : w.heap.size ≤ c := by have := hc; simp at this; omega
  have HB := Lib.hid (bthen (balloc w _) hb1)
  clear hb1 hd hat HT hc
  go_wp2_with fail
  have hw := wnew_any c w1 {} 0 none HAT.out (by decide)
  rw [Wal.new_q] at hw
  refine hw.mono ?_
  clear hw
  rintro e w2 ⟨v, rfl, h1, _, rb', hd2, hn2, ht2, _⟩
  obtain ⟨x, rfl, hx, hl⟩ := h1 _ rfl
  have HO : Hid (One w w2 x c Wal.q0 Wal.e0 1) := ⟨Nat.le_trans HB.out.size hx, hl, .turn hc' HB.out (fun k hk => by cases hk) hd2 hn2 ht2⟩
  clear h1 hd2 hn2 ht2 hx hl
  go_wp2
  refine bodyPost_ret (results_tmp2 rfl _ _ _) rfl ?_
  exact ⟨c, x, rfl, HO.out⟩
/-- So many bytes 0, as a text. -/
def zeros (n : Nat) : List UInt8 := List.replicate n 0
theorem zeros_length (n : Nat) : (zeros n).length = n := by simp [zeros]
theorem make_zeros (n : Nat) (m : Int) (hm : m = n) (hn : n ≤ 1000000) (w : World) : ∃ (z : List UInt8) (w' : World), z.length = n ∧ (Instr.makeSlice 63 (.int .i64 m) (.int .i64 m)).run Try.prog w = .ok (.slice (some ⟨w.heap.size, 0, none⟩) n n) w' ∧
    (convert 63 9 (.slice (some ⟨w.heap.size, 0, none⟩) n n)).run Try.prog w' = .ok (.string ⟨z.toArray⟩) w' ∧ Below w.heap.size w w' := by
  subst hm
  have hm := run_make_row' 63 5 (.int .u8 0) 1 Try.underlying63 Try.byteInfo rfl .i64 .i64 n (by omega) (by omega) w
  refine ⟨zeros n, _, zeros_length n, hm, ?_, balloc _ _⟩
  have hr : RowB (w.alloc (.cells (madeCells #[.int .u8 0] n) 5)) w.heap.size (zeros n) := by
    refine ⟨heap_lt (heap_new w _), fun j v hj => ⟨cell_of (heap_new w _) ?_, free_of (heap_new w _) j⟩⟩
    have hjn : j < n := by have := (List.getElem?_eq_some_iff.1 hj).1; simpa [zeros] using this
    simp [zeros, hjn] at hj
    subst hj
    simp [madeCells, hjn, Nat.mod_one]
  have ho := ownF_row hr (Nat.le_refl _) (by unfold maxLen; rw [zeros_length]; omega)
  have := run_string_of_ownF (P := Try.prog) (w.alloc (.cells (madeCells #[.int .u8 0] n) 5)) Try.underlying63 Try.underlying5 ho 9 Try.underlying9
  rwa [zeros_length] at this
set_option maxHeartbeats 4000000 in
set_option maxRecDepth 100000 in
theorem fixed10_any (w : World) : Calls Try.prog 35 #[] w fun e w' => e = .returned (.bool true) ∧ Below w.heap.size w w' := by
  have HA := Lib.hid Wal.append_q.1
  have HR := Lib.hid Wal.room_q.1
  have HN : Hid (((Wal.q1.n : Nat) : Int) = 1) := Lib.hid (by rw [Wal.room_q.2]; rfl)
  have HS := Lib.hid Wal.sync_q.1
  have HC : Hid (((Wal.crc [49, 50, 51, 52, 53, 54, 55, 56, 57] : Nat) : Int) = 3421780262) := Lib.hid (by rw [Wal.crc_q]; rfl)
  have HO1 := Lib.hid Wal.open_q.1
  have HZ : Hid (Wal.e3.sizeI 0 = 29) := Lib.hid (by show ((Wal.e3.size false : Nat) : Int) = 29; rw [Wal.size_q]; rfl)
  have HO2 := Lib.hid Wal.open_q2.1
  have HCK := Lib.hid Wal.check_q.1
  have HG4 : Hid (Wal.q4.g ≤ 4611686018427387904) := Lib.hid Wal.open_q2.2.1.g2
  have HZ0 : Hid (Wal.e5.sizeI 0 = 0) := Lib.hid (by show ((Wal.e5.size false : Nat) : Int) = 0; rw [Wal.size_q5.1]; rfl)
  have HZ1 : Hid (Wal.e5.sizeI 1 = 21) := Lib.hid (by show ((Wal.e5.size true : Nat) : Int) = 21; rw [Wal.size_q5.2]; rfl)
  have HO3 := Lib.hid Wal.open_q3
  have HN5 : Hid (Wal.q5.n ≤ 4611686018427387904) := Lib.hid (by rw [Wal.check_q.2.1.n]; decide)
  have HD5 : Hid (Wal.q5.dead = false) := Lib.hid Wal.check_q.2.1.ld
  go_enter Try.func35, Try.ntmps35
  go_wp2_with fail
  refine (laid10_any w).mono ?_
  rintro e w1 ⟨c, x, rfl, h1⟩
  have H1 := Lib.hid h1
  clear h1
  go_wp2_with fail
  refine (append_one H1.out [97] (by decide) (by decide) (by decide)).mono ?_
  simp only [HA.out]
  rintro e w2 ⟨rfl, h2, _, _⟩
  have H2 := Lib.hid h2
  clear h2
  go_wp2_with fail
  refine (records_one H2.out).mono ?_
  rw [HN.out]
  rintro e w3 ⟨rfl, rfl⟩
  go_wp2_with fail
  refine (room_one H2.out).mono ?_
  rw [HR.out]
  rintro e w3 ⟨rfl, h3, _⟩
  have H3 := Lib.hid h3
  clear h3
  go_wp2_with fail
  refine (sync_one H3.out).mono ?_
  simp only [HS.out]
  rintro e w4 ⟨rfl, h4, _, _⟩
  have H4 := Lib.hid h4
  clear h4
  go_wp2_with fail
  refine (wsum_any [49, 50, 51, 52, 53, 54, 55, 56, 57] w4 (by decide)).mono ?_
  rw [HC.out]
  rintro e w5 ⟨rfl, rfl⟩
  go_wp2_with fail
  have ho := open_one H4.out.disk
  simp only [HO1.out] at ho
  refine ho.mono ?_
  clear ho
  rintro e w5 ⟨v, s, rv, rfl, h5, _, hd5, _, _⟩
  obtain ⟨rfl, hrec, x3, rfl, _, h51⟩ := h5 _ rfl
  obtain ⟨g, cur, rfl, _, hg, _, hcell⟩ := hrec
  have hc0 := cell_of hg (hcell 0 [97] rfl)
  have H5 := Lib.hid hd5
  clear h5 hd5 hg hcell h51
  go_wp2_with fail
  refine (size_new H5.out 0).mono ?_
  rw [HZ.out]
  rintro e w6 ⟨rfl, h6, _⟩
  have H6 := Lib.hid h6
  clear h6 hc0
  go_wp2_with fail
  have ho := open_one H6.out
  simp only [HO2.out] at ho
  refine ho.mono ?_
  clear ho
  rintro e w7 ⟨v, s, rv, rfl, h7, _, _, _, _⟩
  obtain ⟨rfl, _, x4, rfl, _, h71⟩ := h7 _ rfl
  have H7 := Lib.hid h71
  clear h7 h71
  go_wp2_with fail
  refine (check_one H7.out [115] (by decide) (by decide) HG4.out).mono ?_
  simp only [HCK.out]
  rintro e w8 ⟨rfl, h8, _, _⟩
  have H8 := Lib.hid h8
  clear h8
  go_wp2_with fail
  refine (size_new H8.out.disk 0).mono ?_
  rw [HZ0.out]
  rintro e w9 ⟨rfl, _, b9⟩
  have H9 := Lib.hid (H8.out.below b9)
  clear b9
  go_wp2_with fail
  refine (size_new H9.out.disk 1).mono ?_
  rw [HZ1.out]
  rintro e wa ⟨rfl, _, ba⟩
  have HAA := Lib.hid (H9.out.below ba)
  clear ba
  obtain ⟨z, wb, hz, hmk, hcv, bb⟩ := make_zeros 65537 65537 rfl (by decide) wa
  have HL : Hid (Wal.append Wal.q5 Wal.e5 z = (Wal.q5, Wal.e5, 101)) := Lib.hid (Wal.long_q (by omega))
  have HB := Lib.hid (HAA.out.below bb)
  clear bb
  go_wp2_with fail
  clear hmk hcv
  refine (append_one HB.out z (by decide) (by omega) HN5.out).mono ?_
  simp only [HL.out]
  rintro e wc ⟨rfl, hc, _, _⟩
  have HCC := Lib.hid hc
  clear hc
  go_wp2_with fail
  have ho := open_one HCC.out.disk
  simp only [HO3.out] at ho
  refine ho.mono ?_
  clear ho
  rintro e wd ⟨v, s, rv, rfl, hd, _, hdd, kd, _⟩
  obtain ⟨rfl, hrec, x6, rfl, _, _⟩ := hd _ rfl
  obtain ⟨g6, _, rfl, _⟩ := hrec
  have HD := Lib.hid hdd
  have HX := Lib.hid (HCC.out.log.keepsOff kd (by decide))
  clear hd hdd kd
  go_wp2_with fail
  refine (wdead_any x4 c wd Wal.q5 HX.out).mono ?_
  rw [HD5.out]
  rintro e we ⟨rfl, rfl⟩
  go_wp2
  go_ret
  exact ⟨rfl, HD.out.2.1⟩
set_option maxHeartbeats 2000000 in
set_option maxRecDepth 100000 in
theorem walSums_any (s : List UInt8) (w : World) (hs : s.length ≤ 140737488355328) :
    Calls Try.prog 7 #[.string ⟨s.toArray⟩] w fun e w' => e = .returned (.bool true) ∧ Below w.heap.size w w' := by
  go_enter Try.func7, Try.ntmps7
  go_wp2_with fail
  refine (wsum_any s w hs).mono ?_
  rintro e w1 ⟨rfl, rfl⟩
  go_wp2_with fail
  refine (rwsum_any s w hs).mono ?_
  rintro e w1 ⟨rfl, rfl⟩
  go_wp2_with fail
  refine (fixed10_any w).mono ?_
  rintro e w2 ⟨rfl, hb2⟩
  have HB2 := Lib.hid hb2
  clear hb2
  go_wp2
  go_ret
  exact ⟨rfl, HB2.out⟩
end Go.Proofs.Ytpjpknndfhablaa
