/- The walk of DiskArms. -/
import Derived.Test.YtpjpknndfhablaaPair
import Derived.Test.YtpjpknndfhablaaArmM
import Derived.Test.YtpjpknndfhablaaLawD
namespace Go.Proofs.Ytpjpknndfhablaa
open Go.RowKit

/-- A copy of an operation. -/
def OpIs (w : World) (g : Nat) (k a b : Int) (s : List UInt8) : Prop := ∃ cur, w.heap[g]? = some (.cells cur 47) ∧ cur[1]? = some (.int .i64 k) ∧ cur[2]? = some (.int .i64 a) ∧ cur[3]? = some (.int .i64 b) ∧ cur[4]? = some (.string ⟨s.toArray⟩)
theorem OpIs.keeps {w w' : World} {g : Nat} {k a b : Int} {s : List UInt8} (h : OpIs w g k a b s) (hk : KeepsND w w') : OpIs w' g k a b s := by
  obtain ⟨cur, hg, h0⟩ := h
  exact ⟨cur, hk g _ hg (fun c f => ⟨by simp, by simp⟩), h0⟩
theorem OpIs.cells {w : World} {g : Nat} {k a b : Int} {s : List UInt8} (h : OpIs w g k a b s) : w.cell? ⟨g, 1, none⟩ = some (.int .i64 k) ∧ w.cell? ⟨g, 2, none⟩ = some (.int .i64 a) ∧ w.cell? ⟨g, 3, none⟩ = some (.int .i64 b) ∧ w.cell? ⟨g, 4, none⟩ = some (.string ⟨s.toArray⟩) := by
  obtain ⟨cur, hg, h1, h2, h3, h4⟩ := h
  exact ⟨cell_of hg h1, cell_of hg h2, cell_of hg h3, cell_of hg h4⟩

set_option maxHeartbeats 8000000 in
set_option maxRecDepth 100000 in
theorem diskArms_any (w : World) (ao bo : Option Addr) (ca cb : Nat) (l : List (List UInt8)) (s : List OpV) (u : OpV) (h : Texts w ao l) (hs : OpsAt w bo s) :
    Calls Try.prog 6 #[.slice ao l.length ca, .slice bo s.length cb, .agg #[.int .i64 u.on, .int .i64 u.kind, .int .i64 u.a, .int .i64 u.b, .string ⟨u.s.toArray⟩]] w fun e w' => e = .returned (.bool true) ∧ Below w.heap.size w w' := by
  have HL := Lib.hid h
  have HS := Lib.hid hs
  have hsl := hs.len
  clear h hs
  go_enter Try.func6, Try.ntmps6
  go_wp2_with fail
  have HB0 := Lib.hid (balloc w (.cells #[.int .i64 u.on, .int .i64 u.kind, .int .i64 u.a, .int .i64 u.b, .string ⟨u.s.toArray⟩] 47))
  have hn0 := heap_new w (.cells #[.int .i64 u.on, .int .i64 u.kind, .int .i64 u.a, .int .i64 u.b, .string ⟨u.s.toArray⟩] 47)
  have HU0 : Hid (OpIs (w.alloc (.cells #[.int .i64 u.on, .int .i64 u.kind, .int .i64 u.a, .int .i64 u.b, .string ⟨u.s.toArray⟩] 47)) w.heap.size u.kind u.a u.b u.s) := ⟨_, hn0, rfl, rfl, rfl, rfl⟩
  clear hn0
  generalize w.alloc (.cells #[.int .i64 u.on, .int .i64 u.kind, .int .i64 u.a, .int .i64 u.b, .string ⟨u.s.toArray⟩] 47) = w0 at HB0 HU0 ⊢
  generalize w.heap.size = G at HU0 ⊢
  refine (made_any w0 ao none ca 0 l [] (HL.out.below HB0.out) ⟨by decide, by simp, by simp⟩).mono ?_
  rintro e w1 (⟨hn, rfl, hb1⟩ | ⟨d, c, hd, rfl, h1⟩)
  · obtain ⟨hk0, hk1⟩ := made_code hn
    have HN := Lib.hid hn
    have HB1 := Lib.hid hb1
    clear hn hb1
    go_wp2_with fail
    refine (rnew_any w1 ao ca l (HL.out.below (bthen HB0.out HB1.out))).mono ?_
    rintro e w2 ⟨hb2, ⟨hn2, rfl⟩ | ⟨d, c, hd, _⟩⟩
    · have HB2 := Lib.hid hb2
      clear hb2 hn2
      go_wp2_with fail
      refine (fixed9_any w2).mono ?_
      rintro e w3 ⟨rfl, hb3⟩
      have HB3 := Lib.hid hb3
      clear hb3
      go_wp2
      go_ret
      exact ⟨rfl, bthen HB0.out (bthen (bthen HB1.out HB2.out) HB3.out)⟩
    · rw [HN.out] at hd; cases hd
  · have HI := Lib.hid (made_idle hd)
    have H1 : Hid (DiskNew w0 w1 c d 0) := h1
    have HU1 := Lib.hid (HU0.out.keeps (KeepsND.below (by have := h1.2.1; exact this)))
    obtain ⟨u1, u2, u3, u4⟩ := HU1.out.cells
    clear hd h1
    have hKK : Hid (0 ≤ u.b % 10000 ∧ u.b % 10000 < 10000 ∧ 0 ≤ u.a % 8 ∧ u.a % 8 < 8) := ⟨Int.emod_nonneg _ (by decide), Int.emod_lt_of_pos _ (by decide), Int.emod_nonneg _ (by decide), Int.emod_lt_of_pos _ (by decide)⟩
    obtain ⟨K, hK⟩ : ∃ K : Int, u.b % 10000 = K := ⟨_, rfl⟩
    obtain ⟨N, hN⟩ : ∃ N : Int, u.a % 8 = N := ⟨_, rfl⟩
    have HPK := Lib.hid hK
    have HPN := Lib.hid hN
    rw [hK, hN] at hKK
    obtain ⟨hK0, hK1, hN0, hN1⟩ := hKK.out
    clear hK hN hKK
    go_wp2
    go_region_held3 (fun w' => w'.cell? ⟨G, 2, none⟩ = some (.int .i64 u.a) ∧ w'.cell? ⟨G, 3, none⟩ = some (.int .i64 u.b))
      (first | exact ⟨u2, u3⟩ | exact ⟨by assumption, by assumption⟩)
      (first | (go_at_call 20; have hpn := HPN.out; clear HPN; refine (place9_any u.a 8 _ (by decide) (by decide)).mono ?_; rw [hpn]; clear hpn; rintro e w' ⟨rfl, rfl⟩) | (go_at_call 20; have hpk := HPK.out; clear HPK; refine (place9_any u.b 10000 _ (by decide) (by decide)).mono ?_; rw [hpk]; clear hpk; rintro e w' ⟨rfl, rfl⟩))
    clear u1 u2 u3 u4
    go_wp2_with fail
    refine (clone_duo (H1.out.below (Below.refl _ _).drew) (by omega)).mono ?_
    rintro e w2 ⟨c', rfl, p2, b2⟩
    have P2 := Lib.hid p2
    clear p2 b2
    go_wp2_with fail
    refine (arm_duo P2.out (1 + N) K (by omega) (by omega)).mono ?_
    rw [HI.out.arm (by omega) hK0]
    rintro e w3 ⟨rfl, p3, _⟩
    have P3 := Lib.hid p3
    clear p3
    have HW := Lib.hid HB0.out.size
    go_wp2
    go_loopw [10, 13] (fun vn i wr => ∃ (j : Nat) (n : Int) (D : DS), vn = .int .i64 n ∧ i = .int .i64 j ∧ j ≤ s.length ∧ 1 ≤ n ∧ n ≤ 8 ∧ D.Idle ∧ Duo w0 wr c c' (D.under n.toNat K.toNat) D j j) (fun _ i _ => s.length - (intOf i).toNat)
    case atStart => exact ⟨0, 1 + N, d, by (refine congrArg _ ?_; simp only [IntKind.wrap, IntKind.bits, IntKind.signed]; simp; omega), rfl, by omega, by omega, by omega, HI.out, P3.out⟩
    case round =>
      obtain ⟨j, n, D, rfl, rfl, hj, hn1, hn8, hdi, hdu⟩ := hrel
      have HD := Lib.hid hdi
      have HP := Lib.hid hdu
      clear hdi hdu
      by_cases hlt : j < s.length
      · obtain ⟨o, ho⟩ : ∃ o, s[j]? = some o := ⟨_, List.getElem?_eq_getElem hlt⟩
        obtain ⟨b, off, rfl, hbl, c0, c1, c2, c3, c4⟩ := HS.out.cell j o ho
        obtain ⟨f1, f2, f3, _⟩ := HS.out.fits o (List.mem_of_getElem? ho)
        have hbw := HB0.out.trans (HP.out.old.mono HB0.out.size)
        have k0 := hbw.cell (p := ⟨b, off + j * 5, none⟩) hbl
        have k1 := hbw.cell (p := ⟨b, off + j * 5 + 1, none⟩) hbl
        have k2 := hbw.cell (p := ⟨b, off + j * 5 + 2, none⟩) hbl
        have k3 := hbw.cell (p := ⟨b, off + j * 5 + 3, none⟩) hbl
        have k4 := hbw.cell (p := ⟨b, off + j * 5 + 4, none⟩) hbl
        rw [c0] at k0; rw [c1] at k1; rw [c2] at k2; rw [c3] at k3; rw [c4] at k4
        clear ho c0 c1 c2 c3 c4 hbw
        have HPO := Lib.hid HP.out.old
        have hkind : o.kind = 1 ∨ o.kind = 2 ∨ o.kind = 3 ∨ ((o.kind == 1) = false ∧ (o.kind == 2) = false ∧ (o.kind == 3) = false) := by
          by_cases h1 : o.kind = 1
          · exact .inl h1
          · by_cases h2 : o.kind = 2
            · exact .inr (.inl h2)
            · by_cases h3 : o.kind = 3
              · exact .inr (.inr (.inl h3))
              · exact .inr (.inr (.inr (by simp [h1, h2, h3])))
        rcases hkind with h1 | h1 | h1 | ⟨h1, h2, h3⟩
        · rw [h1] at k1
          clear h1
          have HO : Hid (OpIs (wr.alloc (.cells #[.int .i64 o.on, .int .i64 1, .int .i64 o.a, .int .i64 o.b, .string ⟨o.s.toArray⟩] 47)) wr.heap.size 1 o.a o.b o.s) := ⟨_, heap_new wr _, rfl, rfl, rfl, rfl⟩
          have PX := Lib.hid (HP.out.below (balloc wr (.cells #[.int .i64 o.on, .int .i64 1, .int .i64 o.a, .int .i64 o.b, .string ⟨o.s.toArray⟩] 47)))
          go_wp2
          generalize wr.alloc (.cells #[.int .i64 o.on, .int .i64 1, .int .i64 o.a, .int .i64 o.b, .string ⟨o.s.toArray⟩] 47) = wx at HO PX ⊢
          generalize wr.heap.size = g at HO ⊢
          obtain ⟨x1, x2, x3, x4⟩ := HO.out.cells
          clear k0 k1 k2 k3 k4
          rcases HD.out.fate_append n.toNat K.toNat (by omega) o.a o.s with ⟨e, h0, h2, hr, hx⟩ | ⟨D', hi, hx, hn, hr⟩ | ⟨D', z, hi, hx, hn, hr, hz, hf⟩
          · skip
            have he2 : (e == 2) = false := by simp [h2]
            have he2' : (e != 2) = true := by simp [h2]
            have he0 : (e == 0) = false := by simp [h0]
            have hee : (e != e) = false := by simp
            go_region_held3 (fun w' => w'.cell? ⟨g, 2, none⟩ = some (.int .i64 o.a) ∧ w'.cell? ⟨g, 4, none⟩ = some (.string ⟨o.s.toArray⟩))
              (first | exact ⟨x2, x4⟩ | exact ⟨by assumption, by assumption⟩)
              (first | (go_at_call 31; have px := PX.out; clear PX; refine (append_duo (px.below (Below.refl _ _).drew) o.a o.s (by omega) (by omega)).mono ?_; simp only [hr]; rintro e1 wa ⟨rfl, pa, ka⟩; have PA := Lib.hid pa; have HA := Lib.hid (HO.out.keeps (KeepsND.trans (KeepsND.below (Below.refl _ _).drew) ka)); obtain ⟨_, y2, _, y4⟩ := HA.out.cells; clear pa ka px) | (go_at_call 31; have pa := PA.out; clear PA; refine (append_duo pa.swap o.a o.s (by omega) (by omega)).mono ?_; simp only [hx]; rintro e2 wb ⟨rfl, pb, kb⟩; have P2 := Lib.hid pb.swap; have HB2 := Lib.hid (HA.out.keeps kb); obtain ⟨_, z2, _, z4⟩ := HB2.out.cells; clear pb kb pa))
            -- neither took it
            go_wp2_with fail
            refine (files_duo P2.out).mono ?_
            rintro e wa ⟨ga, rfl, _, ta, pa, _⟩
            have PA := Lib.hid pa
            have TA := Lib.hid ta
            clear pa ta
            go_wp2_with fail
            refine (files_duo PA.out.swap).mono ?_
            rintro e wb ⟨gb, rfl, _, tb, pb, bb⟩
            have PB := Lib.hid pb.swap
            have TB := Lib.hid tb
            have TC := Lib.hid (TA.out.below bb)
            clear pb tb bb
            go_wp2_with fail
            refine (same_any wb _ _ 2 2 _ _ TC.out.texts TB.out.texts).mono ?_
            rw [DS.file_under, DS.file_under, show decide ([D.file false, D.file true] = [D.file false, D.file true]) = true from decide_eq_true rfl]
            rintro e wc ⟨rfl, bc⟩
            have PC := Lib.hid (PB.out.below bc)
            clear bc
            go_wp2
            go_roundw
            case rel => exact ⟨j + 1, n, D, by go_num, rfl, by omega, by omega, by omega, HD.out, PC.out.mono (by omega) (by omega)⟩
            case measure => simp [intOf]; omega
          · skip
            rw [show n.toNat - 1 = (n - 1).toNat by omega] at hr
            have HI2 := Lib.hid hi
            go_region_held3 (fun w' => w'.cell? ⟨g, 2, none⟩ = some (.int .i64 o.a) ∧ w'.cell? ⟨g, 4, none⟩ = some (.string ⟨o.s.toArray⟩))
              (first | exact ⟨x2, x4⟩ | exact ⟨by assumption, by assumption⟩)
              (first | (go_at_call 31; have px := PX.out; clear PX; refine (append_duo (px.below (Below.refl _ _).drew) o.a o.s (by omega) (by omega)).mono ?_; simp only [hr]; rintro e1 wa ⟨rfl, pa, ka⟩; have PA := Lib.hid pa; have HA := Lib.hid (HO.out.keeps (KeepsND.trans (KeepsND.below (Below.refl _ _).drew) ka)); obtain ⟨_, y2, _, y4⟩ := HA.out.cells; clear pa ka px) | (go_at_call 31; have pa := PA.out; clear PA; refine (append_duo pa.swap o.a o.s (by omega) (by omega)).mono ?_; simp only [hx]; rintro e2 wb ⟨rfl, pb, kb⟩; have P2 := Lib.hid pb.swap; have HB2 := Lib.hid (HA.out.keeps kb); obtain ⟨_, z2, _, z4⟩ := HB2.out.cells; clear pb kb pa))
            -- neither took it
            go_wp2_with fail
            refine (files_duo P2.out).mono ?_
            rintro e wa ⟨ga, rfl, _, ta, pa, _⟩
            have PA := Lib.hid pa
            have TA := Lib.hid ta
            clear pa ta
            go_wp2_with fail
            refine (files_duo PA.out.swap).mono ?_
            rintro e wb ⟨gb, rfl, _, tb, pb, bb⟩
            have PB := Lib.hid pb.swap
            have TB := Lib.hid tb
            have TC := Lib.hid (TA.out.below bb)
            clear pb tb bb
            go_wp2_with fail
            refine (same_any wb _ _ 2 2 _ _ TC.out.texts TB.out.texts).mono ?_
            rw [DS.file_under, DS.file_under, show decide ([D'.file false, D'.file true] = [D'.file false, D'.file true]) = true from decide_eq_true rfl]
            rintro e wc ⟨rfl, bc⟩
            have PC := Lib.hid (PB.out.below bc)
            clear bc
            go_wp2
            go_roundw
            case rel => exact ⟨j + 1, n - 1, D', by go_num, rfl, by omega, by omega, by omega, HI2.out, PC.out.mono (by omega) (by omega)⟩
            case measure => simp [intOf]; omega
          · rw [hx] at hi hf
            obtain rfl : n = 1 := by omega
            have HY := Lib.hid hi
            have HF := Lib.hid hf
            go_region_held3 (fun w' => w'.cell? ⟨g, 2, none⟩ = some (.int .i64 o.a) ∧ w'.cell? ⟨g, 4, none⟩ = some (.string ⟨o.s.toArray⟩))
              (first | exact ⟨x2, x4⟩ | exact ⟨by assumption, by assumption⟩)
              (first | (go_at_call 31; have px := PX.out; clear PX; refine (append_duo (px.below (Below.refl _ _).drew) o.a o.s (by omega) (by omega)).mono ?_; simp only [hr]; rintro e1 wa ⟨rfl, pa, ka⟩; have PA := Lib.hid pa; have HA := Lib.hid (HO.out.keeps (KeepsND.trans (KeepsND.below (Below.refl _ _).drew) ka)); obtain ⟨_, y2, _, y4⟩ := HA.out.cells; clear pa ka px) | (go_at_call 31; have pa := PA.out; clear PA; refine (append_duo pa.swap o.a o.s (by omega) (by omega)).mono ?_; simp only [hx]; rintro e2 wb ⟨rfl, pb, kb⟩; have P2 := Lib.hid pb.swap; have HB2 := Lib.hid (HA.out.keeps kb); obtain ⟨_, z2, _, z4⟩ := HB2.out.cells; clear pb kb pa))
            -- the power goes
            go_wp2_with fail
            refine (crash_duo P2.out.swap K (by omega)).mono ?_
            rw [HY.out.crash (by omega)]
            rintro e wz ⟨rfl, pz, _⟩
            have PZ := Lib.hid pz.swap
            clear pz
            go_wp2_with fail
            refine (dead_duo PZ.out).mono ?_
            rw [hz]
            rintro e wz ⟨rfl, rfl⟩
            go_wp2_with fail
            refine (files_duo PZ.out).mono ?_
            rintro e wa ⟨ga, rfl, _, ta, pa, _⟩
            have PA := Lib.hid pa
            have TA := Lib.hid ta
            clear pa ta
            go_wp2_with fail
            refine (files_duo PA.out.swap).mono ?_
            rintro e wb ⟨gb, rfl, _, tb, pb, bb⟩
            have PB := Lib.hid pb.swap
            have TB := Lib.hid tb
            have TC := Lib.hid (TA.out.below bb)
            clear pb tb bb
            go_wp2_with fail
            refine (same_any wb _ _ 2 2 _ _ TC.out.texts TB.out.texts).mono ?_
            rw [HF.out, HF.out, show decide ([(D'.die K.toNat).file false, (D'.die K.toNat).file true] = [(D'.die K.toNat).file false, (D'.die K.toNat).file true]) = true from decide_eq_true rfl]
            rintro e wc ⟨rfl, bc⟩
            have BC := Lib.hid (PB.out.old.trans (bc.mono PB.out.old.size))
            clear bc
            go_wp2_with fail
            refine (fixed9_any wc).mono ?_
            rintro e wd ⟨rfl, bd⟩
            have BD := Lib.hid (BC.out.trans (bd.mono BC.out.size))
            clear bd
            go_wp2
            go_ret
            exact ⟨rfl, bthen HB0.out BD.out⟩
        · rw [h1] at k1
          clear h1
          have HO : Hid (OpIs (wr.alloc (.cells #[.int .i64 o.on, .int .i64 2, .int .i64 o.a, .int .i64 o.b, .string ⟨o.s.toArray⟩] 47)) wr.heap.size 2 o.a o.b o.s) := ⟨_, heap_new wr _, rfl, rfl, rfl, rfl⟩
          have PX := Lib.hid (HP.out.below (balloc wr (.cells #[.int .i64 o.on, .int .i64 2, .int .i64 o.a, .int .i64 o.b, .string ⟨o.s.toArray⟩] 47)))
          go_wp2_with fail
          generalize wr.alloc (.cells #[.int .i64 o.on, .int .i64 2, .int .i64 o.a, .int .i64 o.b, .string ⟨o.s.toArray⟩] 47) = wx at HO PX ⊢
          generalize wr.heap.size = g at HO ⊢
          obtain ⟨x1, x2, x3, x4⟩ := HO.out.cells
          clear k0 k1 k2 k3 k4
          rcases HD.out.fate_sync n.toNat K.toNat (by omega) with ⟨e, h0, h2, hr, hx⟩ | ⟨D', hi, hx, hn, hr⟩ | ⟨D', z, hi, hx, hn, hr, hz, hf⟩
          · rw [HD.out.sync] at hx
            exact absurd (congrArg Prod.snd hx).symm h0
          · skip
            rw [show n.toNat - 1 = (n - 1).toNat by omega] at hr
            have HI2 := Lib.hid hi
            refine (sync_duo PX.out).mono ?_
            simp only [hr]
            rintro e1 wa ⟨rfl, pa, ka⟩
            have PA := Lib.hid pa
            clear pa ka
            go_wp2_with fail
            refine (sync_duo PA.out.swap).mono ?_
            simp only [hx]
            rintro e2 wb ⟨rfl, pb, kb⟩
            have P2 := Lib.hid pb.swap
            clear pb kb
            -- neither took it
            go_wp2_with fail
            refine (files_duo P2.out).mono ?_
            rintro e wa ⟨ga, rfl, _, ta, pa, _⟩
            have PA := Lib.hid pa
            have TA := Lib.hid ta
            clear pa ta
            go_wp2_with fail
            refine (files_duo PA.out.swap).mono ?_
            rintro e wb ⟨gb, rfl, _, tb, pb, bb⟩
            have PB := Lib.hid pb.swap
            have TB := Lib.hid tb
            have TC := Lib.hid (TA.out.below bb)
            clear pb tb bb
            go_wp2_with fail
            refine (same_any wb _ _ 2 2 _ _ TC.out.texts TB.out.texts).mono ?_
            rw [DS.file_under, DS.file_under, show decide ([D'.file false, D'.file true] = [D'.file false, D'.file true]) = true from decide_eq_true rfl]
            rintro e wc ⟨rfl, bc⟩
            have PC := Lib.hid (PB.out.below bc)
            clear bc
            go_wp2
            go_roundw
            case rel => exact ⟨j + 1, n - 1, D', by go_num, rfl, by omega, by omega, by omega, HI2.out, PC.out.mono (by omega) (by omega)⟩
            case measure => simp [intOf]; omega
          · skip
            obtain rfl : n = 1 := by omega
            have HY := Lib.hid hi
            have HF := Lib.hid hf
            refine (sync_duo PX.out).mono ?_
            simp only [hr]
            rintro e1 wa ⟨rfl, pa, ka⟩
            have P2 := Lib.hid pa
            clear pa ka
            -- the power goes
            go_wp2_with fail
            refine (crash_duo P2.out.swap K (by omega)).mono ?_
            rw [HY.out.crash (by omega)]
            rintro e wz ⟨rfl, pz, _⟩
            have PZ := Lib.hid pz.swap
            clear pz
            go_wp2_with fail
            refine (dead_duo PZ.out).mono ?_
            rw [hz]
            rintro e wz ⟨rfl, rfl⟩
            go_wp2_with fail
            refine (files_duo PZ.out).mono ?_
            rintro e wa ⟨ga, rfl, _, ta, pa, _⟩
            have PA := Lib.hid pa
            have TA := Lib.hid ta
            clear pa ta
            go_wp2_with fail
            refine (files_duo PA.out.swap).mono ?_
            rintro e wb ⟨gb, rfl, _, tb, pb, bb⟩
            have PB := Lib.hid pb.swap
            have TB := Lib.hid tb
            have TC := Lib.hid (TA.out.below bb)
            clear pb tb bb
            go_wp2_with fail
            refine (same_any wb _ _ 2 2 _ _ TC.out.texts TB.out.texts).mono ?_
            rw [HF.out, HF.out, show decide ([(D.die K.toNat).file false, (D.die K.toNat).file true] = [(D.die K.toNat).file false, (D.die K.toNat).file true]) = true from decide_eq_true rfl]
            rintro e wc ⟨rfl, bc⟩
            have BC := Lib.hid (PB.out.old.trans (bc.mono PB.out.old.size))
            clear bc
            go_wp2_with fail
            refine (fixed9_any wc).mono ?_
            rintro e wd ⟨rfl, bd⟩
            have BD := Lib.hid (BC.out.trans (bd.mono BC.out.size))
            clear bd
            go_wp2
            go_ret
            exact ⟨rfl, bthen HB0.out BD.out⟩
        · rw [h1] at k1
          clear h1
          have HO : Hid (OpIs (wr.alloc (.cells #[.int .i64 o.on, .int .i64 3, .int .i64 o.a, .int .i64 o.b, .string ⟨o.s.toArray⟩] 47)) wr.heap.size 3 o.a o.b o.s) := ⟨_, heap_new wr _, rfl, rfl, rfl, rfl⟩
          have PX := Lib.hid (HP.out.below (balloc wr (.cells #[.int .i64 o.on, .int .i64 3, .int .i64 o.a, .int .i64 o.b, .string ⟨o.s.toArray⟩] 47)))
          go_wp2_with fail
          generalize wr.alloc (.cells #[.int .i64 o.on, .int .i64 3, .int .i64 o.a, .int .i64 o.b, .string ⟨o.s.toArray⟩] 47) = wx at HO PX ⊢
          generalize wr.heap.size = g at HO ⊢
          obtain ⟨x1, x2, x3, x4⟩ := HO.out.cells
          clear k0 k1 k2 k3 k4
          rcases HD.out.fate_cut n.toNat K.toNat (by omega) o.a o.b with ⟨e, h0, h2, hr, hx⟩ | ⟨D', hi, hx, hn, hr⟩ | ⟨D', z, hi, hx, hn, hr, hz, hf⟩
          · skip
            have he2 : (e == 2) = false := by simp [h2]
            have he2' : (e != 2) = true := by simp [h2]
            have he0 : (e == 0) = false := by simp [h0]
            have hee : (e != e) = false := by simp
            refine (cut_duo PX.out o.a o.b).mono ?_
            simp only [hr]
            rintro e1 wa ⟨rfl, pa, ka⟩
            have PA := Lib.hid pa
            obtain ⟨_, y2, y3, _⟩ := (HO.out.keeps ka).cells
            clear pa ka
            go_wp2_with fail
            refine (cut_duo PA.out.swap o.a o.b).mono ?_
            simp only [hx]
            rintro e2 wb ⟨rfl, pb, kb⟩
            have P2 := Lib.hid pb.swap
            clear pb kb
            -- neither took it
            go_wp2_with fail
            refine (files_duo P2.out).mono ?_
            rintro e wa ⟨ga, rfl, _, ta, pa, _⟩
            have PA := Lib.hid pa
            have TA := Lib.hid ta
            clear pa ta
            go_wp2_with fail
            refine (files_duo PA.out.swap).mono ?_
            rintro e wb ⟨gb, rfl, _, tb, pb, bb⟩
            have PB := Lib.hid pb.swap
            have TB := Lib.hid tb
            have TC := Lib.hid (TA.out.below bb)
            clear pb tb bb
            go_wp2_with fail
            refine (same_any wb _ _ 2 2 _ _ TC.out.texts TB.out.texts).mono ?_
            rw [DS.file_under, DS.file_under, show decide ([D.file false, D.file true] = [D.file false, D.file true]) = true from decide_eq_true rfl]
            rintro e wc ⟨rfl, bc⟩
            have PC := Lib.hid (PB.out.below bc)
            clear bc
            go_wp2
            go_roundw
            case rel => exact ⟨j + 1, n, D, by go_num, rfl, by omega, by omega, by omega, HD.out, PC.out.mono (by omega) (by omega)⟩
            case measure => simp [intOf]; omega
          · skip
            rw [show n.toNat - 1 = (n - 1).toNat by omega] at hr
            have HI2 := Lib.hid hi
            refine (cut_duo PX.out o.a o.b).mono ?_
            simp only [hr]
            rintro e1 wa ⟨rfl, pa, ka⟩
            have PA := Lib.hid pa
            obtain ⟨_, y2, y3, _⟩ := (HO.out.keeps ka).cells
            clear pa ka
            go_wp2_with fail
            refine (cut_duo PA.out.swap o.a o.b).mono ?_
            simp only [hx]
            rintro e2 wb ⟨rfl, pb, kb⟩
            have P2 := Lib.hid pb.swap
            clear pb kb
            -- neither took it
            go_wp2_with fail
            refine (files_duo P2.out).mono ?_
            rintro e wa ⟨ga, rfl, _, ta, pa, _⟩
            have PA := Lib.hid pa
            have TA := Lib.hid ta
            clear pa ta
            go_wp2_with fail
            refine (files_duo PA.out.swap).mono ?_
            rintro e wb ⟨gb, rfl, _, tb, pb, bb⟩
            have PB := Lib.hid pb.swap
            have TB := Lib.hid tb
            have TC := Lib.hid (TA.out.below bb)
            clear pb tb bb
            go_wp2_with fail
            refine (same_any wb _ _ 2 2 _ _ TC.out.texts TB.out.texts).mono ?_
            rw [DS.file_under, DS.file_under, show decide ([D'.file false, D'.file true] = [D'.file false, D'.file true]) = true from decide_eq_true rfl]
            rintro e wc ⟨rfl, bc⟩
            have PC := Lib.hid (PB.out.below bc)
            clear bc
            go_wp2
            go_roundw
            case rel => exact ⟨j + 1, n - 1, D', by go_num, rfl, by omega, by omega, by omega, HI2.out, PC.out.mono (by omega) (by omega)⟩
            case measure => simp [intOf]; omega
          · skip
            obtain rfl : n = 1 := by omega
            have HY := Lib.hid hi
            have HF := Lib.hid hf
            refine (cut_duo PX.out o.a o.b).mono ?_
            simp only [hr]
            rintro e1 wa ⟨rfl, pa, ka⟩
            have P2 := Lib.hid pa
            obtain ⟨_, y2, y3, _⟩ := (HO.out.keeps ka).cells
            clear pa ka
            -- the power goes
            go_wp2_with fail
            refine (crash_duo P2.out.swap K (by omega)).mono ?_
            rw [HY.out.crash (by omega)]
            rintro e wz ⟨rfl, pz, _⟩
            have PZ := Lib.hid pz.swap
            clear pz
            go_wp2_with fail
            refine (dead_duo PZ.out).mono ?_
            rw [hz]
            rintro e wz ⟨rfl, rfl⟩
            go_wp2_with fail
            refine (files_duo PZ.out).mono ?_
            rintro e wa ⟨ga, rfl, _, ta, pa, _⟩
            have PA := Lib.hid pa
            have TA := Lib.hid ta
            clear pa ta
            go_wp2_with fail
            refine (files_duo PA.out.swap).mono ?_
            rintro e wb ⟨gb, rfl, _, tb, pb, bb⟩
            have PB := Lib.hid pb.swap
            have TB := Lib.hid tb
            have TC := Lib.hid (TA.out.below bb)
            clear pb tb bb
            go_wp2_with fail
            refine (same_any wb _ _ 2 2 _ _ TC.out.texts TB.out.texts).mono ?_
            rw [HF.out, HF.out, show decide ([(D.die K.toNat).file false, (D.die K.toNat).file true] = [(D.die K.toNat).file false, (D.die K.toNat).file true]) = true from decide_eq_true rfl]
            rintro e wc ⟨rfl, bc⟩
            have BC := Lib.hid (PB.out.old.trans (bc.mono PB.out.old.size))
            clear bc
            go_wp2_with fail
            refine (fixed9_any wc).mono ?_
            rintro e wd ⟨rfl, bd⟩
            have BD := Lib.hid (BC.out.trans (bd.mono BC.out.size))
            clear bd
            go_wp2
            go_ret
            exact ⟨rfl, bthen HB0.out BD.out⟩

        · go_wp2
          go_roundw
          case rel => exact ⟨j + 1, n, D, rfl, by go_num, by omega, by omega, by omega, HD.out, (HP.out.below (balloc _ _)).mono (by omega) (by omega)⟩
          case measure => simp [intOf]; omega
      · obtain rfl : j = s.length := by omega
        have hgt : (0 < n) = True := by simp; omega
        go_wp2_with fail
        refine (dead_duo HP.out).mono ?_
        rw [show (D.under n.toNat K.toNat).dead = D.dead from rfl, HD.out.dead]
        rintro e wz ⟨rfl, rfl⟩
        go_wp2_with fail
        refine (fixed9_any _).mono ?_
        rintro e wd ⟨rfl, bd⟩
        have BD := Lib.hid (HP.out.old.trans (bd.mono HP.out.old.size))
        clear bd
        go_wp2
        go_ret
        exact ⟨rfl, bthen HB0.out BD.out⟩
end Go.Proofs.Ytpjpknndfhablaa
