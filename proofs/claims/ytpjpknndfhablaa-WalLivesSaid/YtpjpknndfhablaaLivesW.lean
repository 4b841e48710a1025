/- Walk of WalLives. -/
import Derived.Test.YtpjpknndfhablaaLived
namespace Go.Proofs.Ytpjpknndfhablaa
open Go.RowKit
/-- A life: its calls, where the power goes, how many unsafe bytes are left, where it goes again. -/
structure LifeV where
  sc : List OpV
  n : Int
  k : Int
  a : Int
/-- Lives in a slice that is read. -/
structure LivesAt (w : World) (ao : Option Addr) (l : List LifeV) : Prop where
  len : l.length ≤ 4611686018427387904
  cell : ∀ i x, l[i]? = some x → ∃ b off so cap, ao = some ⟨b, off, none⟩ ∧ b < w.heap.size ∧ w.cell? ⟨b, off + i * 4, none⟩ = some (.slice so x.sc.length cap) ∧ w.cell? ⟨b, off + i * 4 + 1, none⟩ = some (.int .i64 x.n) ∧
    w.cell? ⟨b, off + i * 4 + 2, none⟩ = some (.int .i64 x.k) ∧ w.cell? ⟨b, off + i * 4 + 3, none⟩ = some (.int .i64 x.a) ∧ OpsAt w so x.sc
  fits : ∀ x ∈ l, (-9223372036854775808 ≤ x.n ∧ x.n ≤ 9223372036854775807) ∧ (-9223372036854775808 ≤ x.k ∧ x.k ≤ 9223372036854775807) ∧ (-9223372036854775808 ≤ x.a ∧ x.a ≤ 9223372036854775807)
theorem Sits_arm {d : DS} {f : Bool} {g : Nat} {sn : List UInt8} {r : List (List UInt8)} (h : Wal.Sits d f g sn r) (n k : Nat) : Wal.Sits { d with armed := n, keep := k } f g sn r := h.same h.u (fun f => by cases f <;> rfl)
theorem Sits.rs_few {d : DS} {f : Bool} {g : Nat} {sn : List UInt8} {r : List (List UInt8)} (h : Wal.Sits d f g sn r) (hok : d.Ok) : r.length ≤ 131072 := by
  have h1 := hok.base_len' f
  rw [DS.size, Wal.file_base h.u] at h1
  have h2 := h.len
  have := Wal.frames_length_le r
  omega
theorem open_again {d : DS} {f : Bool} {g : Nat} {sn : List UInt8} {r : List (List UInt8)} (h : Wal.Sits d f g sn r) (hd : d.dead = false) (ha : d.armed = 0) :
    Wal.open_ d = (some ⟨{ f := f, g := g, n := r.length, dead := false }, sn, r⟩, (Wal.open_ d).2.1, 0) ∧ Wal.Clean (Wal.open_ d).2.1 f g sn r ∧ (Wal.open_ d).2.1.armed = 0 ∧ (Wal.open_ d).2.1.dead = false := by
  rcases Wal.open_sits h hd rfl with ⟨_, _, _, _, h0⟩ | ⟨h1, h2, h3, h4, h5⟩
  · exact absurd ha h0
  · exact ⟨Prod.ext h1 (Prod.ext rfl h2), h4, h5 ha, h3⟩
/-- What stands in the loop. -/
structure LivesRel (w wr : World) (c x B5 : Nat) : Prop where
  out : ∃ snap rs l d rv M, Wal.Live l d snap rs rs.length ∧ d.armed = 0 ∧ One w wr x c l d M ∧ M ≤ 1 ∧ wr.heap[B5]? = some (.cells #[.string ⟨snap.toArray⟩, rv] 79 (0, 0)) ∧ Row wr rv rs
set_option maxHeartbeats 8000000 in
set_option maxRecDepth 100000 in
theorem walLives_any (w : World) (ao : Option Addr) (ca : Nat) (ls : List LifeV) (hL : LivesAt w ao ls) :
    Calls Try.prog 10 #[.slice ao ls.length ca] w fun e w' => e = .returned (.bool true) ∧ Below w.heap.size w w' := by
  have HL := Lib.hid hL
  have hlen := hL.len
  clear hL
  go_enter Try.func10, Try.ntmps10
  go_wp2_with fail
  refine (laid10_any w).mono ?_
  rintro e w1 ⟨c, x, rfl, h1⟩
  have H1 := Lib.hid h1
  clear h1
  have HLV0 : Hid (Wal.Live Wal.q0 Wal.e0 [] [] ([] : List (List UInt8)).length) := Lib.hid Wal.live0.1
  have HAR0 := Lib.hid Wal.live0.2
  go_wp2
  obtain ⟨W2, hW2⟩ : ∃ W, (w1.alloc (.cells #[] 9)).alloc (.cells #[.string ⟨#[]⟩, .slice (some ⟨w1.heap.size, 0, none⟩) 0 0] 79) = W := ⟨_, rfl⟩
  have hz1 : (w1.alloc (.cells #[] 9)).heap.size = w1.heap.size + 1 := by simp
  have hb2 := bthen (balloc w1 (.cells #[] 9)) (balloc _ (.cells #[.string ⟨#[]⟩, .slice (some ⟨w1.heap.size, 0, none⟩) 0 0] 79))
  have hn2 := heap_new (w1.alloc (.cells #[] 9)) (.cells #[.string ⟨#[]⟩, .slice (some ⟨w1.heap.size, 0, none⟩) 0 0] 79)
  have hr2 := (row_empty w1).below (balloc _ (.cells #[.string ⟨#[]⟩, .slice (some ⟨w1.heap.size, 0, none⟩) 0 0] 79))
  rw [hz1] at hn2
  rw [hW2] at hb2 hn2 hr2 ⊢
  have HST : Hid (LivesRel w W2 c x (w1.heap.size + 1)) := ⟨[], [], _, _, _, 1, HLV0.out, HAR0.out, H1.out.below hb2, Nat.le_refl _, hn2, hr2⟩
  have HB5 : Hid (w.heap.size ≤ w1.heap.size + 1) := Lib.hid (by have := H1.out.disk.2.1.size; omega)
  clear hz1 hb2 hn2 hr2 hW2
  obtain ⟨B5, hB5⟩ : ∃ B, w1.heap.size + 1 = B := ⟨_, rfl⟩
  rw [hB5] at HST HB5 ⊢
  clear hB5
  go_loopw [4, 6] (fun xv i wr => ∃ (j x : Nat), i = .int .i64 j ∧ xv = .pointer (some ⟨x, 0, none⟩) ∧ j ≤ ls.length ∧ LivesRel w wr c x B5) (fun _ i _ => ls.length - (intOf i).toNat)
  case atStart => exact ⟨0, x, rfl, rfl, Nat.zero_le _, HST.out⟩
  case round =>
    clear HST H1 HLV0 HAR0
    obtain ⟨j, x, rfl, rfl, hj, snap, rs, l, d, rv, M, hlv, har, hone, hM, h5, hrow⟩ := hrel
    have HLV := Lib.hid hlv
    have HAR := Lib.hid har
    have HO := Lib.hid hone
    have H5 := Lib.hid h5
    have HRW := Lib.hid hrow
    obtain ⟨c50, c51, _, hlt5⟩ := cells2 h5
    obtain ⟨gv, cv, _, rfl, _⟩ := hrow
    clear hlv har hone h5
    by_cases hlt : j < ls.length
    · obtain ⟨life, hlife⟩ : ∃ o, ls[j]? = some o := ⟨_, List.getElem?_eq_getElem hlt⟩
      obtain ⟨sc, n, k, a⟩ := life
      obtain ⟨b, off, so, cap, rfl, hbl, k0, k1, k2, k3, hops⟩ := HL.out.cell j _ hlife
      obtain ⟨⟨f1, f2⟩, ⟨f3, f4⟩, f5, f6⟩ := HL.out.fits _ (List.mem_of_getElem? hlife)
      simp only at k0 k1 k2 k3 hops f1 f2 f3 f4 f5 f6
      have HOPS := Lib.hid hops
      have hold := HO.out.disk.2.1
      have q0 := (hold.cell (p := ⟨b, off + j * 4, none⟩) hbl).trans k0
      have q1 := (hold.cell (p := ⟨b, off + j * 4 + 1, none⟩) hbl).trans k1
      have q2 := (hold.cell (p := ⟨b, off + j * 4 + 2, none⟩) hbl).trans k2
      have q3 := (hold.cell (p := ⟨b, off + j * 4 + 3, none⟩) hbl).trans k3
      clear hlife k0 k1 k2 k3 hold hops
      go_wp2_with fail
      obtain ⟨B7, hB7⟩ : ∃ B, wr.heap.size = B := ⟨_, rfl⟩
      obtain ⟨wa, hwa⟩ : ∃ W, wr.alloc (.cells #[.slice so sc.length cap, .int .i64 n, .int .i64 k, .int .i64 a] 82) = W := ⟨_, rfl⟩
      have hn7 := heap_new wr (.cells #[.slice so sc.length cap, .int .i64 n, .int .i64 k, .int .i64 a] 82)
      have hba := balloc wr (.cells #[.slice so sc.length cap, .int .i64 n, .int .i64 k, .int .i64 a] 82)
      rw [hB7] at hlt5
      rw [hwa, hB7] at hn7 ⊢
      rw [hwa] at hba
      have HBA := Lib.hid hba
      have N7 := Lib.hid hn7
      clear hB7 hwa hn7 hba c50 c51 q0 q1 q2 q3
      refine (lived_any (y := (snap, rs)) (HO.out.below HBA.out) hM HLV.out HAR.out (HRW.out.below HBA.out) so cap sc HOPS.out n k a f2 f4).mono ?_
      rintro e wb ⟨vm, ml, rfl, hst, hfew, hmll, hkeep, hend⟩
      have HSTS := Lib.hid hst
      have HFEW := Lib.hid hfew
      have HMLL := Lib.hid hmll
      have H5b := Lib.hid (hkeep.cells (stays H5.out HBA.out) (by decide))
      have N7b := Lib.hid (hkeep.cells N7.out (by decide))
      have HEND := Lib.hid hend
      obtain ⟨gm, cm, _, rfl, _⟩ := hst
      have d2 := cell_of (i := 2) N7b.out rfl
      have d3 := cell_of (i := 3) N7b.out rfl
      clear hfew hmll hkeep hend
      go_upto_region 12 with fail
      go_cut [59] from 29 to 145 (fun v wx => v = .bool false ∧ ∃ (d2 : DS) (f : Bool) (g : Nat) (sn : List UInt8) (r : List (List UInt8)), DiskNew w wx c d2 0 ∧ d2.dead = true ∧ (sn, r) ∈ ml ∧ Wal.Sits d2 f g sn r ∧ KeepsOff logT wb wx)
      case first =>
        rcases HEND.out with ⟨l1, d1, snap1, rs1, m1, M1, hone, hlive, hml⟩ | ⟨d1, hdn, hdead, f, g, sn, r, hmem, hsit⟩
        · have HO1 := Lib.hid hone
          have HLV1 := Lib.hid hlive
          have HML := Lib.hid hml
          have hdd := hlive.dd
          have HCR : Hid (∀ KK : Int, 0 ≤ KK → d1.crash KK = (d1.die KK.toNat, 0)) := Lib.hid (fun KK hk => crash_ok HLV1.out.dd hk)
          clear hone hlive hml HEND
          by_cases hk : 0 < k
          · go_wp2_with fail
            refine (dead_new HO1.out.disk).mono ?_
            rw [hdd]
            rintro e we ⟨rfl, rfl⟩
            go_wp2_with fail
            refine (crash_newO HO1.out.disk k (by omega)).mono ?_
            rw [HCR.out k (by omega)]
            rintro e wd ⟨rfl, _, hk2, hz⟩
            have HZ := Lib.hid (hz rfl HLV1.out.dd)
            have HK2 := Lib.hid (keeps_diskT hk2)
            clear hk2 hz
            go_wp2
            go_meet
            case rel =>
              obtain ⟨jj, j1, j2, hs⟩ := HLV1.out.crash k.toNat
              exact ⟨rfl, _, _, _, _, _, HZ.out, rfl, HML.out ▸ mays_mem _ _ _ _ j1 j2, hs, HK2.out⟩
          · go_wp2_with fail
            refine (dead_new HO1.out.disk).mono ?_
            rw [hdd]
            rintro e we ⟨rfl, rfl⟩
            go_wp2_with fail
            refine (crash_newO HO1.out.disk 0 (by omega)).mono ?_
            rw [HCR.out 0 (by omega)]
            rintro e wd ⟨rfl, _, hk2, hz⟩
            have HZ := Lib.hid (hz rfl HLV1.out.dd)
            have HK2 := Lib.hid (keeps_diskT hk2)
            clear hk2 hz
            go_wp2
            go_meet
            case rel =>
              obtain ⟨jj, j1, j2, hs⟩ := HLV1.out.crash (0 : Int).toNat
              exact ⟨rfl, _, _, _, _, _, HZ.out, rfl, HML.out ▸ mays_mem _ _ _ _ j1 j2, hs, HK2.out⟩
        · have HDN := Lib.hid hdn
          have HMEM := Lib.hid hmem
          have HSIT := Lib.hid hsit
          clear hdn hmem hsit HEND
          go_wp2_with fail
          refine (dead_new HDN.out).mono ?_
          rw [hdead]
          rintro e we ⟨rfl, rfl⟩
          go_wp2
          go_meet
          case rel => exact ⟨rfl, _, _, _, _, _, HDN.out, hdead, HMEM.out, HSIT.out, KeepsOff.refl _ _⟩
      case rest =>
        obtain ⟨rfl, D2, f, g, sn, r, g1, g2, g3, g4, g5⟩ := hcut
        have HD := Lib.hid g1
        have HMEM := Lib.hid g3
        have HSIT := Lib.hid g4
        have HK := Lib.hid g5
        clear g1 g2 g3 g4 g5 d2 d3 HEND
        go_wp2_with fail
        refine (revive_newO HD.out).mono ?_
        rintro e wd ⟨rfl, h1, h2⟩
        have HD3 := Lib.hid h1
        have HK3 := Lib.hid (HK.out.trans (keeps_diskT h2))
        have HSIT3 := Lib.hid HSIT.out.revive
        have HDD : Hid (D2.revive.dead = false) := Lib.hid rfl
        obtain ⟨D3, hD3⟩ : ∃ D, D2.revive = D := ⟨_, rfl⟩
        rw [hD3] at HD3 HSIT3 HDD
        have N7d := Lib.hid (HK3.out.cells N7b.out (by decide))
        have d2 := cell_of (i := 2) N7d.out rfl
        have d3 := cell_of (i := 3) N7d.out rfl
        clear h1 h2 hD3
        go_upto_region 15 with fail
        go_cut [74] from 29 to 145 (fun v wx => v = .bool false ∧ ∃ (d4 : DS), DiskNew w wx c d4 0 ∧ d4.dead = false ∧ Wal.Sits d4 f g sn r ∧ KeepsOff logT wb wx)
        case first =>
          have HARM : Hid (∀ KK : Int, 0 < a → 0 ≤ KK → D3.arm a KK = ({ D3 with armed := a.toNat, keep := KK.toNat }, 0)) := Lib.hid (fun KK ha hk => arm_ok HDD.out (by omega) hk)
          by_cases ha : 0 < a
          · by_cases hk : 0 < k
            · go_wp2_with fail
              refine (arm_newO HD3.out a k (by omega) (by omega)).mono ?_
              rw [HARM.out k ha (by omega)]
              rintro e we ⟨rfl, hb1, hb2⟩
              have HB1 := Lib.hid hb1
              have HB2 := Lib.hid (keeps_diskT hb2)
              clear hb1 hb2
              go_wp2
              go_meet
              case rel => exact ⟨rfl, _, HB1.out, HDD.out, Sits_arm HSIT3.out _ _, HK3.out.trans HB2.out⟩
            · go_wp2_with fail
              refine (arm_newO HD3.out a 0 (by omega) (by omega)).mono ?_
              rw [HARM.out 0 ha (by omega)]
              rintro e we ⟨rfl, hb1, hb2⟩
              have HB1 := Lib.hid hb1
              have HB2 := Lib.hid (keeps_diskT hb2)
              clear hb1 hb2
              go_wp2
              go_meet
              case rel => exact ⟨rfl, _, HB1.out, HDD.out, Sits_arm HSIT3.out _ _, HK3.out.trans HB2.out⟩
          · go_wp2
            go_meet
            case rel => exact ⟨rfl, _, HD3.out, HDD.out, HSIT3.out, HK3.out⟩
        case rest =>
          obtain ⟨rfl, D4, g1, g2, g3, g4⟩ := hcut
          have HD4 := Lib.hid g1
          have HDD4 := Lib.hid g2
          have HSIT4 := Lib.hid g3
          have HK4 := Lib.hid g4
          clear g1 g2 g3 g4 d2 d3 HD3 HSIT3 HDD HD HSIT HK HK3 N7d
          obtain ⟨o4, ho4⟩ : ∃ o, Wal.open_ D4 = o := ⟨_, rfl⟩
          have HO4 := Lib.hid ho4
          clear ho4
          go_wp2_with fail
          have hop := open_one HD4.out
          rw [HO4.out] at hop
          refine hop.mono ?_
          clear hop
          rintro e we ⟨v, s, rv4, rfl, hs4, hn4, hd4, hk4, _⟩
          have HDX := Lib.hid hd4
          have HKX := Lib.hid (HK4.out.trans (keeps_diskT hk4))
          rcases Wal.open_sits HSIT4.out HDD4.out HO4.out with ⟨e1, e2, _, e3, _⟩ | ⟨e1, e2, _, e3, _⟩
          · obtain ⟨rfl, rfl, rfl⟩ := hn4 e1
            rw [e2]
            have HSX := Lib.hid e3
            clear hs4 hn4 hd4 hk4 e1 e2 e3
            go_wp2_with fail
            refine (revive_newO HDX.out).mono ?_
            rintro e w5 ⟨rfl, h1, h2⟩
            have HD5 := Lib.hid h1
            have HK5 := Lib.hid (HKX.out.trans (keeps_diskT h2))
            obtain ⟨hA, hC, hz, hd⟩ := open_again HSX.out.revive rfl rfl
            obtain ⟨d6, hd6⟩ : ∃ D, (Wal.open_ o4.2.1.revive).2.1 = D := ⟨_, rfl⟩
            rw [hd6] at hA hC hz hd
            obtain ⟨hA7, hC7, hz7, hd7'⟩ := open_again hC.sits hd hz
            obtain ⟨d7, hd7⟩ : ∃ D, (Wal.open_ d6).2.1 = D := ⟨_, rfl⟩
            rw [hd7] at hA7 hC7 hz7 hd7'
            have HA5 := Lib.hid hA
            have HA7 := Lib.hid hA7
            have HC7 := Lib.hid hC7
            have HZ7 := Lib.hid hz7
            have HD7 := Lib.hid hd7'
            clear h1 h2 hA hC hz hd hd6 hA7 hC7 hz7 hd7 hd7'
            go_wp2_with fail
            have hop := open_one HD5.out
            rw [HA5.out] at hop
            refine hop.mono ?_
            clear hop
            rintro e w6 ⟨v, s, rv6, rfl, hs6, _, _, hk6, _⟩
            obtain ⟨rfl, hrec6, x3, rfl, _, ho6⟩ := hs6 _ rfl
            have HO6 := Lib.hid ho6
            have HK6 := Lib.hid (HK5.out.trans (keeps_diskT hk6))
            have HR6 := Lib.hid hrec6.row
            obtain ⟨g6, _, rfl, _⟩ := hrec6
            clear hs6 ho6 hk6
            go_wp2_with fail
            refine (records_one HO6.out).mono ?_
            rintro e w7 ⟨rfl, rfl⟩
            have H56 := Lib.hid (HK6.out.cells H5b.out (by decide))
            have hlt56 := heap_lt H56.out
            have HRL : Hid (r.length ≤ 200000) := Lib.hid (HFEW.out _ HMEM.out)
            go_wp2_with fail
            obtain ⟨B17, hB17⟩ : ∃ B, w6.heap.size = B := ⟨_, rfl⟩
            obtain ⟨w8, hw8⟩ : ∃ W, w6.alloc (.cells #[.string ⟨sn.toArray⟩, .slice (some ⟨g6, 0, none⟩) r.length r.length] 79) = W := ⟨_, rfl⟩
            have hn8 := heap_new w6 (.cells #[.string ⟨sn.toArray⟩, .slice (some ⟨g6, 0, none⟩) r.length r.length] 79)
            have hb8 := balloc w6 (.cells #[.string ⟨sn.toArray⟩, .slice (some ⟨g6, 0, none⟩) r.length r.length] 79)
            rw [hB17] at hlt56
            rw [hw8, hB17] at hn8 ⊢
            rw [hw8] at hb8
            have HB8 := Lib.hid hb8
            have N8 := Lib.hid hn8
            clear hB17 hw8 hn8 hb8
            have hne517 : ¬ B5 = B17 := by omega
            refine (among_any w8 (sn, r) _ _ ml (HR6.out.below HB8.out) ((HSTS.out.keepsOff HK6.out (by decide) (by decide)).below HB8.out) (by have := HRL.out; simp only; omega) (fun y hy => by have := HFEW.out y hy; omega) (by have := HMLL.out; omega) HMEM.out).mono ?_
            rintro e w9 ⟨rfl, hb9⟩
            have HB9 := Lib.hid (bthen HB8.out hb9)
            have N9 := Lib.hid (stays N8.out hb9)
            have HO9 := Lib.hid (HO6.out.below HB9.out)
            clear hb9
            go_wp2_with fail
            have hop := open_one HO9.out.disk
            rw [HA7.out] at hop
            refine hop.mono ?_
            clear hop
            rintro e wA ⟨v, s, rvA, rfl, hsA, _, hdA, hkA, _⟩
            obtain ⟨rfl, hrecA, xA, rfl, _, _⟩ := hsA _ rfl
            have HDA := Lib.hid hdA
            have HKA := Lib.hid hkA
            have HRA := Lib.hid hrecA.row
            have LOGA := Lib.hid (HO9.out.log.keepsOff hkA (by decide))
            have HR9 := Lib.hid ((HR6.out.below HB9.out).keepsOff hkA (by decide))
            have H5A := Lib.hid (hkA.cells (stays H56.out HB9.out) (by decide))
            have N17 := Lib.hid (hkA.cells N9.out (by decide))
            obtain ⟨gA, _, rfl, _⟩ := hrecA
            clear hsA hdA hkA
            go_wp2_with fail
            refine (same_any wA _ _ r.length r.length r r (HRA.out.texts (by have := HRL.out; omega)) (HR9.out.texts (by have := HRL.out; omega))).mono ?_
            rw [show decide (r = r) = true from decide_eq_true rfl]
            rintro e wB ⟨rfl, hbB⟩
            have HBB := Lib.hid hbB
            have H5B := Lib.hid (stays H5A.out hbB)
            have N17B := Lib.hid (stays N17.out hbB)
            have HRB := Lib.hid (HR9.out.below hbB)
            obtain ⟨y0, y1, y5f, _⟩ := cells2 H5B.out
            obtain ⟨z0, z1, _, _⟩ := cells2 N17B.out
            have y5f0 := y5f 0
            have y5f1 := y5f 1
            clear hbB y5f
            go_wp2
            go_roundw
            case rel =>
              have htw := touch_two wB B5 (.string ⟨sn.toArray⟩) (.slice (some ⟨g6, 0, none⟩) r.length r.length)
              have hone : One w wB x3 c { f := f, g := g, n := r.length, dead := false } d7 0 := ⟨HO9.out.x0, LOGA.out.below HBB.out, HDA.out.below HBB.out⟩
              exact ⟨j + 1, x3, by go_num, rfl, by omega, ⟨sn, r, _, d7, _, 0, HC7.out.live HD7.out, HZ7.out, hone.keep htw (fun k hk => by subst hk; exact HB5.out) (typed_one H5B.out) (by decide) (by decide) (by decide), by omega, set_two H5B.out, HRB.out.keepsOff (.of_touch (typed_one H5B.out) htw) (by decide)⟩⟩
            case measure => simp [intOf]; omega
          · obtain ⟨rfl, _, x4, rfl, _, _⟩ := hs4 _ e1
            rw [e2]
            have HSX := Lib.hid e3.sits
            clear hs4 hn4 hd4 hk4 e1 e2 e3
            go_wp2_with fail
            refine (revive_newO HDX.out).mono ?_
            rintro e w5 ⟨rfl, h1, h2⟩
            have HD5 := Lib.hid h1
            have HK5 := Lib.hid (HKX.out.trans (keeps_diskT h2))
            obtain ⟨hA, hC, hz, hd⟩ := open_again HSX.out.revive rfl rfl
            obtain ⟨d6, hd6⟩ : ∃ D, (Wal.open_ o4.2.1.revive).2.1 = D := ⟨_, rfl⟩
            rw [hd6] at hA hC hz hd
            obtain ⟨hA7, hC7, hz7, hd7'⟩ := open_again hC.sits hd hz
            obtain ⟨d7, hd7⟩ : ∃ D, (Wal.open_ d6).2.1 = D := ⟨_, rfl⟩
            rw [hd7] at hA7 hC7 hz7 hd7'
            have HA5 := Lib.hid hA
            have HA7 := Lib.hid hA7
            have HC7 := Lib.hid hC7
            have HZ7 := Lib.hid hz7
            have HD7 := Lib.hid hd7'
            clear h1 h2 hA hC hz hd hd6 hA7 hC7 hz7 hd7 hd7'
            go_wp2_with fail
            have hop := open_one HD5.out
            rw [HA5.out] at hop
            refine hop.mono ?_
            clear hop
            rintro e w6 ⟨v, s, rv6, rfl, hs6, _, _, hk6, _⟩
            obtain ⟨rfl, hrec6, x3, rfl, _, ho6⟩ := hs6 _ rfl
            have HO6 := Lib.hid ho6
            have HK6 := Lib.hid (HK5.out.trans (keeps_diskT hk6))
            have HR6 := Lib.hid hrec6.row
            obtain ⟨g6, _, rfl, _⟩ := hrec6
            clear hs6 ho6 hk6
            go_wp2_with fail
            refine (records_one HO6.out).mono ?_
            rintro e w7 ⟨rfl, rfl⟩
            have H56 := Lib.hid (HK6.out.cells H5b.out (by decide))
            have hlt56 := heap_lt H56.out
            have HRL : Hid (r.length ≤ 200000) := Lib.hid (HFEW.out _ HMEM.out)
            go_wp2_with fail
            obtain ⟨B17, hB17⟩ : ∃ B, w6.heap.size = B := ⟨_, rfl⟩
            obtain ⟨w8, hw8⟩ : ∃ W, w6.alloc (.cells #[.string ⟨sn.toArray⟩, .slice (some ⟨g6, 0, none⟩) r.length r.length] 79) = W := ⟨_, rfl⟩
            have hn8 := heap_new w6 (.cells #[.string ⟨sn.toArray⟩, .slice (some ⟨g6, 0, none⟩) r.length r.length] 79)
            have hb8 := balloc w6 (.cells #[.string ⟨sn.toArray⟩, .slice (some ⟨g6, 0, none⟩) r.length r.length] 79)
            rw [hB17] at hlt56
            rw [hw8, hB17] at hn8 ⊢
            rw [hw8] at hb8
            have HB8 := Lib.hid hb8
            have N8 := Lib.hid hn8
            clear hB17 hw8 hn8 hb8
            have hne517 : ¬ B5 = B17 := by omega
            refine (among_any w8 (sn, r) _ _ ml (HR6.out.below HB8.out) ((HSTS.out.keepsOff HK6.out (by decide) (by decide)).below HB8.out) (by have := HRL.out; simp only; omega) (fun y hy => by have := HFEW.out y hy; omega) (by have := HMLL.out; omega) HMEM.out).mono ?_
            rintro e w9 ⟨rfl, hb9⟩
            have HB9 := Lib.hid (bthen HB8.out hb9)
            have N9 := Lib.hid (stays N8.out hb9)
            have HO9 := Lib.hid (HO6.out.below HB9.out)
            clear hb9
            go_wp2_with fail
            have hop := open_one HO9.out.disk
            rw [HA7.out] at hop
            refine hop.mono ?_
            clear hop
            rintro e wA ⟨v, s, rvA, rfl, hsA, _, hdA, hkA, _⟩
            obtain ⟨rfl, hrecA, xA, rfl, _, _⟩ := hsA _ rfl
            have HDA := Lib.hid hdA
            have HKA := Lib.hid hkA
            have HRA := Lib.hid hrecA.row
            have LOGA := Lib.hid (HO9.out.log.keepsOff hkA (by decide))
            have HR9 := Lib.hid ((HR6.out.below HB9.out).keepsOff hkA (by decide))
            have H5A := Lib.hid (hkA.cells (stays H56.out HB9.out) (by decide))
            have N17 := Lib.hid (hkA.cells N9.out (by decide))
            obtain ⟨gA, _, rfl, _⟩ := hrecA
            clear hsA hdA hkA
            go_wp2_with fail
            refine (same_any wA _ _ r.length r.length r r (HRA.out.texts (by have := HRL.out; omega)) (HR9.out.texts (by have := HRL.out; omega))).mono ?_
            rw [show decide (r = r) = true from decide_eq_true rfl]
            rintro e wB ⟨rfl, hbB⟩
            have HBB := Lib.hid hbB
            have H5B := Lib.hid (stays H5A.out hbB)
            have N17B := Lib.hid (stays N17.out hbB)
            have HRB := Lib.hid (HR9.out.below hbB)
            obtain ⟨y0, y1, y5f, _⟩ := cells2 H5B.out
            obtain ⟨z0, z1, _, _⟩ := cells2 N17B.out
            have y5f0 := y5f 0
            have y5f1 := y5f 1
            clear hbB y5f
            go_wp2
            go_roundw
            case rel =>
              have htw := touch_two wB B5 (.string ⟨sn.toArray⟩) (.slice (some ⟨g6, 0, none⟩) r.length r.length)
              have hone : One w wB x3 c { f := f, g := g, n := r.length, dead := false } d7 0 := ⟨HO9.out.x0, LOGA.out.below HBB.out, HDA.out.below HBB.out⟩
              exact ⟨j + 1, x3, by go_num, rfl, by omega, ⟨sn, r, _, d7, _, 0, HC7.out.live HD7.out, HZ7.out, hone.keep htw (fun k hk => by subst hk; exact HB5.out) (typed_one H5B.out) (by decide) (by decide) (by decide), by omega, set_two H5B.out, HRB.out.keepsOff (.of_touch (typed_one H5B.out) htw) (by decide)⟩⟩
            case measure => simp [intOf]; omega
    · obtain rfl : j = ls.length := by omega
      go_wp2_with fail
      refine (fixed10_any wr).mono ?_
      rintro e wf ⟨rfl, bf⟩
      have BF := Lib.hid (HO.out.below bf)
      clear bf
      go_wp2
      go_ret
      exact ⟨rfl, BF.out.disk.2.1⟩
end Go.Proofs.Ytpjpknndfhablaa
