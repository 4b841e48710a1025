/- Walk of the document's sum. -/
import Derived.Test.YtommbdlkmkphpaaDoorRsumA
namespace Go.Proofs.YtommbdlkmkphpaaDoor
open Go.RowKit
theorem bytes_one (l : List UInt8) : ∀ u ∈ bytesOf l, u.oneCell' = true := by
  intro u hu
  simp only [bytesOf, List.mem_map] at hu
  obtain ⟨x, _, rfl⟩ := hu
  rfl
theorem words_one (l : List U32) : ∀ u ∈ wcells l, u.oneCell' = true := by
  intro u hu
  simp only [wcells, List.mem_map] at hu
  obtain ⟨x, _, rfl⟩ := hu
  rfl
set_option maxHeartbeats 40000000 in
set_option maxRecDepth 100000 in
theorem rsum_any (l : List UInt8) (gk ck : Nat) (w : World) (hkr : RowV w gk (wcells Sha.K)) (hck : 64 ≤ ck) (hcm : ck ≤ 9223372036854775807) (hl : l.length ≤ 140737488355200) :
    Calls Tryd.prog 32 #[.string ⟨l.toArray⟩, .slice (some ⟨gk, 0, none⟩) 64 ck] w fun e w' => e = .returned (.string ⟨(Sha.sum l).toArray⟩) ∧ Below w.heap.size w w' := by
  have HK := Lib.hid hkr
  have hgk : gk < w.heap.size := hkr.1
  clear hkr
  have hgap := Sha.gap_le l.length
  obtain ⟨G, hG⟩ : ∃ G, Sha.gap l.length = G := ⟨_, rfl⟩
  have HG := Lib.hid hG
  rw [hG] at hgap
  clear hG
  go_enter Tryd.func32, Tryd.ntmps32
  go_wp2_with (first | (refine wpList_convert_bytes _ rfl 9 32 5 (.tmp 26) rfl Tryd.underlying9 Tryd.underlying32 Tryd.underlying5 l rfl (by unfold maxLen; omega) w.heap.size (Nat.le_refl _) ?_; intro v1 w1 ho1 hb1 hv1; have HO1 := Lib.hid ho1; have HB1 := Lib.hid hb1; clear ho1 hb1 hv1) | (at_builtin; go_must (refine wpList_append_ownF _ rfl (.tmp 27) (.tmp 28) 32 rfl w.heap.size 5 1 1 _ Tryd.byteInfo Tryd.underlying32 rfl (by decide) v1 l.length (bytesOf l) rfl (HO1.out.touch (S := fun _ => False) (.of_below (balloc w1 _)) (fun _ _ h => h)) ⟨w1.heap.size, 0, none⟩ 1 1 [.int .u8 128] rfl rfl (fun i u hi => by rw [addr_add, Nat.zero_add]; exact cell_of (heap_new w1 _) (by simpa using hi)) (by intro u hu; simp at hu; subst hu; rfl) (by decide) (by unfold maxLen; omega) (by omega) (by have := HB1.out.size; simp; omega) ?_; intro v2 w2 ho2 hgr2 _; have HO2 := Lib.hid ho2; have HG2 := Lib.hid hgr2; clear ho2 hgr2)))
  have B2 : Hid (Below w.heap.size w w2) := by
    have h1 := HB1.out
    have hb := balloc w1 (.cells #[.int .u8 128] 5)
    have ht := touch_of_grown HG2.out
    have h2 := h1.trans (hb.mono h1.size)
    exact h2.trans (ht.below h2.size (fun k hk e => by have := HO1.out.lt k e; omega))
  clear HG2
  have o2 : OwnF w2 w.heap.size 1 v2 (l.length + 1 + 0) (bytesOf (l ++ [128] ++ List.replicate 0 0)) := by
    have := HO2.out
    simpa [bytesOf] using this
  have O2 := Lib.hid o2
  clear o2
  clear HO2 HO1 HB1
  go_loopw [5] (fun v wr => ∃ j : Nat, j ≤ G ∧ OwnF wr w.heap.size 1 v (l.length + 1 + j) (bytesOf (l ++ [128] ++ List.replicate j 0)) ∧ Below w.heap.size w wr) (fun v _ => l.length + 1 + G - lenV v)
  case atStart => exact ⟨0, by omega, O2.out, B2.out⟩
  case round =>
    clear O2 B2
    obtain ⟨j, hj, ho, hb⟩ := hrel
    have HO := Lib.hid ho
    have HB := Lib.hid hb
    have hbs := hb.size
    obtain ⟨ao, cap, rfl, hnc, hcm2⟩ := ho.slice
    clear ho hb
    obtain ⟨n, hn⟩ : ∃ n, l.length + 1 + j = n := ⟨_, rfl⟩
    have hn1 : n ≤ l.length + 64 := by omega
    rw [hn] at HO hnc ⊢
    have HNN := Lib.hid hn
    by_cases hjg : j < G
    · skip
      have h56 : ¬ (n : Int) % 64 = 56 := by have := Sha.gap_lt l.length j (by rw [HG.out]; exact hjg); omega
      have h1 : (((n : Int) % 64) == 56) = false := by simp [h56]
      have h2 : (((n : Int) % 64) != 56) = true := by simp [h56]
      clear hn h56
      go_wp2_with (first | (at_builtin; go_must (refine wpList_append_ownF _ rfl (.tmp 34) (.tmp 35) 32 rfl w.heap.size 5 1 1 _ Tryd.byteInfo Tryd.underlying32 rfl (by decide) (.slice ao n cap) n (bytesOf (l ++ [128] ++ List.replicate j 0)) rfl (HO.out.touch (S := fun _ => False) (.of_below (balloc wr _)) (fun _ _ h => h)) ⟨wr.heap.size, 0, none⟩ 1 1 [.int .u8 0] rfl rfl (fun i u hi => by rw [addr_add, Nat.zero_add]; exact cell_of (heap_new wr _) (by simpa using hi)) (by intro u hu; simp at hu; subst hu; rfl) (by decide) (by unfold maxLen; omega) (by omega) (by simp; omega) ?_; intro v2 w2 ho2 hgr2 _; have HO2 := Lib.hid ho2; have HG2 := Lib.hid hgr2; clear ho2 hgr2)))
      obtain ⟨ao2, cap2, rfl, _, _⟩ := HO2.out.slice
      go_roundw
      case rel =>
        refine ⟨j + 1, by omega, ?_, ?_⟩
        · have := HO2.out
          rw [show l.length + 1 + (j + 1) = n + 1 by have := HNN.out; omega, List.replicate_succ', ← List.append_assoc, bytesOf_append]
          exact this
        · have hb := balloc wr (.cells #[.int .u8 0] 5)
          have h2 := HB.out.trans (hb.mono HB.out.size)
          exact h2.trans ((touch_of_grown HG2.out).below h2.size (fun k hk e => by have := HO.out.lt k e; omega))
      case measure =>
        have := HNN.out
        simp [lenV]; omega
    · obtain rfl : j = G := by omega
      have h56 : (n : Int) % 64 = 56 := by have := Sha.gap_eq l.length; rw [HG.out] at this; omega
      have h1 : (((n : Int) % 64) == 56) = true := by simp [h56]
      have h2 : (((n : Int) % 64) != 56) = false := by simp [h56]
      clear hn h56 hjg hj
      obtain ⟨Q0, hQ0⟩ : ∃ Q0, l ++ [128] ++ List.replicate j 0 = Q0 := ⟨_, rfl⟩
      rw [hQ0] at HO
      obtain ⟨hi, lo, hsp, hhi, hlo⟩ := Sha.halves (8 * l.length) (by omega)
      have HP : Hid (Q0 ++ Sha.big hi.toNat 4 ++ Sha.big lo.toNat 4 = Sha.pad l) := by rw [Sha.pad, HG.out, hQ0, hsp, List.append_assoc]; exact rfl
      have hpl : Q0.length = n := by have := HNN.out; rw [← hQ0]; simp; omega
      have HPL := Lib.hid hpl
      have hx1 : (8 * (l.length : Int)) / 4294967296 = (hi.toNat : Int) := by rw [hhi]; omega
      have hx2 : (8 * (l.length : Int)) % 4294967296 = (lo.toNat : Int) := by rw [hlo]; omega
      have HX1 := Lib.hid hx1
      have HX2 := Lib.hid hx2
      have hlt0 : l.length < 140737488355201 := by omega
      clear hpl hQ0 hsp hhi hlo hx1 hx2
      have hand : bits .and .u64 (8 * (l.length : Int)) 4294967295 = (lo.toNat : Int) := by
        have h := and32 (8 * l.length) (by omega)
        rw [← HX2.out, show (8 * (l.length : Int)) = ((8 * l.length : Nat) : Int) by omega, h]
        exact (by omega : (((8 * l.length) % 4294967296 : Nat) : Int) = (((8 * l.length : Nat) : Int)) % 4294967296)
      have hlox := x_lt lo
      have hhix := x_lt hi
      go_wp2_with fail
      rw [HX1.out]
      refine (four_any hi wr).mono ?_
      rintro e w2 ⟨rfl, hrow2, hb2⟩
      have HR2 := Lib.hid hrow2
      have HB2 := Lib.hid (bthen HB.out hb2)
      have HO2 : Hid (OwnF w2 w.heap.size 1 (.slice ao n cap) n (bytesOf Q0)) := HO.out.touch (S := fun _ => False) (.of_below hb2) (fun _ _ h => h)
      have HN1 : Hid (∀ u ∈ bytesOf (Sha.big hi.toNat 4), u.oneCell' = true) := bytes_one _
      have HN2 : Hid (∀ u ∈ bytesOf (Sha.big lo.toNat 4), u.oneCell' = true) := bytes_one _
      clear hrow2 hb2
      go_wp2_with (first | (at_builtin; go_must (refine wpList_append_ownF _ rfl (.tmp 41) (.tmp 45) 32 rfl w.heap.size 5 1 1 _ Tryd.byteInfo Tryd.underlying32 rfl (by decide) (.slice ao n cap) n (bytesOf Q0) rfl HO2.out ⟨wr.heap.size, 0, none⟩ 4 4 (bytesOf (Sha.big hi.toNat 4)) rfl (by rw [bytesOf_length, Sha.big_length]) (fun j u hj => by rw [addr_add, Nat.zero_add]; exact (HR2.out.2 j u hj).1) HN1.out (by decide) (by unfold maxLen; omega) (by omega) HB2.out.size ?_; intro v3 w3 ho3 hgr3 _; have HO3 := Lib.hid ho3; have HG3 := Lib.hid hgr3; clear ho3 hgr3)))
      have HB3 : Hid (Below w.heap.size w w3) := HB2.out.trans (touch_own' (touch_of_grown HG3.out) HB2.out.size (fun k hk => (HO2.out.lt k hk).1))
      clear hand
      refine (four_any lo w3).mono ?_
      rintro e w4 ⟨rfl, hrow4, hb4⟩
      have HR4 := Lib.hid hrow4
      have HB4 := Lib.hid (bthen HB3.out hb4)
      have HO4 : Hid (OwnF w4 w.heap.size 1 v3 (n + 4) (bytesOf Q0 ++ bytesOf (Sha.big hi.toNat 4))) := HO3.out.touch (S := fun _ => False) (.of_below hb4) (fun _ _ h => h)
      clear hrow4 hb4 HO3 HG3 HR2 HO2 HO
      go_wp2_with (first | (at_builtin; go_must (refine wpList_append_ownF _ rfl (.tmp 47) (.tmp 51) 32 rfl w.heap.size 5 1 1 _ Tryd.byteInfo Tryd.underlying32 rfl (by decide) v3 (n + 4) (bytesOf Q0 ++ bytesOf (Sha.big hi.toNat 4)) rfl HO4.out ⟨w3.heap.size, 0, none⟩ 4 4 (bytesOf (Sha.big lo.toNat 4)) rfl (by rw [bytesOf_length, Sha.big_length]) (fun j u hj => by rw [addr_add, Nat.zero_add]; exact (HR4.out.2 j u hj).1) HN2.out (by decide) (by unfold maxLen; omega) (by omega) HB4.out.size ?_; intro v5 w5 ho5 hgr5 _; have HO5 := Lib.hid ho5; have HG5 := Lib.hid hgr5; clear ho5 hgr5; obtain ⟨w6, hmk, hr6, hb6⟩ := make32 8 8 rfl (by decide) w5; have HR6 := Lib.hid hr6; have HB6 := Lib.hid hb6; clear hr6 hb6)))
      clear hmk
      have HB5 : Hid (Below w.heap.size w w5) := HB4.out.trans (touch_own' (touch_of_grown HG5.out) HB4.out.size (fun k hk => (HO4.out.lt k hk).1))
      refine (primes_any 8 w6 (by decide) (by decide)).mono ?_
      rintro e w7 ⟨GP, cp, rfl, hcp, hrp, hgp, hb7⟩
      obtain ⟨P, hP⟩ : ∃ P, Sha.pad l = P := ⟨_, rfl⟩
      have hpm := Sha.pad_mod l
      have hPL : P.length = n + 8 := by rw [← hP, Sha.pad_length, HG.out]; have := HNN.out; omega
      rw [hP] at hpm
      have ho5 : OwnF w5 w.heap.size 1 v5 (n + 4 + 4) (bytesOf P) := by
        have h := HO5.out
        rw [← bytesOf_append, ← bytesOf_append, HP.out, hP] at h
        exact h
      obtain ⟨pb, cb, rfl, hcb, hcbm⟩ := ho5.slice
      obtain ⟨GB, rfl, hgb0, hgb1⟩ := ho5.pos (by omega)
      obtain ⟨M, hM⟩ : ∃ M, n + 4 + 4 = 64 * M := ⟨(n + 8) / 64, by omega⟩
      obtain ⟨LB, hLB⟩ : ∃ LB, n + 4 + 4 = LB := ⟨_, rfl⟩
      rw [hLB] at hM ho5 hcb ⊢
      have HPP := Lib.hid hP
      have HPM : Hid (P.length = 64 * M) := by rw [hPL]; exact (by omega : n + 8 = 64 * M)
      have HLM := Lib.hid hM
      obtain ⟨GS, hGS⟩ : ∃ GS, w5.heap.size = GS := ⟨_, rfl⟩
      rw [hGS] at HR6 hgb1 ⊢
      have hgS : GB < GS := hgb1
      have hwS : w.heap.size ≤ GS := by rw [← hGS]; exact HB5.out.size
      have hSP : GS < GP := by have := HR6.out.1; omega
      have HB67 := bthen HB6.out hb7
      have BK7 : Hid (Blk w7 GB P) := (Blk.own ho5).below HB67
      have RS7 : Hid (RowV w7 GS (wcells (List.replicate 8 0))) := HR6.out.below hb7
      have RP7 := Lib.hid hrp
      have HB7 : Hid (Below w.heap.size w w7) := bthen HB5.out HB67
      have RK7 : Hid (RowV w7 gk (wcells Sha.K)) := HK.out.below HB7.out
      have hLl : LB ≤ 140737488355328 := by omega
      clear hrp hgp hb7 ho5 hP hpm hPL hM hLB hgb0 hgb1 hGS HB67 HO5 HG5 HB6 HR6 HO4 HR4 HB5 HB4 HB3 HB2 HNN HP HPL HX1 HX2 HN1 HN2 hhix hlox
      go_wp2_with fail
      go_loopw [9] (fun iv wr => ∃ i : Nat, i ≤ 8 ∧ iv = .int .i64 i ∧ RowV wr GS (wcells (Sha.start.list.take i ++ List.replicate (8 - i) 0)) ∧ Touch (· = GS) w7 wr) (fun iv _ => 8 - (intOf iv).toNat)
      case atStart => exact ⟨0, by omega, rfl, RS7.out, Touch.refl _ _⟩
      case round =>
        obtain ⟨i, hi8, rfl, hrow, ht⟩ := hrel
        have HROW := Lib.hid hrow
        have HT := Lib.hid ht
        clear hrow ht
        by_cases hil : i < 8
        · skip
          have hil' : (i : Int) < 8 := by omega
          have hip : i < (Rt.pl.take 8).length := hil
          have hroot := start_root i hil
          have hx1 : (Rt.pl.take 8).getD i 0 < 65536 := by
            rw [List.getD_eq_getElem?_getD, List.getElem?_eq_getElem hip]
            exact (Rt.pl_small _ (List.mem_of_mem_take (List.getElem_mem hip))).2
          have c1 := (show Row64 wr GP (Rt.pl.take 8) from RowV.touch RP7.out HT.out (by omega)).at hip
          have hge : (Rt.pl.take 8)[i]'hip = (Rt.pl.take 8).getD i 0 := by rw [List.getD_eq_getElem?_getD, List.getElem?_eq_getElem hip]; rfl
          rw [hge] at c1
          obtain ⟨x, hx⟩ : ∃ x, (Rt.pl.take 8).getD i 0 = x := ⟨_, rfl⟩
          rw [hx] at hroot hx1 c1
          obtain ⟨y, hy⟩ : ∃ y, Sha.start.list.getD i 0 = y := ⟨_, rfl⟩
          rw [hy] at hroot
          have hr0 := root_any x 2 wr hx1 (by decide) (by decide)
          rw [hroot] at hr0
          have HR0 := Lib.hid hr0
          have HSN := Lib.hid (start_next i hil)
          rw [hy] at HSN
          have hcpi : (8 : Int) ≤ (cp : Int) := by omega
          clear hx hx1 hroot hr0 hy hge hip
          go_wp2_with fail
          refine HR0.out.mono ?_
          rintro e w8 ⟨rfl, hb8⟩
          have hrow8 := HROW.out.below hb8
          have hlen : (Sha.start.list.take i ++ List.replicate (8 - i) (0 : U32)).length = 8 := by simp [Sha.St.list]; omega
          obtain ⟨c2, f2⟩ := hrow8.w32 (j := i) (by rw [hlen]; exact hil)
          have HR8 := Lib.hid hrow8
          have HT8 := Lib.hid (HT.out.trans (Touch.of_below (S := (· = GS)) hb8) (fun _ _ h => h))
          clear hb8 hrow8 hlen c1
          go_wp2_with fail
          go_roundw
          case rel =>
            refine ⟨i + 1, by omega, by go_num, ?_, HT8.out.trans touch_set1 (fun _ _ h => h)⟩
            have h := HR8.out.set32 i y
            rw [HSN.out] at h
            exact h
          case measure => simp [intOf]; omega
        · obtain rfl : i = 8 := by omega
          have RS8 : Hid (RowV wr GS (wcells Sha.start.list)) := HROW.out
          have BK8 : Hid (Blk wr GB P) := ⟨Nat.lt_of_lt_of_le BK7.out.1 HT.out.size, fun j x hj => ⟨(World.cell?_of_block (a := ⟨GB, j, none⟩) (HT.out.block GB BK7.out.1 (by omega))).trans (BK7.out.2 j x hj).1, (World.frozen?_of_block (a := ⟨GB, j, none⟩) (HT.out.block GB BK7.out.1 (by omega))).trans (BK7.out.2 j x hj).2⟩⟩
          have RK8 : Hid (RowV wr gk (wcells Sha.K)) := RK7.out.touch HT.out (by omega)
          have HB8 : Hid (Below w.heap.size w wr) := HB7.out.trans (HT.out.below HB7.out.size (fun k hk e => by omega))
          rw [show ((8 : Nat) : Int) = 8 from rfl]
          clear HROW HT RS7 BK7 RK7 RP7 HB7 hil hi8
          go_wp2_with fail
          obtain ⟨wb, hwb⟩ : ∃ wb, wb = wr := ⟨_, rfl⟩
          subst hwb
          go_loopw [10] (fun av wr => ∃ (i A : Nat) (st : Sha.St), i ≤ M ∧ av = .int .i64 (A : Int) ∧ Hid (A = 64 * i) ∧ RowV wr GS (wcells st.list) ∧ Hid (Sha.blocks Sha.K st (M - i) (P.drop (64 * i)) = Sha.blocks Sha.K Sha.start M P) ∧ Touch (· = GS) wb wr) (fun av _ => 64 * M - (intOf av).toNat)
          case atStart => exact ⟨0, 0, Sha.start, by omega, rfl, Lib.hid rfl, RS8.out, Lib.hid rfl, Touch.refl _ _⟩
          case round =>
            obtain ⟨wo, hwo⟩ : ∃ wo, wo = wr := ⟨_, rfl⟩
            subst hwo
            obtain ⟨i, A, st, hiM, rfl, HA, hrow, HBL, ht⟩ := hrel
            have RSo := Lib.hid hrow
            have HT := Lib.hid ht
            have BKo : Hid (Blk wo GB P) := ⟨Nat.lt_of_lt_of_le BK8.out.1 HT.out.size, fun j x hj => ⟨(World.cell?_of_block (a := ⟨GB, j, none⟩) (HT.out.block GB BK8.out.1 (by omega))).trans (BK8.out.2 j x hj).1, (World.frozen?_of_block (a := ⟨GB, j, none⟩) (HT.out.block GB BK8.out.1 (by omega))).trans (BK8.out.2 j x hj).2⟩⟩
            have RKo : Hid (RowV wo gk (wcells Sha.K)) := RK8.out.touch HT.out (by omega)
            have hGSo : GS < wo.heap.size := hrow.1
            have hGBo : GB < wo.heap.size := by omega
            clear hrow ht
            by_cases hil : i < M
            · have hAL : (A : Int) + 64 ≤ (LB : Int) := by have h1 := HA.out; have h2 := HLM.out; omega
              have hAL' : (A : Int) < (LB : Int) := by omega
              obtain ⟨bs, hbs⟩ : ∃ bs, (P.drop (64 * i)).take 64 = bs := ⟨_, rfl⟩
              have HBSL : Hid (bs.length = 64) := by have h1 := HPM.out; have h2 : bs.length = 64 := by { rw [← hbs]; simp; omega }; exact h2
              have HBS : Hid (∀ j x, bs[j]? = some x → wo.cell? ⟨GB, A + j, none⟩ = some (.int .u8 x.toNat)) := fun j x hx => by
                have hj : j < 64 := by have := (List.getElem?_eq_some_iff.1 hx).1; have := HBSL.out; omega
                rw [← hbs, List.getElem?_take, if_pos hj, List.getElem?_drop] at hx
                rw [HA.out]
                exact (BKo.out.2 (64 * i + j) x hx).1
              have HBSE := Lib.hid hbs
              clear hbs
              obtain ⟨w1', hmk, hrw, hbw⟩ := make32 64 64 rfl (by decide) wo
              obtain ⟨GW, hGW⟩ : ∃ GW, wo.heap.size = GW := ⟨_, rfl⟩
              have HGW := Lib.hid hGW
              rw [hGW] at hrw hmk hGSo hGBo
              have RW1 := Lib.hid hrw
              have BW1 := Lib.hid hbw
              have hW1s := hrw.1
              clear hrw hbw hGW
              go_wp2_with fail
              clear hmk
              go_loopw [12] (fun qv wr => ∃ (q : Nat) (ws : List U32), q ≤ 16 ∧ qv = .int .i64 q ∧ RowV wr GW (wcells ws) ∧ Hid (ws.length = 64 ∧ ws.take q = Sha.sched bs q) ∧ Touch (· = GW) w1' wr) (fun qv _ => 16 - (intOf qv).toNat)
              case atStart => exact ⟨0, List.replicate 64 0, by omega, rfl, RW1.out, Lib.hid ⟨by simp, rfl⟩, Touch.refl _ _⟩
              case round =>
                obtain ⟨q, ws, hq16, rfl, hrow, HWS, ht⟩ := hrel
                have HROW := Lib.hid hrow
                have HTW := Lib.hid ht
                clear hrow ht
                by_cases hql : q < 16
                · skip
                  have hql' : (q : Int) < 16 := by omega
                  have hq64 : (q : Int) < 64 := by omega
                  have hb4 : 4 * q + 4 ≤ bs.length := by rw [HBSL.out]; omega
                  have ht4 := Sha.take4 bs q hb4
                  have hbc : ∀ j (h : j < bs.length), wr.cell? ⟨GB, A + j, none⟩ = some (.int .u8 (bs[j]).toNat) := fun j h => by
                    have h1 := HBS.out j _ (List.getElem?_eq_getElem h)
                    have h2 := (BW1.out.cell (p := ⟨GB, A + j, none⟩) BKo.out.1).trans h1
                    exact (World.cell?_of_block (a := ⟨GB, A + j, none⟩) (HTW.out.block GB (Nat.lt_of_lt_of_le BKo.out.1 BW1.out.size) (by omega))).trans h2
                  have b0 := hbc (4 * q) (by omega)
                  have b1 := hbc (4 * q + 1) (by omega)
                  have b2 := hbc (4 * q + 2) (by omega)
                  have b3 := hbc (4 * q + 3) (by omega)
                  obtain ⟨x0, hx0⟩ : ∃ x0, bs[4 * q]'(by omega) = x0 := ⟨_, rfl⟩
                  obtain ⟨x1, hx1⟩ : ∃ x1, bs[4 * q + 1]'(by omega) = x1 := ⟨_, rfl⟩
                  obtain ⟨x2, hx2⟩ : ∃ x2, bs[4 * q + 2]'(by omega) = x2 := ⟨_, rfl⟩
                  obtain ⟨x3, hx3⟩ : ∃ x3, bs[4 * q + 3]'(by omega) = x3 := ⟨_, rfl⟩
                  rw [hx0] at b0 ht4
                  rw [hx1] at b1 ht4
                  rw [hx2] at b2 ht4
                  rw [hx3] at b3 ht4
                  have HT4 : Hid (Sha.word bs q = BitVec.ofNat 32 (Sha.val [x0, x1, x2, x3])) := by
                    have h : Sha.word bs q = BitVec.ofNat 32 (Sha.val ((bs.drop (4 * q)).take 4)) := rfl
                    rw [ht4] at h
                    exact h
                  clear hx0 hx1 hx2 hx3 ht4 hbc hb4
                  go_wp2_with fail
                  obtain ⟨k, hk⟩ : ∃ k, A + 4 * q = k := ⟨_, rfl⟩
                  rw [show ((A : Int) + 4 * (q : Int)) = ((k : Nat) : Int) by omega]
                  rw [hk] at b0
                  rw [show A + (4 * q + 1) = k + 1 by omega] at b1
                  rw [show A + (4 * q + 2) = k + 2 by omega] at b2
                  rw [show A + (4 * q + 3) = k + 3 by omega] at b3
                  have hkL : k + 3 < LB := by omega
                  have HKQ := Lib.hid hk
                  clear hk
                  obtain ⟨c0, f0⟩ := HROW.out.w32 (j := q) (by rw [HWS.out.1]; omega)
                  obtain ⟨z, hz⟩ : ∃ z, BitVec.ofNat 32 (Sha.val [x0, x1, x2, x3]) = z := ⟨_, rfl⟩
                  rw [hz] at HT4
                  refine sum_r21 hql hkL hLl b0 b1 b2 b3 c0 f0 hz ?_
                  clear hz
                  intro v82 v83 v84 v85 v86 v87 v88 v89 v90 v91 v92 v93 v94 v95 v96 v97 v98 v99 v100 v101 v102 v103 v104 v105 v106 v107 v108 v109 v110 v111 v112 v113
                  clear b0 b1 b2 b3 c0 f0
                  go_wp2_with fail
                  go_roundw
                  case rel =>
                    refine ⟨q + 1, ws.set q (Sha.word bs q), by omega, by go_num, ?_, Lib.hid ⟨by rw [List.length_set]; exact HWS.out.1, ?_⟩, ?_⟩
                    · rw [HT4.out]
                      exact (HROW.out.set32 q z).drew
                    · rw [take_set_snoc (by rw [HWS.out.1]; omega) HWS.out.2, Sha.sched, if_pos hql]
                    · exact HTW.out.trans (Touch.trans (T := (· = GW)) (Touch.of_below (S := (· = GW)) (Below.refl _ _).drew) touch_set1 (fun _ _ h => h)) (fun _ _ h => h)
                  case measure => simp [intOf]; omega
                · obtain rfl : q = 16 := by omega
                  clear hql hq16
                  rw [show ((16 : Nat) : Int) = 16 from rfl]
                  go_wp2_with fail
                  go_loopw [14] (fun kv wr => ∃ (k : Nat) (ws : List U32), 16 ≤ k ∧ k ≤ 64 ∧ kv = .int .i64 k ∧ RowV wr GW (wcells ws) ∧ Hid (ws.length = 64 ∧ ws.take k = Sha.sched bs k) ∧ Touch (· = GW) w1' wr) (fun kv _ => 64 - (intOf kv).toNat)
                  case atStart => exact ⟨16, ws, by omega, by omega, rfl, HROW.out, HWS, HTW.out⟩
                  case round =>
                    clear HROW HTW HWS
                    obtain ⟨k, ws, hk16, hk64, rfl, hrow, HWS, ht⟩ := hrel
                    have HROW := Lib.hid hrow
                    have HTW := Lib.hid ht
                    clear hrow ht
                    by_cases hkl : k < 64
                    · skip
                      have hkl' : (k : Int) < 64 := by omega
                      have c15 := (HROW.out.w32 (j := k - 15) (by rw [HWS.out.1]; omega)).1
                      have c2 := (HROW.out.w32 (j := k - 2) (by rw [HWS.out.1]; omega)).1
                      have HNX := Lib.hid (nextW_take HWS.out.2 hk16)
                      obtain ⟨x16, hx16⟩ : ∃ x16, ws.getD (k - 16) 0 = x16 := ⟨_, rfl⟩
                      obtain ⟨x7, hx7⟩ : ∃ x7, ws.getD (k - 7) 0 = x7 := ⟨_, rfl⟩
                      rw [hx16, hx7] at HNX
                      generalize ws.getD (k - 15) 0 = x15 at c15 HNX
                      generalize ws.getD (k - 2) 0 = x2 at c2 HNX
                      have HX16 := Lib.hid hx16
                      have HX7 := Lib.hid hx7
                      clear hx16 hx7
                      have e15 : IntKind.i64.wrap ((k : Int) - 15) = (k : Int) - 15 := IntWalk.i64_in _ (by omega)
                      have e2 : IntKind.i64.wrap ((k : Int) - 2) = (k : Int) - 2 := IntWalk.i64_in _ (by omega)
                      have p15 : 15 ≤ (k : Int) := by omega
                      have p2 : 2 ≤ (k : Int) := by omega
                      have q15 : (k : Int) - 15 < 64 := by omega
                      have q2 : (k : Int) - 2 < 64 := by omega
                      have n15 : ((k : Int) - 15).toNat = k - 15 := by omega
                      have n2 : ((k : Int) - 2).toNat = k - 2 := by omega
                      go_wp2_with fail
                      go_quiet (fail)
                      have HWQ : Hid (Below wr.heap.size wr (wr.drewN nq)) := below_drewN (Below.refl _ _) _
                      generalize wr.drewN nq = wq at HWQ ⊢
                      have HRQ := Lib.hid (HROW.out.below HWQ.out)
                      clear e15 e2 p15 p2 q15 q2 n15 n2 c15 c2
                      go_wp2_with fail
                      obtain ⟨z, hz⟩ : ∃ z, x16 + Sha.s0 x15 + x7 + Sha.s1 x2 = z := ⟨_, rfl⟩
                      rw [hz] at HNX
                      refine sum_r26 hk16 hkl HRQ.out HWS.out.1 HX16.out HX7.out hz ?_
                      clear hz
                      intro v128 v129 v130 v131 v132 v133 v134 v135 v136 v137 v138 v139 v140 v141 v142 v143 v144 v145 v146 v147 v148 v149 v150 v151 v152 v153 v154 v155 v156 v157 v158 v159 wz hwz
                      have hb9 : Below wq.heap.size wq wz := by obtain ⟨m, hm⟩ := hwz; rw [hm]; exact below_drewN (Below.refl _ _) _
                      have HRZ := Lib.hid (HRQ.out.below hb9)
                      have HBZ := Lib.hid (bthen HWQ.out hb9)
                      clear hwz hb9
                      go_wp2_with fail
                      go_roundw
                      case rel =>
                        refine ⟨k + 1, ws.set k (Sha.nextW (Sha.sched bs k)), by omega, by omega, by go_num, ?_, Lib.hid ⟨by rw [List.length_set]; exact HWS.out.1, ?_⟩, ?_⟩
                        · rw [HNX.out]
                          exact HRZ.out.set32 k z
                        · rw [take_set_snoc (by rw [HWS.out.1]; omega) HWS.out.2, Sha.sched, if_neg (by omega)]
                        · exact HTW.out.trans (Touch.trans (T := (· = GW)) (Touch.of_below (S := (· = GW)) HBZ.out) touch_set1 (fun _ _ h => h)) (fun _ _ h => h)
                      case measure => simp [intOf]; omega
                    · obtain rfl : k = 64 := by omega
                      clear hkl hk16 hk64
                      rw [show ((64 : Nat) : Int) = 64 from rfl]
                      obtain ⟨sch, hsch⟩ : ∃ sch, Sha.sched bs 64 = sch := ⟨_, rfl⟩
                      have HSL : Hid (sch.length = 64) := by rw [← hsch]; exact Sha.sched_length bs 64
                      have HW : Hid (RowV wr GW (wcells sch)) := by
                        have h := HWS.out.2
                        rw [List.take_of_length_le (by rw [HWS.out.1]; omega), hsch] at h
                        rw [← h]
                        exact HROW.out
                      have HSCH := Lib.hid hsch
                      have hTo : Touch (· = GW) wo wr := (Touch.of_below (S := (· = GW)) (BW1.out.mono (Nat.le_refl _))).trans HTW.out (fun _ _ h => h)
                      have RSp : Hid (RowV wr GS (wcells st.list)) := RSo.out.touch hTo (by omega)
                      have RKp : Hid (RowV wr gk (wcells Sha.K)) := RKo.out.touch hTo (by omega)
                      have HTo := Lib.hid hTo
                      have hwrs : GW < wr.heap.size := HW.out.1
                      clear hsch hTo HWS HROW HTW RW1 BW1 HBS
                      go_wp2_with (first | (at_builtin; go_must (refine wpList_append_ownF _ rfl (.tmp 160) (.tmp 161) 45 rfl wr.heap.size 48 1 4 _ Tryd.info32 Tryd.underlying45 rfl (by decide) (.slice (some ⟨wr.heap.size, 0, none⟩) 0 0) 0 [] rfl (ownF_none _ _ _ 48 #[] (Nat.le_refl _) (heap_new wr _)) ⟨GS, 0, none⟩ 8 8 (wcells st.list) rfl (by rw [wcells_length]; rfl) (fun j u hj => by rw [addr_add, Nat.zero_add]; exact ((RSp.out.below (balloc wr _)).2 j u hj).1) (words_one _) (by decide) (by unfold maxLen; omega) (by omega) (by simp) ?_; intro v6 w6 ho6 hgr6 _; have HO6 := Lib.hid ho6; have HG6 := Lib.hid hgr6; clear ho6 hgr6)))
                      have HB6 : Hid (Below wr.heap.size wr w6) := by
                        have h1 := balloc wr (.cells #[] 48)
                        exact h1.trans (touch_own' (touch_of_grown HG6.out) h1.size (fun k hk => by simp [Value.ownBlock] at hk; omega))
                      obtain ⟨p6, c6, rfl, hc6, hm6⟩ := HO6.out.slice
                      obtain ⟨g6, rfl, hg6, hrow6⟩ := ownF_at HO6.out (by decide)
                      have RV6 : Hid (RowV w6 g6 (wcells st.list)) := hrow6
                      have RS6 := Lib.hid (RSp.out.below HB6.out)
                      have RK6 := Lib.hid (RKp.out.below HB6.out)
                      have RW6 := Lib.hid (HW.out.below HB6.out)
                      have HT6 : Hid (Touch (· = GW) wo w6) := HTo.out.trans (Touch.of_below (S := (· = GW)) HB6.out) (fun _ _ h => h)
                      have hg6s : GW < g6 := by omega
                      rw [show 0 + 8 = 8 from rfl] at hc6 ⊢
                      clear hrow6 HO6 HG6 RSp RKp HTo HW HB6 hg6 hwrs
                      go_loopw [17, 18] (fun vv kv wr => ∃ (k gv cv : Nat) (v : Sha.St), k ≤ 64 ∧ kv = .int .i64 k ∧ vv = .slice (some ⟨gv, 0, none⟩) 8 cv ∧ 8 ≤ cv ∧ cv ≤ 9223372036854775807 ∧ GW < gv ∧ RowV wr gv (wcells v.list) ∧ Hid (v = Sha.rounds st Sha.K sch k) ∧ Below w6.heap.size w6 wr) (fun _ kv _ => 64 - (intOf kv).toNat)
                      case atStart => exact ⟨0, g6, c6, st, by omega, rfl, rfl, hc6, hm6, hg6s, RV6.out, Lib.hid rfl, Below.refl _ _⟩
                      case round =>
                        obtain ⟨wt, hwt⟩ : ∃ wt, wt = wr := ⟨_, rfl⟩
                        subst hwt
                        obtain ⟨k, gv, cv, v, hk64, rfl, rfl, hcv8, hcvm, hgv, hrow, HVK, hb⟩ := hrel
                        have RV := Lib.hid hrow
                        have HBT := Lib.hid hb
                        clear hrow hb
                        by_cases hkl : k < 64
                        · skip
                          have hkl' : (k : Int) < 64 := by omega
                          obtain ⟨kk, hkk⟩ : ∃ kk, Sha.K.getD k 0 = kk := ⟨_, rfl⟩
                          obtain ⟨ww, hww⟩ : ∃ ww, sch.getD k 0 = ww := ⟨_, rfl⟩
                          have HKK := Lib.hid hkk
                          have HWW := Lib.hid hww
                          have hgkt : gk < wt.heap.size := (RK6.out.below HBT.out).1
                          have hgwt : GW < wt.heap.size := (RW6.out.below HBT.out).1
                          clear hkk hww
                          obtain ⟨va, vb, vc, vd, ve, vf, vg, vh⟩ := v
                          obtain ⟨c0, c1, c2, c3, c4, c5, c6', c7⟩ := RV.out.st
                          simp only [] at c0 c1 c2 c3 c4 c5 c6' c7
                          have hkck : (k : Int) < (ck : Int) := by omega
                          go_wp2_with fail
                          go_quiet (fail)
                          have hb1 : Below wt.heap.size wt (wt.drewN nq) := below_drewN (Below.refl _ _) _
                          generalize wt.drewN nq = wq1 at hb1 ⊢
                          have HBQ1 := Lib.hid hb1
                          clear hb1 c0 c1 c2 c3 c4 c5 c6' c7
                          go_wp2_with fail
                          refine sum_r32 hkl hck hcv8 (RK6.out.below (bthen HBT.out HBQ1.out)) (RW6.out.below (bthen HBT.out HBQ1.out)) HSL.out (RV.out.below HBQ1.out) HKK.out HWW.out ?_
                          intro v173 v174 v175 v176 v177 v178 v179 v180 v181 v182 v183 v184 v185 v186 v187 v188 v189 v190 v191 v192 v193 v194 v195 v196 v197 v198 v199 v200 v201 v202 v203 v204 v205 v206 v207 wq2 hw2
                          have hb2 : Below wq1.heap.size wq1 wq2 := by obtain ⟨m, hm⟩ := hw2; rw [hm]; exact below_drewN (Below.refl _ _) _
                          have HBQ2 := Lib.hid (bthen HBQ1.out hb2)
                          clear hw2 hb2
                          obtain ⟨tt, htt⟩ : ∃ tt, Sha.tOf ⟨va, vb, vc, vd, ve, vf, vg, vh⟩ kk ww = tt := ⟨_, rfl⟩
                          rw [htt]
                          have HTE := Lib.hid htt
                          clear htt
                          go_wp2_with fail
                          refine sum_r33 hcv8 (RV.out.below HBQ2.out) ?_
                          intro v208 v209 v210 v211 v212 v213 v214 v215 v216 v217 v218 v219 v220 v221 v222 v223 v224 v225 v226 v227 v228 v229 v230 v231 v232 v233 v234 v235 wq3 hw3
                          have hb3 : Below wq2.heap.size wq2 wq3 := by obtain ⟨m, hm⟩ := hw3; rw [hm]; exact below_drewN (Below.refl _ _) _
                          have HBQ3 := Lib.hid (bthen HBQ2.out hb3)
                          clear hw3 hb3
                          obtain ⟨uu, huu⟩ : ∃ uu, Sha.uOf ⟨va, vb, vc, vd, ve, vf, vg, vh⟩ = uu := ⟨_, rfl⟩
                          rw [huu]
                          have HUE := Lib.hid huu
                          clear huu
                          go_wp2_with fail
                          refine sum_r34 hcv8 (RV.out.below HBQ3.out) ?_
                          intro v236 v237 v238 v239 v240 v241 v242 v243 v244 v245 v246 v247 v248 v249 v250 v251 v252 v253 v254 v255 v256 v257 v258 v259 v260 v261 v262 wq4 hw4
                          have hb4 : Below wq3.heap.size wq3 wq4 := by obtain ⟨m, hm⟩ := hw4; rw [hm]; exact below_drewN (Below.refl _ _) _
                          have HBQ4 := Lib.hid (bthen HBQ3.out hb4)
                          clear hw4 hb4
                          have HRN : Hid (Sha.rnd ⟨va, vb, vc, vd, ve, vf, vg, vh⟩ kk ww = Sha.rounds st Sha.K sch (k + 1)) := by
                            have h : Sha.rounds st Sha.K sch (k + 1) = Sha.rnd (Sha.rounds st Sha.K sch k) (Sha.K.getD k 0) (sch.getD k 0) := rfl
                            rw [HKK.out, HWW.out, ← HVK.out] at h
                            exact h.symm
                          have HNEW : Hid ((Sha.rnd ⟨va, vb, vc, vd, ve, vf, vg, vh⟩ kk ww).list = [tt + uu, va, vb, vc, vd + tt, ve, vf, vg]) := by
                            rw [← HTE.out, ← HUE.out]; exact rfl
                          go_wp2_with fail
                          refine ⟨⟨k + 1, wq4.heap.size, 8, Sha.rnd ⟨va, vb, vc, vd, ve, vf, vg, vh⟩ kk ww, by omega, by go_num, rfl, by omega, by omega, by have := HBQ4.out.size; omega, by rw [HNEW.out]; exact RowV.block (heap_new wq4 _), HRN, bthen (bthen HBT.out HBQ4.out) (balloc _ _)⟩, by simp [intOf]; omega⟩
                        · obtain rfl : k = 64 := by omega
                          clear hkl hk64
                          rw [show ((64 : Nat) : Int) = 64 from rfl]
                          have HBLK : Hid (v.plus st = Sha.block Sha.K st bs) := by
                            have h : Sha.block Sha.K st bs = (Sha.rounds st Sha.K (Sha.sched bs 64) 64).plus st := rfl
                            rw [HSCH.out, ← HVK.out] at h
                            exact h.symm
                          have RSt := Lib.hid (RS6.out.below HBT.out)
                          have HTt : Hid (Touch (fun _ => False) wo wt) := (HT6.out.trans (Touch.of_below (S := (· = GW)) HBT.out) (fun _ _ h => h)).mono (fun q hq e => by have := HGW.out; omega)
                          have hgvS : GS ≠ gv := by omega
                          clear HVK RV6 RS6 RK6 RW6 HT6 HBT
                          go_wp2_with fail
                          go_loopw [23] (fun jv wr => ∃ j : Nat, j ≤ 8 ∧ jv = .int .i64 j ∧ RowV wr GS (wcells (mix st v j)) ∧ Touch (· = GS) wt wr) (fun jv _ => 8 - (intOf jv).toNat)
                          case atStart => exact ⟨0, by omega, rfl, RSt.out, Touch.refl _ _⟩
                          case round =>
                            obtain ⟨j, hj8, rfl, hrow, ht⟩ := hrel
                            have HROW := Lib.hid hrow
                            have HTJ := Lib.hid ht
                            clear hrow ht
                            by_cases hjl : j < 8
                            · skip
                              have hjl' : (j : Int) < 8 := by omega
                              obtain ⟨cs0, f0⟩ := HROW.out.w32 (j := j) hjl
                              have cv0 := ((RV.out.touch HTJ.out (fun e => hgvS e.symm)).w32 (j := j) hjl).1
                              rw [mix_get st v j hjl] at cs0
                              have HMS := Lib.hid (mix_set st v j hjl)
                              obtain ⟨x, hx⟩ : ∃ x, st.list.getD j 0 = x := ⟨_, rfl⟩
                              obtain ⟨y, hy⟩ : ∃ y, v.list.getD j 0 = y := ⟨_, rfl⟩
                              rw [hx] at cs0 HMS
                              rw [hy] at cv0 HMS
                              clear hx hy
                              go_wp2_with fail
                              refine region_tail 10 (by kernel_rfl) (by kernel_rfl) ?_
                              intro wy hwy
                              replace cs0 : wy.cell? ⟨GS, j, none⟩ = some (.int .u32 x.toNat) := by rw [hwy.out]; exact cs0
                              replace cv0 : wy.cell? ⟨gv, j, none⟩ = some (.int .u32 y.toNat) := by rw [hwy.out]; exact cv0
                              replace f0 : wy.frozen? ⟨GS, j, none⟩ = false := by rw [hwy.out]; exact f0
                              simp only [List.take_succ_cons, List.take_zero, List.drop_succ_cons, List.drop_zero]
                              iterate 10 still_step
                              refine wpStill_nil ?_
                              go_wp2_with fail
                              go_roundw
                              case rel =>
                                refine ⟨j + 1, by omega, by go_num, ?_, ?_⟩
                                · have h1 := (show RowV wy GS (wcells (mix st v j)) by rw [hwy.out]; exact HROW.out.drew).set32 j (x + y)
                                  rw [HMS.out, ← x_add] at h1
                                  exact h1
                                · refine HTJ.out.trans (Touch.trans (T := (· = GS)) (Touch.of_below (S := (· = GS)) ?_) touch_set1 (fun _ _ h => h)) (fun _ _ h => h)
                                  rw [hwy.out]
                                  exact (Below.refl _ _).drew
                              case measure => simp [intOf]; omega
                            · obtain rfl : j = 8 := by omega
                              have HRN : Hid (RowV wr GS (wcells (Sha.block Sha.K st bs).list)) := by
                                have h := HROW.out
                                rw [mix_eight, ← Sha.mix_comm, HBLK.out] at h
                                exact h
                              have HTN : Hid (Touch (· = GS) wb wr) := HT.out.trans ((HTt.out.mono (T := (· = GS)) (fun _ _ h => h.elim)).trans HTJ.out (fun _ _ h => h)) (fun _ _ h => h)
                              have HST : Hid (Sha.blocks Sha.K (Sha.block Sha.K st bs) (M - (i + 1)) (P.drop (64 * (i + 1))) = Sha.blocks Sha.K Sha.start M P) := by
                                have h := (Sha.blocks_step Sha.K st M i P hil).symm.trans HBL.out
                                rw [HBSE.out] at h
                                exact h
                              rw [show ((8 : Nat) : Int) = 8 from rfl]
                              clear hjl hj8 HROW
                              go_wp2_with fail
                              go_roundw
                              case rel => exact ⟨i + 1, A + 64, _, hil, by go_num, Lib.hid (by rw [HA.out]; omega), HRN.out, HST, HTN.out⟩
                              case measure => simp [intOf]; have := HA.out; omega
            · obtain rfl : i = M := by omega
              have hAL : ¬ ((A : Int) < (LB : Int)) := by have h1 := HA.out; have h2 := HLM.out; omega
              have HSUM : Hid (Sha.sum l = st.bytes) := by
                have h1 := HBL.out
                rw [Nat.sub_self] at h1
                have h2 : st = Sha.blocks Sha.K Sha.start i P := h1
                have h3 : Sha.sum l = (Sha.blocks Sha.K Sha.start ((Sha.pad l).length / 64) (Sha.pad l)).bytes := rfl
                rw [HPP.out, HPM.out, Nat.mul_div_cancel_left _ (by decide), ← h2] at h3
                exact h3
              have HBo : Hid (Below w.heap.size w wo) := HB8.out.trans (HT.out.below HB8.out.size (fun q hq e => by omega))
              have HO0 : Hid (OwnF (wo.alloc (.cells #[] 5)) w.heap.size 1 (.slice (some ⟨wo.heap.size, 0, none⟩) 0 0) 0 (bytesOf (outs st 0))) := ownF_none _ _ _ 5 #[] HBo.out.size (heap_new wo _)
              go_wp2_with fail
              go_loopw [24, 25] (fun ov kv wr => ∃ k : Nat, k ≤ 8 ∧ kv = .int .i64 k ∧ OwnF wr w.heap.size 1 ov (4 * k) (bytesOf (outs st k)) ∧ RowV wr GS (wcells st.list) ∧ (∀ q, ov.ownBlock = some q → q ≠ GS) ∧ Below w.heap.size w wr) (fun _ kv _ => 8 - (intOf kv).toNat)
              case atStart => exact ⟨0, by omega, rfl, HO0.out, RSo.out.below (balloc _ _), fun q hq => by simp [Value.ownBlock] at hq; omega, bthen HBo.out (balloc _ _)⟩
              case round =>
                obtain ⟨k, hk8, rfl, ho, hrow, hne, hb⟩ := hrel
                have HO := Lib.hid ho
                have HROW := Lib.hid hrow
                have HNE := Lib.hid hne
                have HBW := Lib.hid hb
                obtain ⟨pa, ca, rfl, hca, hma⟩ := ho.slice
                clear ho hrow hne hb HO0
                by_cases hkl : k < 8
                · skip
                  have hkl' : (k : Int) < 8 := by omega
                  have c1 := (HROW.out.w32 (j := k) hkl).1
                  have HON := Lib.hid (Sha.outs_next st k hkl)
                  obtain ⟨x, hx⟩ : ∃ x, st.list.getD k 0 = x := ⟨_, rfl⟩
                  rw [hx] at c1 HON
                  clear hx
                  go_wp2_with fail
                  refine (four_any x wr).mono ?_
                  rintro e w8 ⟨rfl, hr8, hb8⟩
                  have HR8 := Lib.hid hr8
                  have HB8' := Lib.hid (bthen HBW.out hb8)
                  have HO8 : Hid (OwnF w8 w.heap.size 1 (.slice pa (4 * k) ca) (4 * k) (bytesOf (outs st k))) := HO.out.touch (S := fun _ => False) (.of_below hb8) (fun _ _ h => h)
                  have HROW8 := Lib.hid (HROW.out.below hb8)
                  clear hr8 hb8 c1
                  go_wp2_with (first | (at_builtin; go_must (refine wpList_append_ownF _ rfl (.tmp 282) (.tmp 287) 32 rfl w.heap.size 5 1 1 _ Tryd.byteInfo Tryd.underlying32 rfl (by decide) (.slice pa (4 * k) ca) (4 * k) (bytesOf (outs st k)) rfl HO8.out ⟨wr.heap.size, 0, none⟩ 4 4 (bytesOf (Sha.big x.toNat 4)) rfl (by rw [bytesOf_length, Sha.big_length]) (fun j u hj => by rw [addr_add, Nat.zero_add]; exact (HR8.out.2 j u hj).1) (bytes_one _) (by decide) (by unfold maxLen; omega) (by omega) HB8'.out.size ?_; intro v9 w9 ho9 hgr9 hbl9; have HO9 := Lib.hid ho9; have HG9 := Lib.hid hgr9; have HL9 := Lib.hid hbl9; clear ho9 hgr9 hbl9)))
                  go_roundw
                  case rel =>
                    refine ⟨k + 1, by omega, by go_num, ?_, HROW8.out.touch (touch_of_grown HG9.out) (fun h => HNE.out _ h rfl), ?_, HB8'.out.trans (touch_own' (touch_of_grown HG9.out) HB8'.out.size (fun q hq => (HO8.out.lt q hq).1))⟩
                    · rw [HON.out, bytesOf_append]
                      exact HO9.out
                    · intro q hq he
                      rcases HL9.out with h | h
                      · exact HNE.out q (h.symm.trans hq) he
                      · rw [h] at hq
                        have := HROW8.out.1
                        have := Option.some.inj hq
                        omega
                  case measure => simp [intOf]; omega
                · obtain rfl : k = 8 := by omega
                  clear hkl hk8
                  rw [show ((8 : Nat) : Int) = 8 from rfl]
                  have HO8 : Hid (OwnF wr w.heap.size 1 (.slice pa 32 ca) st.bytes.length (bytesOf st.bytes)) := by
                    rw [Sha.St.bytes_length]; exact HO.out
                  go_wp2_with (first | (refine wpList_convert_string _ rfl 32 9 5 (.tmp 289) rfl Tryd.underlying32 Tryd.underlying5 Tryd.underlying9 rfl HO8.out ?_))
                  go_ret
                  exact ⟨congrArg (fun b : List UInt8 => Ending.returned (.string ⟨b.toArray⟩)) HSUM.out.symm, HBW.out⟩
end Go.Proofs.YtommbdlkmkphpaaDoor
