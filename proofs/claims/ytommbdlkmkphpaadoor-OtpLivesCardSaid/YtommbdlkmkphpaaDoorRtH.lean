/- Walks of the document's side of chapter 04: padded, mac, Mac, Sum. -/
import Derived.Test.YtommbdlkmkphpaaDoorRsum
namespace Go.Proofs.YtommbdlkmkphpaaDoor
open Go.RowKit
/-- The first i bytes xor x. -/
def xfront (Y : List UInt8) (x : UInt8) (i : Nat) : List UInt8 := (Y.take i).map (· ^^^ x) ++ Y.drop i
theorem xfront_zero (Y : List UInt8) (x : UInt8) : xfront Y x 0 = Y := by simp [xfront]
theorem xfront_end (Y : List UInt8) (x : UInt8) : xfront Y x Y.length = Y.map (· ^^^ x) := by simp [xfront]
theorem xfront_at (Y : List UInt8) (x : UInt8) (i : Nat) (h : i < Y.length) : (xfront Y x i)[i]? = some Y[i] := by
  have hl : ((Y.take i).map (· ^^^ x)).length = i := by simp; omega
  rw [xfront, List.getElem?_append_right (by omega), hl]
  simp [h]
theorem xfront_set (Y : List UInt8) (x : UInt8) (i : Nat) (h : i < Y.length) : (xfront Y x i).set i (Y[i] ^^^ x) = xfront Y x (i + 1) := by
  have hl : ((Y.take i).map (· ^^^ x)).length = i := by simp; omega
  rw [xfront, xfront, List.set_append_right _ _ (by omega), hl, Nat.sub_self, List.drop_eq_getElem_cons h, List.set_cons_zero, List.take_succ_eq_append_getElem h, List.map_append, List.append_assoc]
  rfl
set_option maxHeartbeats 4000000 in
set_option maxRecDepth 100000 in
theorem padded_any (key kk : List UInt8) (x : UInt8) (gk ck : Nat) (w : World) (hkr : RowV w gk (wcells Sha.K)) (hck : 64 ≤ ck) (hcm : ck ≤ 9223372036854775807) (hk : key.length ≤ 140737488355200) (hkk : kk = if key.length > 64 then Sha.sum key else key) :
    Calls Tryd.prog 33 #[.string ⟨key.toArray⟩, .int .u8 (x.toNat : Int), .slice (some ⟨gk, 0, none⟩) 64 ck] w fun e w' => e = .returned (.string ⟨((kk ++ List.replicate (64 - kk.length) 0).map (· ^^^ x)).toArray⟩) ∧ Below w.heap.size w w' := by
  have h64 : kk.length ≤ 64 := by rw [hkk]; split <;> first | (rw [Sha.sum_length]; decide) | omega
  have HKK := Lib.hid hkk
  clear hkk
  by_cases hl : key.length > 64
  · have HK2 : Hid (kk = Sha.sum key) := by have := HKK.out; rw [if_pos hl] at this; exact this
    go_enter Tryd.func33, Tryd.ntmps33
    go_wp2_with fail
    refine (rsum_any key gk ck w hkr hck hcm hk).mono ?_
    rw [← HK2.out]
    rintro e w0 ⟨rfl, b0⟩
    have B0 := Lib.hid b0
    clear b0
    go_wp2_with (first | (refine wpList_convert_bytes _ rfl 9 32 5 (.tmp 15) rfl Tryd.underlying9 Tryd.underlying32 Tryd.underlying5 kk rfl (by unfold maxLen; omega) w.heap.size B0.out.size ?_; intro v1 w1 ho1 hb1 hv1; have HO1 := Lib.hid ho1; have HB1 := Lib.hid (B0.out.trans (hb1.mono B0.out.size)); clear ho1 hb1 hv1))
    go_loopw [7] (fun v wr => ∃ j : Nat, kk.length + j ≤ 64 ∧ OwnF wr w.heap.size 1 v (kk.length + j) (bytesOf (kk ++ List.replicate j 0)) ∧ Below w.heap.size w wr) (fun v _ => 64 - lenV v)
    case atStart => exact ⟨0, by omega, by have h := HO1.out; simpa using h, HB1.out⟩
    case round =>
      clear HO1 HB1
      obtain ⟨j, hj, ho, hb⟩ := hrel
      have HO := Lib.hid ho
      have HB := Lib.hid hb
      have hbs := hb.size
      obtain ⟨ao, cap, rfl, hnc, hcm2⟩ := ho.slice
      clear ho hb
      obtain ⟨n, hn⟩ : ∃ n, kk.length + j = n := ⟨_, rfl⟩
      rw [hn] at HO hnc hj ⊢
      have HNN := Lib.hid hn
      clear hn
      by_cases hlt : n < 64
      · have hlt' : (n : Int) < 64 := by omega
        go_wp2_with (first | (at_builtin; go_must (refine wpList_append_ownF _ rfl (.tmp 20) (.tmp 21) 32 rfl w.heap.size 5 1 1 _ Tryd.byteInfo Tryd.underlying32 rfl (by decide) (.slice ao n cap) n (bytesOf (kk ++ List.replicate j 0)) rfl (HO.out.touch (S := fun _ => False) (.of_below (balloc wr _)) (fun _ _ h => h)) ⟨wr.heap.size, 0, none⟩ 1 1 [.int .u8 0] rfl rfl (fun i u hi => by rw [addr_add, Nat.zero_add]; exact cell_of (heap_new wr _) (by simpa using hi)) (by intro u hu; simp at hu; subst hu; rfl) (by decide) (by unfold maxLen; omega) (by omega) (by simp; omega) ?_; intro v2 w2 ho2 hgr2 _; have HO2 := Lib.hid ho2; have HG2 := Lib.hid hgr2; clear ho2 hgr2)))
        obtain ⟨ao2, cap2, rfl, _, _⟩ := HO2.out.slice
        go_roundw
        case rel =>
          refine ⟨j + 1, by have := HNN.out; omega, ?_, ?_⟩
          · have h := HO2.out
            rw [show kk.length + (j + 1) = n + 1 by have := HNN.out; omega, List.replicate_succ', ← List.append_assoc, bytesOf_append]
            exact h
          · have h2 := bthen HB.out (balloc wr (.cells #[.int .u8 0] 5))
            exact h2.trans (touch_own' (touch_of_grown HG2.out) h2.size (fun q hq => (HO.out.lt q hq).1))
        case measure => simp [lenV]; omega
      · obtain rfl : n = 64 := by omega
        clear hlt hj
        obtain ⟨g, rfl, hg0, hg1⟩ := HO.out.pos (by decide)
        obtain ⟨Y, hY⟩ : ∃ Y, kk ++ List.replicate j 0 = Y := ⟨_, rfl⟩
        have hjj : j = 64 - kk.length := by have := HNN.out; omega
        have hYL : Y.length = 64 := by have := HNN.out; rw [← hY]; simp; omega
        have HY : Hid (kk ++ List.replicate (64 - kk.length) 0 = Y) := by rw [← hjj]; exact hY
        have hblk : Blk wr g Y := Blk.own (by have h := HO.out; rw [hY] at h; exact h)
        have HBK := Lib.hid hblk
        have HYL := Lib.hid hYL
        have HGG := Lib.hid hg0
        clear hblk hYL hY hjj hg0 hg1
        obtain ⟨wb, hwb⟩ : ∃ wb, wb = wr := ⟨_, rfl⟩
        subst hwb
        go_wp2_with fail
        go_loopw [8] (fun iv wr => ∃ i : Nat, i ≤ 64 ∧ iv = .int .i64 i ∧ Blk wr g (xfront Y x i) ∧ Below w.heap.size w wr) (fun iv _ => 64 - (intOf iv).toNat)
        case atStart => exact ⟨0, by omega, rfl, by rw [xfront_zero]; exact HBK.out, HB.out⟩
        case round =>
          obtain ⟨i, hi64, rfl, hblk, hb⟩ := hrel
          have HBI := Lib.hid hblk
          have HBW := Lib.hid hb
          clear hblk hb
          by_cases hil : i < 64
          · have hil' : (i : Int) < 64 := by omega
            have hiY : i < Y.length := by rw [HYL.out]; exact hil
            obtain ⟨c1, f1⟩ := HBI.out.2 i _ (xfront_at Y x i hiY)
            have HST := Lib.hid (xfront_set Y x i hiY)
            obtain ⟨y, hy⟩ : ∃ y, Y[i]'hiY = y := ⟨_, rfl⟩
            rw [hy] at c1 HST
            clear hy
            go_wp2_with fail
            go_roundw
            case rel =>
              refine ⟨i + 1, by omega, by go_num, ?_, HBW.out.setCell (by exact HGG.out) _⟩
              have h := HBI.out.set i (y ^^^ x)
              rw [HST.out, ← u8_xor] at h
              exact h
            case measure => simp [intOf]; omega
          · obtain rfl : i = 64 := by omega
            rw [show ((64 : Nat) : Int) = 64 from rfl]
            have hcv := HBI.out.string (n := 64) (cap := cap) (by rw [xfront]; simp; have := HYL.out; omega)
            have he : (xfront Y x 64).take 64 = Y.map (· ^^^ x) := by
              have h := xfront_end Y x
              rw [HYL.out] at h
              rw [h, List.take_of_length_le (by simp; have := HYL.out; omega)]
            rw [he] at hcv
            clear hil hi64 he
            go_wp2_with fail
            go_ret
            exact ⟨by rw [HY.out]; rfl, HBW.out⟩
  · have HK2 : Hid (kk = key) := by have := HKK.out; rw [if_neg hl] at this; exact this
    obtain rfl := HK2.out
    have hl' : ¬ (kk.length > 64) := hl
    have B0 := Lib.hid (Below.refl w.heap.size w)
    go_enter Tryd.func33, Tryd.ntmps33
    go_wp2_with (first | (refine wpList_convert_bytes _ rfl 9 32 5 (.tmp 15) rfl Tryd.underlying9 Tryd.underlying32 Tryd.underlying5 kk rfl (by unfold maxLen; omega) w.heap.size B0.out.size ?_; intro v1 w1 ho1 hb1 hv1; have HO1 := Lib.hid ho1; have HB1 := Lib.hid (B0.out.trans (hb1.mono B0.out.size)); clear ho1 hb1 hv1))
    go_loopw [7] (fun v wr => ∃ j : Nat, kk.length + j ≤ 64 ∧ OwnF wr w.heap.size 1 v (kk.length + j) (bytesOf (kk ++ List.replicate j 0)) ∧ Below w.heap.size w wr) (fun v _ => 64 - lenV v)
    case atStart => exact ⟨0, by omega, by have h := HO1.out; simpa using h, HB1.out⟩
    case round =>
      clear HO1 HB1
      obtain ⟨j, hj, ho, hb⟩ := hrel
      have HO := Lib.hid ho
      have HB := Lib.hid hb
      have hbs := hb.size
      obtain ⟨ao, cap, rfl, hnc, hcm2⟩ := ho.slice
      clear ho hb
      obtain ⟨n, hn⟩ : ∃ n, kk.length + j = n := ⟨_, rfl⟩
      rw [hn] at HO hnc hj ⊢
      have HNN := Lib.hid hn
      clear hn
      by_cases hlt : n < 64
      · have hlt' : (n : Int) < 64 := by omega
        go_wp2_with (first | (at_builtin; go_must (refine wpList_append_ownF _ rfl (.tmp 20) (.tmp 21) 32 rfl w.heap.size 5 1 1 _ Tryd.byteInfo Tryd.underlying32 rfl (by decide) (.slice ao n cap) n (bytesOf (kk ++ List.replicate j 0)) rfl (HO.out.touch (S := fun _ => False) (.of_below (balloc wr _)) (fun _ _ h => h)) ⟨wr.heap.size, 0, none⟩ 1 1 [.int .u8 0] rfl rfl (fun i u hi => by rw [addr_add, Nat.zero_add]; exact cell_of (heap_new wr _) (by simpa using hi)) (by intro u hu; simp at hu; subst hu; rfl) (by decide) (by unfold maxLen; omega) (by omega) (by simp; omega) ?_; intro v2 w2 ho2 hgr2 _; have HO2 := Lib.hid ho2; have HG2 := Lib.hid hgr2; clear ho2 hgr2)))
        obtain ⟨ao2, cap2, rfl, _, _⟩ := HO2.out.slice
        go_roundw
        case rel =>
          refine ⟨j + 1, by have := HNN.out; omega, ?_, ?_⟩
          · have h := HO2.out
            rw [show kk.length + (j + 1) = n + 1 by have := HNN.out; omega, List.replicate_succ', ← List.append_assoc, bytesOf_append]
            exact h
          · have h2 := bthen HB.out (balloc wr (.cells #[.int .u8 0] 5))
            exact h2.trans (touch_own' (touch_of_grown HG2.out) h2.size (fun q hq => (HO.out.lt q hq).1))
        case measure => simp [lenV]; omega
      · obtain rfl : n = 64 := by omega
        clear hlt hj
        obtain ⟨g, rfl, hg0, hg1⟩ := HO.out.pos (by decide)
        obtain ⟨Y, hY⟩ : ∃ Y, kk ++ List.replicate j 0 = Y := ⟨_, rfl⟩
        have hjj : j = 64 - kk.length := by have := HNN.out; omega
        have hYL : Y.length = 64 := by have := HNN.out; rw [← hY]; simp; omega
        have HY : Hid (kk ++ List.replicate (64 - kk.length) 0 = Y) := by rw [← hjj]; exact hY
        have hblk : Blk wr g Y := Blk.own (by have h := HO.out; rw [hY] at h; exact h)
        have HBK := Lib.hid hblk
        have HYL := Lib.hid hYL
        have HGG := Lib.hid hg0
        clear hblk hYL hY hjj hg0 hg1
        obtain ⟨wb, hwb⟩ : ∃ wb, wb = wr := ⟨_, rfl⟩
        subst hwb
        go_wp2_with fail
        go_loopw [8] (fun iv wr => ∃ i : Nat, i ≤ 64 ∧ iv = .int .i64 i ∧ Blk wr g (xfront Y x i) ∧ Below w.heap.size w wr) (fun iv _ => 64 - (intOf iv).toNat)
        case atStart => exact ⟨0, by omega, rfl, by rw [xfront_zero]; exact HBK.out, HB.out⟩
        case round =>
          obtain ⟨i, hi64, rfl, hblk, hb⟩ := hrel
          have HBI := Lib.hid hblk
          have HBW := Lib.hid hb
          clear hblk hb
          by_cases hil : i < 64
          · have hil' : (i : Int) < 64 := by omega
            have hiY : i < Y.length := by rw [HYL.out]; exact hil
            obtain ⟨c1, f1⟩ := HBI.out.2 i _ (xfront_at Y x i hiY)
            have HST := Lib.hid (xfront_set Y x i hiY)
            obtain ⟨y, hy⟩ : ∃ y, Y[i]'hiY = y := ⟨_, rfl⟩
            rw [hy] at c1 HST
            clear hy
            go_wp2_with fail
            go_roundw
            case rel =>
              refine ⟨i + 1, by omega, by go_num, ?_, HBW.out.setCell (by exact HGG.out) _⟩
              have h := HBI.out.set i (y ^^^ x)
              rw [HST.out, ← u8_xor] at h
              exact h
            case measure => simp [intOf]; omega
          · obtain rfl : i = 64 := by omega
            rw [show ((64 : Nat) : Int) = 64 from rfl]
            have hcv := HBI.out.string (n := 64) (cap := cap) (by rw [xfront]; simp; have := HYL.out; omega)
            have he : (xfront Y x 64).take 64 = Y.map (· ^^^ x) := by
              have h := xfront_end Y x
              rw [HYL.out] at h
              rw [h, List.take_of_length_le (by simp; have := HYL.out; omega)]
            rw [he] at hcv
            clear hil hi64 he
            go_wp2_with fail
            go_ret
            exact ⟨by rw [HY.out]; rfl, HBW.out⟩
theorem padded_is (key : List UInt8) (x : UInt8) (gk ck : Nat) (w : World) (hkr : RowV w gk (wcells Sha.K)) (hck : 64 ≤ ck) (hcm : ck ≤ 9223372036854775807) (hk : key.length ≤ 140737488355200) (n : Int) (hn : n = (x.toNat : Int)) :
    Calls Tryd.prog 33 #[.string ⟨key.toArray⟩, .int .u8 n, .slice (some ⟨gk, 0, none⟩) 64 ck] w fun e w' => e = .returned (.string ⟨(Sha.padded key x).toArray⟩) ∧ Below w.heap.size w w' := by
  subst hn
  exact padded_any key _ x gk ck w hkr hck hcm hk rfl
set_option maxHeartbeats 4000000 in
set_option maxRecDepth 100000 in
theorem rmac_any (key s : List UInt8) (gk ck : Nat) (w : World) (hkr : RowV w gk (wcells Sha.K)) (hck : 64 ≤ ck) (hcm : ck ≤ 9223372036854775807) (hk : key.length ≤ 140737488355200) (hs : s.length ≤ 140737488355000) :
    Calls Tryd.prog 23 #[.string ⟨key.toArray⟩, .string ⟨s.toArray⟩, .slice (some ⟨gk, 0, none⟩) 64 ck] w fun e w' => e = .returned (.string ⟨(Sha.mac key s).toArray⟩) ∧ Below w.heap.size w w' := by
  have HK := Lib.hid hkr
  clear hkr
  obtain ⟨X, hX⟩ : ∃ X, Sha.padded key 92 = X := ⟨_, rfl⟩
  obtain ⟨Y, hY⟩ : ∃ Y, Sha.padded key 54 = Y := ⟨_, rfl⟩
  have hXL : X.length = 64 := by rw [← hX]; exact Sha.padded_length _ _
  have hYL : Y.length = 64 := by rw [← hY]; exact Sha.padded_length _ _
  obtain ⟨YS, hYS⟩ : ∃ YS, Y ++ s = YS := ⟨_, rfl⟩
  obtain ⟨Z, hZ⟩ : ∃ Z, Sha.sum YS = Z := ⟨_, rfl⟩
  have hZL : Z.length = 32 := by rw [← hZ]; exact Sha.sum_length _
  obtain ⟨XZ, hXZ⟩ : ∃ XZ, X ++ Z = XZ := ⟨_, rfl⟩
  have HM : Hid (Sha.sum XZ = Sha.mac key s) := by
    have h : Sha.mac key s = Sha.sum (Sha.padded key 92 ++ Sha.sum (Sha.padded key 54 ++ s)) := rfl
    rw [hX, hY, hYS, hZ, hXZ] at h
    exact h.symm
  have hYSl : YS.length ≤ 140737488355200 := by rw [← hYS]; simp; omega
  have hXZl : XZ.length ≤ 140737488355200 := by rw [← hXZ]; simp; omega
  have hap1 : (⟨Y.toArray⟩ : ByteArray) ++ ⟨s.toArray⟩ = ⟨YS.toArray⟩ := by rw [← hYS]; exact bytes_append Y s
  have hap2 : (⟨X.toArray⟩ : ByteArray) ++ ⟨Z.toArray⟩ = ⟨XZ.toArray⟩ := by rw [← hXZ]; exact bytes_append X Z
  have hv1 : ¬ (9223372036854775807 < Y.length + s.length) := by omega
  have hv2 : ¬ (9223372036854775807 < X.length + Z.length) := by omega
  have HX := Lib.hid hX
  have HY := Lib.hid hY
  have HZ := Lib.hid hZ
  have HA1 := Lib.hid hap1
  have HA2 := Lib.hid hap2
  clear hX hY hXL hYL hYS hZ hZL hXZ hap1 hap2
  go_enter Tryd.func23, Tryd.ntmps23
  go_wp2_with fail
  refine (padded_is key 92 gk ck w HK.out hck hcm hk _ rfl).mono ?_
  rw [HX.out]
  rintro e w1 ⟨rfl, b1⟩
  have B1 := Lib.hid b1
  clear b1
  go_wp2_with fail
  refine (padded_is key 54 gk ck w1 (HK.out.below B1.out) hck hcm hk _ rfl).mono ?_
  rw [HY.out]
  rintro e w2 ⟨rfl, b2⟩
  have B2 := Lib.hid (bthen B1.out b2)
  clear b2
  have hap1 := HA1.out
  go_wp2_with fail
  clear hap1 hv1
  refine (rsum_any YS gk ck w2 (HK.out.below B2.out) hck hcm hYSl).mono ?_
  rw [HZ.out]
  rintro e w3 ⟨rfl, b3⟩
  have B3 := Lib.hid (bthen B2.out b3)
  clear b3
  have hap2 := HA2.out
  go_wp2_with fail
  clear hap2 hv2
  refine (rsum_any XZ gk ck w3 (HK.out.below B3.out) hck hcm hXZl).mono ?_
  rw [HM.out]
  rintro e w4 ⟨rfl, b4⟩
  have B4 := Lib.hid (bthen B3.out b4)
  clear b4
  go_wp2_with fail
  go_ret
  exact ⟨rfl, B4.out⟩
set_option maxHeartbeats 1000000 in
theorem rMac_any (key s : List UInt8) (w : World) (hk : key.length ≤ 140737488355200) (hs : s.length ≤ 140737488355000) :
    Calls Tryd.prog 17 #[.string ⟨key.toArray⟩, .string ⟨s.toArray⟩] w fun e w' => e = .returned (.string ⟨(Sha.mac key s).toArray⟩) ∧ Below w.heap.size w w' := by
  obtain ⟨S, hS⟩ : ∃ S, Sha.mac key s = S := ⟨_, rfl⟩
  have HS := Lib.hid hS
  rw [hS]
  clear hS
  go_enter Tryd.func17, Tryd.ntmps17
  go_wp2_with fail
  refine (rkeys_any w).mono ?_
  rintro e w1 ⟨g, cap, rfl, hc, hcm, hr, _, b1⟩
  have B1 := Lib.hid b1
  have HR := Lib.hid hr
  clear b1 hr
  go_wp2_with fail
  refine (rmac_any key s g cap w1 HR.out hc hcm hk hs).mono ?_
  rw [HS.out]
  rintro e w2 ⟨rfl, b2⟩
  have B2 := Lib.hid (bthen B1.out b2)
  clear b2
  go_wp2_with fail
  go_ret
  exact ⟨rfl, B2.out⟩
end Go.Proofs.YtommbdlkmkphpaaDoor
