/- Walk of HashKeys. -/
import Derived.Test.YtommbdlkmkphpaaHshW
namespace Go.Proofs.Ytommbdlkmkphpaa
open Go.RowKit
theorem mac_front (key s : List UInt8) (h : key.length ≤ 64) : Sha.sum (Sha.front key 92 64 ++ Sha.sum (Sha.front key 54 64 ++ s)) = Sha.mac key s := by
  rw [Sha.front_end _ _ h, Sha.front_end _ _ h]; rfl
theorem front_next (key : List UInt8) (x : UInt8) (k : Nat) (c : UInt8) (h : key.getD k 0 = c) : bytesOf (Sha.front key x (k + 1)) = bytesOf (Sha.front key x k) ++ [.int .u8 (bits .xor .u8 (c.toNat : Int) (x.toNat : Int))] := by
  rw [Sha.front_succ, bytesOf_append, h, u8_xor]; rfl
theorem ownF_empty (w : World) (base g : Nat) (t : TypeId) (cs : Array Value) (hb : base ≤ g) (h : w.heap[g]? = some (.cells cs t (0, 0))) : OwnF w base 1 (.slice (some ⟨g, 0, none⟩) 0 0) 0 [] :=
  ⟨rfl, .inr ⟨g, 0, rfl, hb, heap_lt h, Nat.le_refl _, Nat.zero_le _, fun j hj => by omega, fun j u hu => by simp at hu⟩⟩
theorem own_ne {va va0 vb : Value} {sz : Nat} (ha : va.ownBlock = va0.ownBlock ∨ va.ownBlock = some sz) (h0 : va0.ownBlock ≠ vb.ownBlock) (hlt : ∀ q, vb.ownBlock = some q → q < sz) : va.ownBlock ≠ vb.ownBlock := by
  rcases ha with h | h
  · rw [h]; exact h0
  · rw [h]; intro e
    have := hlt _ e.symm
    omega
set_option maxHeartbeats 8000000 in
set_option maxRecDepth 100000 in
theorem hashKeys_any (key s : List UInt8) (n : Int) (w : World) (hk : key.length ≤ 140737488351232) (hs : s.length ≤ 140737488351232) (hn : -9223372036854775808 ≤ n ∧ n ≤ 9223372036854775807) :
    Calls Try.prog 7 #[.string ⟨key.toArray⟩, .string ⟨s.toArray⟩, .int .i64 n] w fun e w' => e = .returned (.bool true) ∧ Below w.heap.size w w' := by
  obtain ⟨hn1, hn2⟩ := hn
  obtain ⟨M, hM⟩ : ∃ M, Sha.mac key s = M := ⟨_, rfl⟩
  obtain ⟨S1, hS1⟩ : ∃ S1, Sha.sum s = S1 := ⟨_, rfl⟩
  have hML : M.length = 32 := by rw [← hM]; exact Sha.mac_length _ _
  have hSL : S1.length = 32 := by rw [← hS1]; exact Sha.sum_length _
  have HM := Lib.hid hM
  have HS1 := Lib.hid hS1
  have HML := Lib.hid hML
  have HSL := Lib.hid hSL
  clear hM hS1 hML hSL
  by_cases hl : key.length > 64
  · obtain ⟨K2, hK2⟩ : ∃ K2, Sha.sum key = K2 := ⟨_, rfl⟩
    have hKL : K2.length = 32 := by rw [← hK2]; exact Sha.sum_length _
    have hMK := Sha.mac_long key s hl
    rw [hK2, HM.out] at hMK
    have HK2 := Lib.hid hK2
    have HMK := Lib.hid hMK
    have hK2l : K2.length ≤ 140737488355200 := by omega
    have hl' : (64 : Int) < (key.length : Int) := by omega
    clear hK2 hMK hKL
    go_enter Try.func7, Try.ntmps7
    go_wp2_with fail
    refine (awake_any w).mono ?_
    rintro e w1 ⟨rfl, b1⟩
    have B1 := Lib.hid b1
    clear b1
    go_wp2_with fail
    refine (mac_any key s w1 (by omega) (by omega)).mono ?_
    rw [HM.out]
    rintro e w2 ⟨rfl, b2⟩
    have B2 := Lib.hid (bthen B1.out b2)
    clear b2
    have l1 := HML.out
    go_wp2_with fail
    refine (sum_any s w2 (by omega)).mono ?_
    rw [HS1.out]
    rintro e w3 ⟨rfl, b3⟩
    have B3 := Lib.hid (bthen B2.out b3)
    clear b3
    have l2 := HSL.out
    go_wp2_with fail
    refine (sum_any key w3 (by omega)).mono ?_
    rw [HK2.out]
    rintro e w4 ⟨rfl, b4⟩
    have B4 := Lib.hid (bthen B3.out b4)
    clear b4
    go_wp2_with fail
    refine (mac_any K2 s w4 hK2l (by omega)).mono ?_
    rw [HMK.out]
    rintro e w5 ⟨rfl, b5⟩
    have B5 := Lib.hid (bthen B4.out b5)
    clear b5
    go_wp2_with fail
    go_ret
    exact ⟨rfl, B5.out⟩
  · have hl' : ¬ ((64 : Int) < (key.length : Int)) := by omega
    have hMF := mac_front key s (by omega)
    rw [HM.out] at hMF
    have HMF := Lib.hid hMF
    clear hMF
    go_enter Try.func7, Try.ntmps7
    go_wp2_with fail
    refine (awake_any w).mono ?_
    rintro e w1 ⟨rfl, b1⟩
    have B1 := Lib.hid b1
    clear b1
    go_wp2_with fail
    refine (mac_any key s w1 (by omega) (by omega)).mono ?_
    rw [HM.out]
    rintro e w2 ⟨rfl, b2⟩
    have B2 := Lib.hid (bthen B1.out b2)
    clear b2
    have l1 := HML.out
    go_wp2_with fail
    refine (sum_any s w2 (by omega)).mono ?_
    rw [HS1.out]
    rintro e w3 ⟨rfl, b3⟩
    have B3 := Lib.hid (bthen B2.out b3)
    clear b3
    have l2 := HSL.out
    go_wp2_with fail
    clear l1 l2
    have OA : Hid (OwnF ((w3.alloc (.cells #[] 5)).alloc (.cells #[] 5)) w.heap.size 1 (.slice (some ⟨w3.heap.size, 0, none⟩) 0 0) 0 []) :=
      ownF_empty _ _ _ 5 #[] B3.out.size (stays (heap_new w3 _) (balloc _ _))
    have OB : Hid (OwnF ((w3.alloc (.cells #[] 5)).alloc (.cells #[] 5)) w.heap.size 1 (.slice (some ⟨w3.heap.size + 1, 0, none⟩) 0 0) 0 []) :=
      ownF_empty _ _ _ 5 #[] (by have := B3.out.size; omega) (by have h := heap_new (w3.alloc (.cells #[] 5)) (.cells #[] 5); rw [World.size_alloc] at h; exact h)
    have B4 : Hid (Below w.heap.size w ((w3.alloc (.cells #[] 5)).alloc (.cells #[] 5))) := bthen (bthen B3.out (balloc _ _)) (balloc _ _)
    go_loopw [8, 9, 10] (fun a b i wr => ∃ k : Nat, k ≤ 64 ∧ i = .int .i64 k ∧ OwnF wr w.heap.size 1 a k (bytesOf (Sha.front key 92 k)) ∧ OwnF wr w.heap.size 1 b k (bytesOf (Sha.front key 54 k)) ∧ a.ownBlock ≠ b.ownBlock ∧ Below w.heap.size w wr) (fun _ _ i _ => 64 - (intOf i).toNat)
    case atStart => exact ⟨0, by omega, rfl, OA.out, OB.out, by simp [Value.ownBlock], B4.out⟩
    case round =>
      clear OA OB B4
      obtain ⟨wo, hwo⟩ : ∃ wo, wo = wr := ⟨_, rfl⟩
      subst hwo
      obtain ⟨k, hk64, rfl, ha, hb, hab, hw⟩ := hrel
      have HA := Lib.hid ha
      have HB := Lib.hid hb
      have HAB := Lib.hid hab
      have HW := Lib.hid hw
      obtain ⟨pa, ca, rfl, hca, hma⟩ := ha.slice
      obtain ⟨pb, cb, rfl, hcb, hmb⟩ := hb.slice
      have hws := hw.size
      clear ha hb hab hw
      by_cases hkl : k < 64
      · have hkl' : (k : Int) < 64 := by omega
        by_cases hkk : k < key.length
        · have hc : key.getD k 0 = key[k]'hkk := by rw [List.getD_eq_getElem?_getD, List.getElem?_eq_getElem hkk]; rfl
          have H1 := Lib.hid (front_next key 92 k _ hc)
          have H2 := Lib.hid (front_next key 54 k _ hc)
          have hkk' : (k : Int) < (key.length : Int) := by omega
          clear hc
          go_wp2_with (first | (at_builtin; go_must (first | (refine wpList_append_ownF _ rfl (.tmp 50) (.tmp 53) 33 rfl w.heap.size 5 1 1 _ Try.byteInfo Try.underlying33 rfl (by decide) (.slice pa k ca) k (bytesOf (Sha.front key 92 k)) rfl (HA.out.touch (S := fun _ => False) (.of_below (balloc wo _)) (fun _ _ h => h)) ⟨wo.heap.size, 0, none⟩ 1 1 [.int .u8 (bits .xor .u8 ((({ data := key.toArray } : ByteArray)[k]'hkk).toNat : Int) 92)] rfl rfl (fun i u hi => by rw [addr_add, Nat.zero_add]; exact cell_of (heap_new wo _) (by simpa using hi)) (by intro u hu; simp at hu; subst hu; rfl) (by decide) (by unfold maxLen; omega) (by omega) (by simp; omega) ?_; intro va wa hoa hga hba; have HOA := Lib.hid hoa; have TA : Hid (Touch (fun q => (Value.slice pa k ca).ownBlock = some q) wo wa) := (Touch.of_below (balloc wo _)).trans (touch_of_grown hga) (fun _ _ h => h); have HB2 : Hid (OwnF wa w.heap.size 1 (.slice pb k cb) k (bytesOf (Sha.front key 54 k))) := HB.out.touch TA.out (fun q h e => HAB.out (e.trans h.symm)); have HWA : Hid (Below w.heap.size w wa) := HW.out.trans (touch_own TA.out HW.out.size (fun q h => (HA.out.lt q h).1)); have hwas := HWA.out.size; have HN := Lib.hid (own_ne hba HAB.out (fun q h => Nat.lt_of_lt_of_le (HB.out.lt q h).2 (balloc wo (.cells #[.int .u8 (bits .xor .u8 ((({ data := key.toArray } : ByteArray)[k]'hkk).toNat : Int) 92)] 5)).size)); clear hoa hga hba) | (refine wpList_append_ownF _ rfl (.tmp 55) (.tmp 58) 33 rfl w.heap.size 5 1 1 _ Try.byteInfo Try.underlying33 rfl (by decide) (.slice pb k cb) k (bytesOf (Sha.front key 54 k)) rfl (HB2.out.touch (S := fun _ => False) (.of_below (balloc wa _)) (fun _ _ h => h)) ⟨wa.heap.size, 0, none⟩ 1 1 [.int .u8 (bits .xor .u8 ((({ data := key.toArray } : ByteArray)[k]'hkk).toNat : Int) 54)] rfl rfl (fun i u hi => by rw [addr_add, Nat.zero_add]; exact cell_of (heap_new wa _) (by simpa using hi)) (by intro u hu; simp at hu; subst hu; rfl) (by decide) (by unfold maxLen; omega) (by omega) (by simp; omega) ?_; intro vb wb hob hgb hbb; have HOB := Lib.hid hob; have TB : Hid (Touch (fun q => (Value.slice pb k cb).ownBlock = some q) wa wb) := (Touch.of_below (balloc wa _)).trans (touch_of_grown hgb) (fun _ _ h => h); have HNB := Lib.hid (own_ne hbb HN.out.symm (fun q h => Nat.lt_of_lt_of_le (HOA.out.lt q h).2 (balloc wa (.cells #[.int .u8 (bits .xor .u8 ((({ data := key.toArray } : ByteArray)[k]'hkk).toNat : Int) 54)] 5)).size)); clear hob hgb hbb))))
          go_roundw
          case rel =>
            refine ⟨k + 1, by omega, by go_num, ?_, ?_, ?_, ?_⟩
            · rw [H1.out]
              exact HOA.out.touch TB.out (fun q h e => HN.out (h.trans e.symm))
            · rw [H2.out]
              exact HOB.out
            · exact fun e => HNB.out e.symm
            · exact HWA.out.trans (touch_own TB.out HWA.out.size (fun q h => (HB2.out.lt q h).1))
          case measure => simp [intOf]; omega
        · have hc : key.getD k 0 = 0 := by rw [List.getD_eq_getElem?_getD, List.getElem?_eq_none (by omega)]; rfl
          have H1 := Lib.hid (front_next key 92 k _ hc)
          have H2 := Lib.hid (front_next key 54 k _ hc)
          have hkk' : ¬ ((k : Int) < (key.length : Int)) := by omega
          clear hc
          go_wp2_with (first | (at_builtin; go_must (first | (refine wpList_append_ownF _ rfl (.tmp 50) (.tmp 53) 33 rfl w.heap.size 5 1 1 _ Try.byteInfo Try.underlying33 rfl (by decide) (.slice pa k ca) k (bytesOf (Sha.front key 92 k)) rfl (HA.out.touch (S := fun _ => False) (.of_below (balloc wo _)) (fun _ _ h => h)) ⟨wo.heap.size, 0, none⟩ 1 1 [.int .u8 (bits .xor .u8 0 92)] rfl rfl (fun i u hi => by rw [addr_add, Nat.zero_add]; exact cell_of (heap_new wo _) (by simpa using hi)) (by intro u hu; simp at hu; subst hu; rfl) (by decide) (by unfold maxLen; omega) (by omega) (by simp; omega) ?_; intro va wa hoa hga hba; have HOA := Lib.hid hoa; have TA : Hid (Touch (fun q => (Value.slice pa k ca).ownBlock = some q) wo wa) := (Touch.of_below (balloc wo _)).trans (touch_of_grown hga) (fun _ _ h => h); have HB2 : Hid (OwnF wa w.heap.size 1 (.slice pb k cb) k (bytesOf (Sha.front key 54 k))) := HB.out.touch TA.out (fun q h e => HAB.out (e.trans h.symm)); have HWA : Hid (Below w.heap.size w wa) := HW.out.trans (touch_own TA.out HW.out.size (fun q h => (HA.out.lt q h).1)); have hwas := HWA.out.size; have HN := Lib.hid (own_ne hba HAB.out (fun q h => Nat.lt_of_lt_of_le (HB.out.lt q h).2 (balloc wo (.cells #[.int .u8 (bits .xor .u8 0 92)] 5)).size)); clear hoa hga hba) | (refine wpList_append_ownF _ rfl (.tmp 55) (.tmp 58) 33 rfl w.heap.size 5 1 1 _ Try.byteInfo Try.underlying33 rfl (by decide) (.slice pb k cb) k (bytesOf (Sha.front key 54 k)) rfl (HB2.out.touch (S := fun _ => False) (.of_below (balloc wa _)) (fun _ _ h => h)) ⟨wa.heap.size, 0, none⟩ 1 1 [.int .u8 (bits .xor .u8 0 54)] rfl rfl (fun i u hi => by rw [addr_add, Nat.zero_add]; exact cell_of (heap_new wa _) (by simpa using hi)) (by intro u hu; simp at hu; subst hu; rfl) (by decide) (by unfold maxLen; omega) (by omega) (by simp; omega) ?_; intro vb wb hob hgb hbb; have HOB := Lib.hid hob; have TB : Hid (Touch (fun q => (Value.slice pb k cb).ownBlock = some q) wa wb) := (Touch.of_below (balloc wa _)).trans (touch_of_grown hgb) (fun _ _ h => h); have HNB := Lib.hid (own_ne hbb HN.out.symm (fun q h => Nat.lt_of_lt_of_le (HOA.out.lt q h).2 (balloc wa (.cells #[.int .u8 (bits .xor .u8 0 54)] 5)).size)); clear hob hgb hbb))))
          go_roundw
          case rel =>
            refine ⟨k + 1, by omega, by go_num, ?_, ?_, ?_, ?_⟩
            · rw [H1.out]
              exact HOA.out.touch TB.out (fun q h e => HN.out (h.trans e.symm))
            · rw [H2.out]
              exact HOB.out
            · exact fun e => HNB.out e.symm
            · exact HWA.out.trans (touch_own TB.out HWA.out.size (fun q h => (HB2.out.lt q h).1))
          case measure => simp [intOf]; omega
      · obtain rfl : k = 64 := by omega
        rw [show ((64 : Nat) : Int) = 64 from rfl]
        clear hkl hk64 hca hcb
        obtain ⟨ga, rfl, hga0, hga1⟩ := HA.out.pos (by decide)
        obtain ⟨gb, rfl, hgb0, hgb1⟩ := HB.out.pos (by decide)
        have hfl1 : (Sha.front key 92 64).length = 64 := Sha.front_length _ _ _
        have hfl2 : (Sha.front key 54 64).length = 64 := Sha.front_length _ _ _
        obtain ⟨X, hX⟩ : ∃ X, Sha.front key 92 64 = X := ⟨_, rfl⟩
        obtain ⟨Y, hY⟩ : ∃ Y, Sha.front key 54 64 = Y := ⟨_, rfl⟩
        rw [hX] at hfl1 HA HMF
        rw [hY] at hfl2 HB HMF
        obtain ⟨Z, hZ⟩ : ∃ Z, Sha.sum (Y ++ s) = Z := ⟨_, rfl⟩
        have ZL : Z.length = 32 := by rw [← hZ]; exact Sha.sum_length _
        rw [hZ] at HMF
        have HZ := Lib.hid hZ
        have XB : Hid (Blk wo ga X) := Blk.own (by have h := HA.out; exact h)
        have YB : Hid (Blk wo gb Y) := Blk.own (by have h := HB.out; exact h)
        have HFX := Lib.hid hfl1
        have HFY := Lib.hid hfl2
        have CX : Hid (∀ w', Below wo.heap.size wo w' → (convert 33 9 (.slice (some ⟨ga, 0, none⟩) 64 ca)).run Try.prog w' = .ok (.string ⟨X.toArray⟩) w') := fun w' hb => by
          have h := (XB.out.below hb).string (n := 64) (cap := ca) (by rw [HFX.out]; exact Nat.le_refl _)
          rw [List.take_of_length_le (by rw [HFX.out]; exact Nat.le_refl _)] at h
          exact h
        have CY : Hid (∀ w', Below wo.heap.size wo w' → (convert 33 9 (.slice (some ⟨gb, 0, none⟩) 64 cb)).run Try.prog w' = .ok (.string ⟨Y.toArray⟩) w') := fun w' hb => by
          have h := (YB.out.below hb).string (n := 64) (cap := cb) (by rw [HFY.out]; exact Nat.le_refl _)
          rw [List.take_of_length_le (by rw [HFY.out]; exact Nat.le_refl _)] at h
          exact h
        have HL1 : Hid ((Y ++ s).length ≤ 140737488355200) := by have h : (Y ++ s).length ≤ 140737488355200 := by { simp; omega }; exact h
        have HL2 : Hid ((X ++ Z).length ≤ 140737488355200) := by have h : (X ++ Z).length ≤ 140737488355200 := by { simp; omega }; exact h
        have HBB : Hid (∀ w', Below wo.heap.size wo w' → (Below wo.heap.size wo w' ∧ (convert 33 9 (.slice (some ⟨ga, 0, none⟩) 64 ca)).run Try.prog w' = .ok (.string ⟨X.toArray⟩) w' ∧ (convert 33 9 (.slice (some ⟨gb, 0, none⟩) 64 cb)).run Try.prog w' = .ok (.string ⟨Y.toArray⟩) w')) :=
          fun w' hb => ⟨hb, CX.out w' hb, CY.out w' hb⟩
        have hv1 : ¬ (9223372036854775807 < Y.length + s.length) := by omega
        have hv2 : ¬ (9223372036854775807 < X.length + Z.length) := by omega
        clear hX hY hZ ZL hfl1 hfl2 hga0 hga1 hgb0 hgb1
        go_wp2_with fail
        go_region_held3 (fun w' => Below wo.heap.size wo w' ∧ (convert 33 9 (.slice (some ⟨ga, 0, none⟩) 64 ca)).run Try.prog w' = .ok (.string ⟨X.toArray⟩) w' ∧ (convert 33 9 (.slice (some ⟨gb, 0, none⟩) 64 cb)).run Try.prog w' = .ok (.string ⟨Y.toArray⟩) w')
          (first | exact HBB.out _ (Below.refl _ _).drew | exact HBB.out _ (bthen (by assumption : Below wo.heap.size wo _ ∧ _).1 (by assumption)))
          (first | (go_at_call 10; rw [bytes_append]; ((with_reducible refine (sum_any (Y ++ s) _ HL1.out).mono ?_)); rw [HZ.out]; rintro e w' ⟨rfl, hb⟩) | (go_at_call 10; rw [bytes_append]; ((with_reducible refine (sum_any (X ++ Z) _ HL2.out).mono ?_)); rw [HMF.out]; rintro e w' ⟨rfl, hb⟩))
        clear hv1 hv2
        go_wp2_with fail
        have HWR : Hid (Below w.heap.size w w') := bthen HW.out (by assumption : Below wo.heap.size wo _ ∧ _).1
        go_loopw [12, 13] (fun v i wr => ∃ z : Nat, i = .int .i64 z ∧ key.length + z ≤ 64 ∧ ∃ L : List UInt8, v = .string ⟨L.toArray⟩ ∧ Hid (L = key ++ List.replicate z 0) ∧ Below w.heap.size w wr) (fun _ i _ => 64 - (intOf i).toNat)
        case atStart => exact ⟨0, rfl, by omega, key, rfl, Lib.hid (by simp), HWR.out⟩
        case round =>
          obtain ⟨z, rfl, hz, L, rfl, hL, hb⟩ := hrel
          have HLW := Lib.hid hb
          have hLL : L.length = key.length + z := by rw [hL.out]; simp
          have HLL := Lib.hid hLL
          have hcat : ¬ (9223372036854775807 < L.length + 1) := by omega
          have hLl : L.length ≤ 140737488355200 := by omega
          clear hb hLL
          by_cases hgo : (z : Int) < n ∧ (L.length : Int) < 64
          · obtain ⟨hg1, hg2⟩ := hgo
            obtain ⟨L2, hL2⟩ : ∃ L2, L ++ [0] = L2 := ⟨_, rfl⟩
            have hap : (⟨L.toArray⟩ : ByteArray) ++ ⟨#[0]⟩ = ⟨L2.toArray⟩ := by rw [← hL2]; exact bytes_append L [0]
            have HL2 := Lib.hid hL2
            clear hL2
            go_wp2_with fail
            go_roundw
            case rel => exact ⟨z + 1, by go_num, by have := HLL.out; omega, L2, rfl, Lib.hid (by rw [← HL2.out, hL.out, List.replicate_succ', List.append_assoc]), HLW.out⟩
            case measure => simp [intOf]; have := HLL.out; omega
          · have HMZ : Hid (Sha.mac L s = M) := by
              have h := Sha.mac_zeros key s z hz
              rw [← hL.out, HM.out] at h
              exact h
            clear hcat
            rcases (show ¬ ((z : Int) < n) ∨ ((z : Int) < n ∧ ¬ ((L.length : Int) < 64)) by omega) with hg1 | ⟨hg1, hg2⟩
            all_goals clear hgo
            all_goals go_wp2_with fail
            all_goals refine (mac_any L s _ hLl (by omega)).mono ?_
            all_goals rw [HMZ.out]
            all_goals rintro e w9 ⟨rfl, b9⟩
            all_goals have HB9 := Lib.hid (bthen HLW.out b9)
            all_goals clear b9
            all_goals go_wp2_with fail
            all_goals go_ret
            all_goals exact ⟨rfl, HB9.out⟩
end Go.Proofs.Ytommbdlkmkphpaa
