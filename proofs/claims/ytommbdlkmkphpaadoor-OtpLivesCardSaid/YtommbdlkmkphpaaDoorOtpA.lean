/- Walks of the small functions of otp: value, big, Code. -/
import Derived.Test.YtommbdlkmkphpaaDoorHshD
import Derived.Test.YtommbdlkmkphpaaDoorOtpM
import Derived.Laws.BitsAllLaws
import Derived.Test.YtommbdlkmkphpaaDoorShelf
namespace Go.Proofs.YtommbdlkmkphpaaDoor
open Go.RowKit

set_option maxHeartbeats 1000000 in
theorem ovalue_any (l : List UInt8) (w : World) (hl : l.length ≤ 8) :
    Calls Tryd.prog 15 #[.string ⟨l.toArray⟩] w fun e w' => e = .returned (.int .u64 (Sha.val l)) ∧ w = w' := by
  go_enter Tryd.func15, Tryd.ntmps15
  go_wp2
  go_loop [3, 7] (fun n i => ∃ k : Nat, k ≤ l.length ∧ i = .int .i64 k ∧ n = .int .u64 (Sha.val (l.take k))) (fun _ i => l.length - (intOf i).toNat)
  case atStart => exact ⟨0, by omega, rfl, rfl⟩
  case round =>
    obtain ⟨k, hk, rfl, rfl⟩ := hrel
    obtain ⟨m, hm⟩ : ∃ m, Sha.val (l.take k) = m := ⟨_, rfl⟩
    have hlt := Sha.val_lt (l.take k)
    rw [hm] at hlt ⊢
    have HM := Lib.hid hm
    clear hm
    by_cases hkl : k < l.length
    · have hp : (256 : Nat) ^ (l.take k).length ≤ 256 ^ 7 := Nat.pow_le_pow_right (by decide) (by simp; omega)
      have hm' : m * 256 < 18446744073709551616 := by
        have : (256 : Nat) ^ 7 = 72057594037927936 := rfl
        omega
      have hb := (l[k]'hkl).toNat_lt
      have HS := Lib.hid ((congrArg Sha.val (List.take_succ_eq_append_getElem hkl)).trans (Sha.val_snoc _ _))
      have HO := Lib.hid (u64_or_low m (l[k]'hkl).toNat hm' (by omega))
      clear hlt hp
      go_wp2
      go_round
      case rel => exact ⟨k + 1, by omega, by go_num, by rw [HS.out, HM.out]; exact val_int (show bits .or .u64 ((m : Int) * 256) (IntKind.u64.wrap (((l[k]'hkl).toNat : Nat) : Int)) = _ from by rw [IntWalk.u64_in _ ⟨by omega, by omega⟩]; exact HO.out)⟩
      case measure => simp [intOf]; omega
    · obtain rfl : k = l.length := by omega
      clear hlt
      go_wp2
      go_ret
      exact ⟨ret_int (by rw [← HM.out, List.take_length]), rfl⟩

set_option maxHeartbeats 1000000 in
theorem obig_any (w : World) (base : Nat) (v : Value) (l : List UInt8) (n k : Nat) (h : OwnF w base 1 v l.length (bytesOf l)) (hk : k ≤ 8) (hl : l.length + 8 ≤ 140737488355328) (hb : base ≤ w.heap.size) :
    Calls Tryd.prog 14 #[v, .int .u64 n, .int .i64 k] w fun e w' => ∃ v', e = .returned v' ∧ OwnF w' base 1 v' (l.length + k) (bytesOf (l ++ Sha.big n k)) ∧ Touch (fun b => v.ownBlock = some b) w w' ∧ (v'.ownBlock = v.ownBlock ∨ ∃ q, v'.ownBlock = some q ∧ w.heap.size ≤ q) := by
  have H := Lib.hid h
  clear h
  go_enter Tryd.func14, Tryd.ntmps14
  go_wp2
  go_loopw [0, 7] (fun v' i wr => ∃ j : Nat, j ≤ k ∧ i = .int .i64 ((k : Int) - 1 - j) ∧ OwnF wr base 1 v' (l.length + j) (bytesOf (l ++ (Sha.big n k).take j)) ∧ Touch (fun b => v.ownBlock = some b) w wr ∧ (v'.ownBlock = v.ownBlock ∨ ∃ q, v'.ownBlock = some q ∧ w.heap.size ≤ q)) (fun _ i _ => ((intOf i) + 1).toNat)
  case atStart => exact ⟨0, by omega, by go_num, by simpa using H.out, Touch.refl _ _, .inl rfl⟩
  case round =>
    obtain ⟨j, hj, rfl, ho, ht, hbl⟩ := hrel
    have HO := Lib.hid ho
    have HT := Lib.hid ht
    have HBL := Lib.hid hbl
    have hts := ht.size
    clear ho ht hbl
    by_cases hjk : j < k
    · have hsh : (8 * ((k : Int) - 1 - j)).toNat = 8 * (k - 1 - j) := by omega
      have HB := Lib.hid (u8_big n (k - 1 - j))
      have HT2 := Lib.hid (Sha.big_take n k j hjk)
      go_wp2_with (first | (at_builtin; go_must (refine wpList_append_ownF _ rfl (.tmp 14) (.tmp 20) 32 rfl base 5 1 1 _ Tryd.byteInfo Tryd.underlying32 rfl (by decide) u0 (l.length + j) (bytesOf (l ++ (Sha.big n k).take j)) rfl (HO.out.touch (S := fun _ => False) (.of_below (balloc wr _)) (fun _ _ h => h)) ⟨wr.heap.size, 0, none⟩ 1 1 [.int .u8 ((n : Int) / 2 ^ (8 * (k - 1 - j)) % 256)] rfl rfl (fun i u hi => by rw [addr_add, Nat.zero_add]; exact cell_of (heap_new wr _) (by simpa using hi)) (by intro u hu; simp at hu; subst hu; rfl) (by decide) (by unfold maxLen; omega) (by omega) (by simp; omega) ?_; intro v' w1 ho hgr hb1; have HO1 := Lib.hid ho; have HG1 := Lib.hid hgr; have HB1 := Lib.hid hb1; clear ho hgr hb1)))
      go_roundw
      case rel =>
        refine ⟨j + 1, by omega, by go_num, ?_, ?_, ?_⟩
        · have := HO1.out
          rw [HB.out] at this
          rw [HT2.out, ← List.append_assoc, bytesOf_append]
          exact this
        · have ht1 : Touch (fun b => u0.ownBlock = some b) wr w1 := (Touch.of_below (balloc wr _)).trans (touch_of_grown HG1.out) (fun _ _ h => h)
          refine HT.out.trans ht1 (fun q hq ho => ?_)
          rcases HBL.out with h | ⟨q', h, hq'⟩
          · exact h.symm.trans ho
          · rw [h] at ho; have := Option.some.inj ho; omega
        · rcases HB1.out with h | h
          · exact h.symm ▸ HBL.out
          · exact .inr ⟨_, h, by have := HT.out.size; simp; omega⟩
      case measure => simp [intOf]; omega
    · obtain rfl : j = k := by omega
      go_wp2
      go_ret
      exact ⟨_, rfl, by have := HO.out; rwa [List.take_of_length_le (by rw [Sha.big_length]; omega)] at this, HT.out, HBL.out⟩

theorem and31 (S : Nat) (h : S < 18446744073709551616) : bits .and .u64 (S : Int) 2147483647 = ((S % 2147483648 : Nat) : Int) := by
  have := u64_and_nat S 2147483647 h (by decide)
  rw [show ((2147483647 : Nat) : Int) = 2147483647 from rfl] at this
  rw [this, show (2147483647 : Nat) = 2 ^ 31 - 1 from rfl, Nat.and_two_pow_sub_one_eq_mod]
theorem and15 (S : Nat) (h : S < 256) : bits .and .u8 (S : Int) 15 = ((S % 16 : Nat) : Int) := by
  have := u8_and_nat S 15 h (by decide)
  rw [show ((15 : Nat) : Int) = 15 from rfl] at this
  rw [this, show (15 : Nat) = 2 ^ 4 - 1 from rfl, Nat.and_two_pow_sub_one_eq_mod]
/-- The table that Itoa reads lies as it was laid. -/
def Tab (w : World) : Prop := Lib.TabIs Tryd.prog w "internal/strconv.uint64pow10" .u64 Lib.pow10Tab
theorem below_grow (w : World) (q : Nat) (os : Array Obj) : Below w.heap.size w (Go.Sort.grow (w.drewN q) os) :=
  ⟨rfl, rfl, rfl, by first | (simp [Go.Sort.grow]; done) | (simp [Go.Sort.grow]; omega), fun i hi => by
    show ((w.drewN q).heap ++ os)[i]? = _
    rw [Array.getElem?_append_left (by show i < w.heap.size; omega)]
    rfl⟩
theorem Tab.below {w w' : World} (h : Tab w) (hb : Below w.heap.size w w') : Tab w' := by
  unfold Tab Lib.TabIs World.var? at h ⊢
  cases hg : Tryd.prog.globalNamed "internal/strconv.uint64pow10" with
  | none => rw [hg] at h; cases h
  | some g =>
    rw [hg] at h
    simp only [Option.bind_some] at h ⊢
    have hlt : g < w.heap.size := by
      rcases Nat.lt_or_ge g w.heap.size with h' | h'
      · exact h'
      · rw [Array.getElem?_eq_none h'] at h; cases h
    rw [hb.block g hlt]
    exact h
set_option maxHeartbeats 2000000 in
set_option maxRecDepth 100000 in
theorem code_any (secret : List UInt8) (s : Int) (w : World) (ht : Tab w) (hs : secret.length ≤ 140737488355200) (_h1 : -9223372036854775808 ≤ s) (_h2 : s ≤ 9223372036854775807) :
    Calls Tryd.prog 9 #[.string ⟨secret.toArray⟩, .int .i64 s] w fun e w' => e = .returned (.string ⟨(Otp.code secret s).toArray⟩) ∧ Below w.heap.size w w' := by
  obtain ⟨T, hT⟩ : ∃ T, Otp.tick s = T := ⟨_, rfl⟩
  have hw : IntKind.u64.wrap s = (T : Int) := by rw [← hT, IntKind.wrap_u64]; unfold Otp.tick; omega
  have hTl : T < 18446744073709551616 := by rw [← hT]; unfold Otp.tick; omega
  obtain ⟨B8, hB8⟩ : ∃ B8, Sha.big T 8 = B8 := ⟨_, rfl⟩
  have hBL : B8.length = 8 := by rw [← hB8]; exact Sha.big_length _ _
  obtain ⟨m, hm⟩ : ∃ m, Sha.mac secret B8 = m := ⟨_, rfl⟩
  have hmL : m.length = 32 := by rw [← hm]; exact Sha.mac_length _ _
  have h31 : 31 < m.length := by omega
  obtain ⟨x31, hx⟩ : ∃ x31, m[31]'h31 = x31 := ⟨_, rfl⟩
  have hx2 : m.getD 31 0 = x31 := by rw [List.getD_eq_getElem?_getD, List.getElem?_eq_getElem h31, hx]; rfl
  have hx31 := x31.toNat_lt
  obtain ⟨a, ha⟩ : ∃ a, x31.toNat % 16 = a := ⟨_, rfl⟩
  have ha16 : a < 16 := by omega
  have hand := and15 x31.toNat (by omega)
  rw [ha] at hand
  obtain ⟨l4, hl4⟩ : ∃ l4, (m.drop a).take 4 = l4 := ⟨_, rfl⟩
  have hl4L : l4.length = 4 := by rw [← hl4]; simp; omega
  have hext : (⟨m.toArray⟩ : ByteArray).extract a (a + 4) = ⟨l4.toArray⟩ := by
    apply ByteArray.ext
    rw [← hl4]
    simp [ByteArray.data_extract, List.take_drop]
  obtain ⟨V, hV⟩ : ∃ V, Sha.val l4 = V := ⟨_, rfl⟩
  have hVl : V < 4294967296 := by
    have h := Sha.val_lt l4
    rw [hl4L, hV] at h
    exact h
  have hand2 := and31 V (by omega)
  obtain ⟨V2, hV2⟩ : ∃ V2, V % 2147483648 = V2 := ⟨_, rfl⟩
  rw [hV2] at hand2
  obtain ⟨N, hN⟩ : ∃ N, V2 % 1000000 = N := ⟨_, rfl⟩
  have hNl : N < 1000000 := by omega
  have hmod : (V2 : Int) % 1000000 = (N : Int) := by omega
  have hV2l : V2 < 2147483648 := by omega
  have HIT := Lib.hid (Otp.itoa_six N hNl)
  have HC : Hid (Otp.code secret s = Otp.six N) := by
    have h : Otp.code secret s = Otp.six (Otp.num (Sha.mac secret (Sha.big (Otp.tick s) 8))) := rfl
    rw [h, hT, hB8, hm]
    have h2 : Otp.num m = Sha.val ((m.drop ((m.getD 31 0).toNat % 16)).take 4) % 2147483648 % 1000000 := rfl
    rw [h2, hx2, ha, hl4, hV, hV2, hN]
    exact rfl
  obtain ⟨D, hD⟩ : ∃ D, Otp.six N = D := ⟨_, rfl⟩
  rw [hD] at HC HIT
  have hdrop : (⟨(49 :: D).toArray⟩ : ByteArray).extract 1 7 = ⟨D.toArray⟩ := by
    rw [← hD]
    apply ByteArray.ext
    simp [ByteArray.data_extract, Otp.six]
  have hDL : D.length = 6 := by rw [← hD]; rfl
  have HM := Lib.hid hm
  have HBB := Lib.hid hB8
  have HV := Lib.hid hV
  have HBL := Lib.hid hBL
  have HEX := Lib.hid hext
  have HDR := Lib.hid hdrop
  have HML := Lib.hid hmL
  have HDL := Lib.hid hDL
  have HX := Lib.hid hx
  have HT := Lib.hid ht
  have HA1 := Lib.hid hand
  have HA2 := Lib.hid hand2
  have HMO := Lib.hid hmod
  have HL4 := Lib.hid hl4L
  clear hm hB8 hV hBL hext hdrop hmL hDL hx ht hand hand2 hmod hT hx2 ha hl4 hV2 hN hD hl4L
  go_enter Tryd.func9, Tryd.ntmps9
  go_wp2_with fail
  refine (obig_any w w.heap.size (.slice none 0 0) [] T 8 ⟨rfl, .inl ⟨rfl, rfl⟩⟩ (by decide) (by decide) (Nat.le_refl _)).mono ?_
  rw [HBB.out]
  rintro e w1 ⟨v1, rfl, ho1, ht1, _⟩
  have HO1 : Hid (OwnF w1 w.heap.size 1 v1 B8.length (bytesOf B8)) := by rw [HBL.out]; exact ho1
  have B1 : Hid (Below w.heap.size w w1) := ht1.below (Nat.le_refl _) (fun q _ e => by simp [Value.ownBlock] at e)
  clear ho1 ht1 hw
  go_wp2_with (first | (refine wpList_convert_string _ rfl 32 9 5 (.tmp 11) rfl Tryd.underlying32 Tryd.underlying5 Tryd.underlying9 rfl HO1.out ?_))
  refine (mac_any secret B8 w1 hs (by rw [HBL.out]; decide)).mono ?_
  rw [HM.out]
  rintro e w2 ⟨rfl, b2⟩
  have B2 := Lib.hid (bthen B1.out b2)
  clear b2
  have hmL := HML.out
  have hand := HA1.out
  have hext := HEX.out
  have hx : (({ data := m.toArray } : ByteArray)[31]'h31) = x31 := HX.out
  go_wp2_with fail
  refine (ovalue_any l4 w2 (by rw [HL4.out]; decide)).mono ?_
  rw [HV.out]
  rintro e w3 ⟨rfl, rfl⟩
  clear hand hext hx hmL
  have hand2 := HA2.out
  have hmod := HMO.out
  go_wp2_with fail
  clear hand2 hmod
  have hcall := Tryd.strconv_Itoa ((N : Int) + 1000000) (by omega) (by omega) w2 (HT.out.below B2.out)
  rw [HIT.out] at hcall
  refine hcall.mono ?_
  rintro e w4 ⟨rfl, k, os, hw4⟩
  have B4 : Hid (Below w.heap.size w w4) := by rw [hw4]; exact bthen B2.out (below_grow w2 k os)
  have hdr := HDR.out
  have hDL := HDL.out
  clear hw4 hcall
  go_wp2_with fail
  go_ret
  exact ⟨by rw [HC.out]; rfl, B4.out⟩
end Go.Proofs.YtommbdlkmkphpaaDoor
