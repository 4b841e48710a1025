/- Walk of the document's Code of chapter 05. -/
import Derived.Test.YtommbdlkmkphpaaDoorOtpA
import Derived.Test.YtommbdlkmkphpaaDoorRtH
import Derived.Deep.QuietTactic
import Derived.BigQuiet
namespace Go.Proofs.YtommbdlkmkphpaaDoor
open Go.RowKit
theorem and255 (x : Int) : bits .and .i64 x 255 = x % 256 := by
  show IntKind.i64.wrap ((BitVec.ofInt 64 x &&& BitVec.ofInt 64 255).toNat : Int) = _
  have h : (BitVec.ofInt 64 x &&& BitVec.ofInt 64 255).toNat = (BitVec.ofInt 64 x).toNat % 256 := by
    rw [BitVec.toNat_and, show (BitVec.ofInt 64 255).toNat = 2 ^ 8 - 1 from rfl, Nat.and_two_pow_sub_one_eq_mod]
  rw [h, BitVec.toNat_ofInt]
  have e : (((x % ((2 ^ 64 : Nat) : Int)).toNat % 256 : Nat) : Int) = x % 256 := by omega
  rw [e]
  exact IntWalk.i64_in _ (by omega)
/-- A byte of the step, taken from the number or from its 64 bits. -/
theorem byte_of (s : Int) (j : Nat) (hj : j < 8) : s / 2 ^ (8 * (7 - j)) % 256 = ((UInt8.ofNat (Otp.tick s / 256 ^ (7 - j))).toNat : Int) := by
  rw [UInt8.toNat_ofNat']
  unfold Otp.tick
  rcases (show j = 0 ∨ j = 1 ∨ j = 2 ∨ j = 3 ∨ j = 4 ∨ j = 5 ∨ j = 6 ∨ j = 7 by omega) with rfl | rfl | rfl | rfl | rfl | rfl | rfl | rfl <;> simp <;> omega
theorem and127 (S : Nat) (h : S < 256) : bits .and .u8 (S : Int) 127 = ((S % 128 : Nat) : Int) := by
  have := u8_and_nat S 127 h (by decide)
  rw [show ((127 : Nat) : Int) = 127 from rfl] at this
  rw [this, show (127 : Nat) = 2 ^ 7 - 1 from rfl, Nat.and_two_pow_sub_one_eq_mod]
theorem or_low (a b k : Nat) (hb : b < 2 ^ k) : a * 2 ^ k ||| b = a * 2 ^ k + b := by
  rw [Nat.mul_comm]; exact (Nat.two_pow_add_eq_or_of_lt hb a).symm
theorem i64_orn (a b : Nat) (ha : a < 9223372036854775808) (hb : b < 9223372036854775808) : bits .or .i64 (a : Int) (b : Int) = ((a ||| b : Nat) : Int) := by
  have hx : a ||| b < 2 ^ 63 := Nat.or_lt_two_pow (by omega) (by omega)
  have o : ∀ c : Nat, c < 9223372036854775808 → (BitVec.ofInt 64 (c : Int)).toNat = c := fun c hc => by
    rw [BitVec.ofInt_natCast, BitVec.toNat_ofNat]; exact Nat.mod_eq_of_lt (by omega)
  show IntKind.i64.wrap ((BitVec.ofInt 64 (a : Int) ||| BitVec.ofInt 64 (b : Int)).toNat : Int) = _
  rw [BitVec.toNat_or, o a ha, o b hb]
  exact IntWalk.i64_in _ (by omega)
/-- Four bytes as the document puts them together: the number without its highest bit. -/
theorem word31 (x0 x1 x2 x3 : UInt8) : bits .or .i64 (bits .or .i64 (bits .or .i64 (((x0.toNat % 128 : Nat) : Int) * 16777216) ((x1.toNat : Int) * 65536)) ((x2.toNat : Int) * 256)) (x3.toNat : Int) = ((Sha.val [x0, x1, x2, x3] % 2147483648 : Nat) : Int) := by
  have h0 := x0.toNat_lt; have h1 := x1.toNat_lt; have h2 := x2.toNat_lt; have h3 := x3.toNat_lt
  have e1 : bits .or .i64 (((x0.toNat % 128 : Nat) : Int) * 16777216) ((x1.toNat : Int) * 65536) = (((x0.toNat % 128) * 16777216 + x1.toNat * 65536 : Nat) : Int) := by
    rw [show ((x0.toNat % 128 : Nat) : Int) * 16777216 = ((x0.toNat % 128 * 16777216 : Nat) : Int) by omega, show (x1.toNat : Int) * 65536 = ((x1.toNat * 65536 : Nat) : Int) by omega, i64_orn _ _ (by omega) (by omega)]
    rw [show x0.toNat % 128 * 16777216 = x0.toNat % 128 * 2 ^ 24 from rfl, or_low _ _ 24 (by omega)]
  have e2 : bits .or .i64 (((x0.toNat % 128) * 16777216 + x1.toNat * 65536 : Nat) : Int) ((x2.toNat : Int) * 256) = (((x0.toNat % 128 * 256 + x1.toNat) * 65536 + x2.toNat * 256 : Nat) : Int) := by
    rw [show (x2.toNat : Int) * 256 = ((x2.toNat * 256 : Nat) : Int) by omega, i64_orn _ _ (by omega) (by omega)]
    rw [show x0.toNat % 128 * 16777216 + x1.toNat * 65536 = (x0.toNat % 128 * 256 + x1.toNat) * 2 ^ 16 by omega, or_low _ _ 16 (by omega)]
  have e3 : bits .or .i64 (((x0.toNat % 128 * 256 + x1.toNat) * 65536 + x2.toNat * 256 : Nat) : Int) (x3.toNat : Int) = ((((x0.toNat % 128 * 256 + x1.toNat) * 256 + x2.toNat) * 256 + x3.toNat : Nat) : Int) := by
    rw [i64_orn _ _ (by omega) (by omega)]
    rw [show (x0.toNat % 128 * 256 + x1.toNat) * 65536 + x2.toNat * 256 = ((x0.toNat % 128 * 256 + x1.toNat) * 256 + x2.toNat) * 2 ^ 8 by omega, or_low _ _ 8 (by omega)]
  rw [e1, e2, e3]
  simp only [Sha.val, List.foldl_cons, List.foldl_nil]
  omega
theorem word31' (x0 x1 x2 x3 : UInt8) : bits .or .i64 (bits .or .i64 (bits .or .i64 ((x0.toNat : Int) % 128 * 16777216) (wrap64 (wrap64 (x1.toNat : Int) * 65536))) (wrap64 (wrap64 (x2.toNat : Int) * 256))) (wrap64 (x3.toNat : Int)) = ((Sha.val [x0, x1, x2, x3] % 2147483648 : Nat) : Int) := by
  have h1 := x1.toNat_lt; have h2 := x2.toNat_lt; have h3 := x3.toNat_lt
  have w1 : wrap64 (x1.toNat : Int) = (x1.toNat : Int) := by unfold wrap64; omega
  have w2 : wrap64 (x2.toNat : Int) = (x2.toNat : Int) := by unfold wrap64; omega
  have w3 : wrap64 (x3.toNat : Int) = (x3.toNat : Int) := by unfold wrap64; omega
  have w4 : wrap64 ((x1.toNat : Int) * 65536) = (x1.toNat : Int) * 65536 := by unfold wrap64; omega
  have w5 : wrap64 ((x2.toNat : Int) * 256) = (x2.toNat : Int) * 256 := by unfold wrap64; omega
  rw [w1, w2, w3, w4, w5, ← word31 x0 x1 x2 x3]
  rfl
theorem digit_u8 (V q : Nat) : ((UInt8.ofNat (48 + V % 1000000 / q % 10)).toNat : Int) = 48 + ((V % 1000000 / q % 10 : Nat) : Int) := by
  rw [UInt8.toNat_ofNat']; omega
set_option maxHeartbeats 2000000 in
set_option maxRecDepth 100000 in
theorem rcode_any (secret : List UInt8) (s : Int) (w : World) (hs : secret.length ≤ 140737488355200) (_h1 : -9223372036854775808 ≤ s) (_h2 : s ≤ 9223372036854775807) :
    Calls Tryd.prog 10 #[.string ⟨secret.toArray⟩, .int .i64 s] w fun e w' => e = .returned (.string ⟨(Otp.code secret s).toArray⟩) ∧ Below w.heap.size w w' := by
  obtain ⟨T, hT⟩ : ∃ T, Otp.tick s = T := ⟨_, rfl⟩
  have HT := Lib.hid hT
  obtain ⟨B8, hB8⟩ : ∃ B8, Sha.big T 8 = B8 := ⟨_, rfl⟩
  have hBL : B8.length = 8 := by rw [← hB8]; exact Sha.big_length _ _
  obtain ⟨m, hm⟩ : ∃ m, Sha.mac secret B8 = m := ⟨_, rfl⟩
  have hmL : m.length = 32 := by rw [← hm]; exact Sha.mac_length _ _
  have h31 : 31 < m.length := by omega
  obtain ⟨x31, hx⟩ : ∃ x31, m[31]'h31 = x31 := ⟨_, rfl⟩
  have hx2 : m.getD 31 0 = x31 := by rw [List.getD_eq_getElem?_getD, List.getElem?_eq_getElem h31, hx]; rfl
  have hx31 := x31.toNat_lt
  obtain ⟨a, ha⟩ : ∃ a, x31.toNat % 16 = a := ⟨_, rfl⟩
  have ha16 : a < 16 := by omega
  have hand := and15 x31.toNat (by omega)
  rw [ha] at hand
  have ha0 : a < m.length := by omega
  have ha1 : a + 1 < m.length := by omega
  have ha2 : a + 2 < m.length := by omega
  have ha3 : a + 3 < m.length := by omega
  obtain ⟨x0, hx0⟩ : ∃ x0, m[a]'ha0 = x0 := ⟨_, rfl⟩
  obtain ⟨x1, hx1⟩ : ∃ x1, m[a + 1]'ha1 = x1 := ⟨_, rfl⟩
  obtain ⟨x2, hx2'⟩ : ∃ x2, m[a + 2]'ha2 = x2 := ⟨_, rfl⟩
  obtain ⟨x3, hx3⟩ : ∃ x3, m[a + 3]'ha3 = x3 := ⟨_, rfl⟩
  have hl4 : (m.drop a).take 4 = [x0, x1, x2, x3] := by
    rw [List.drop_eq_getElem_cons ha0, List.drop_eq_getElem_cons ha1, List.drop_eq_getElem_cons ha2, List.drop_eq_getElem_cons ha3, hx0, hx1, hx2', hx3]
    rfl
  obtain ⟨V2, hV2⟩ : ∃ V2, Sha.val [x0, x1, x2, x3] % 2147483648 = V2 := ⟨_, rfl⟩
  have hV2l : V2 < 2147483648 := by omega
  have hw31 := word31 x0 x1 x2 x3
  rw [hV2] at hw31
  have h127 := and127 x0.toNat x0.toNat_lt
  have HC : Hid (Otp.code secret s = Otp.six (V2 % 1000000)) := by
    have h : Otp.code secret s = Otp.six (Otp.num (Sha.mac secret (Sha.big (Otp.tick s) 8))) := rfl
    rw [h, hT, hB8, hm]
    have h2 : Otp.num m = Sha.val ((m.drop ((m.getD 31 0).toNat % 16)).take 4) % 2147483648 % 1000000 := rfl
    rw [h2, hx2, ha, hl4, hV2]
    exact rfl
  have HM := Lib.hid hm
  have HBB := Lib.hid hB8
  have HBL := Lib.hid hBL
  have HML := Lib.hid hmL
  have HX := Lib.hid hx
  have HX0 := Lib.hid hx0
  have HX1 := Lib.hid hx1
  have HX2 := Lib.hid hx2'
  have HX3 := Lib.hid hx3
  have HA1 := Lib.hid hand
  have HV2 := Lib.hid hV2
  clear hw31
  have H127 := Lib.hid h127
  clear hm hB8 hBL hmL hx hx0 hx1 hx2' hx3 hand h127 hT hx2 ha hl4 hV2
  go_enter Tryd.func10, Tryd.ntmps10
  go_wp2_with fail
  have O1 : Hid (OwnF (w.alloc (.cells #[] 5)) w.heap.size 1 (.slice (some ⟨w.heap.size, 0, none⟩) 0 0) 0 []) := ownF_none _ _ _ 5 #[] (Nat.le_refl _) (heap_new w _)
  go_loopw [5, 6] (fun bv iv wr => ∃ j : Nat, j ≤ 8 ∧ iv = .int .i64 (56 - 8 * (j : Int)) ∧ OwnF wr w.heap.size 1 bv j (bytesOf ((Sha.big T 8).take j)) ∧ Below w.heap.size w wr) (fun _ iv _ => ((intOf iv) + 8).toNat)
  case atStart => exact ⟨0, by omega, by go_num, O1.out, balloc _ _⟩
  case round =>
    obtain ⟨j, hj, rfl, ho, hb⟩ := hrel
    have HO := Lib.hid ho
    have HB := Lib.hid hb
    obtain ⟨pa, ca, rfl, hca, hma⟩ := ho.slice
    have hbs := hb.size
    clear O1 ho hb
    by_cases hj8 : j < 8
    · have hsh : (56 - 8 * (j : Int)).toNat = 8 * (7 - j) := by omega
      have hand := and255 (s / 2 ^ (8 * (7 - j)))
      have HBO := Lib.hid (byte_of s j hj8)
      rw [HT.out] at HBO
      have HBT := Lib.hid (Sha.big_take T 8 j hj8)
      obtain ⟨y, hy⟩ : ∃ y, s / 2 ^ (8 * (7 - j)) % 256 = y := ⟨_, rfl⟩
      rw [hy] at hand HBO
      have hy0 : 0 ≤ y := by omega
      have hy1 : y < 256 := by omega
      clear hy
      have h8 : 8 * (j : Int) ≤ 56 := by omega
      go_wp2_with (first | (at_builtin; go_must (refine wpList_append_ownF _ rfl (.tmp 17) (.tmp 23) 32 rfl w.heap.size 5 1 1 _ Tryd.byteInfo Tryd.underlying32 rfl (by decide) (.slice pa j ca) j (bytesOf ((Sha.big T 8).take j)) rfl (HO.out.touch (S := fun _ => False) (.of_below (balloc wr _)) (fun _ _ h => h)) ⟨wr.heap.size, 0, none⟩ 1 1 [.int .u8 y] rfl rfl (fun i u hi => by rw [addr_add, Nat.zero_add]; exact cell_of (heap_new wr _) (by simpa using hi)) (by intro u hu; simp at hu; subst hu; rfl) (by decide) (by unfold maxLen; omega) (by omega) (by simp; omega) ?_; intro v2 w2 ho2 hgr2 _; have HO2 := Lib.hid ho2; have HG2 := Lib.hid hgr2; clear ho2 hgr2)))
      have HBX : Hid (Below w.heap.size w w2) := by
        have h2 := bthen HB.out (balloc wr (.cells #[.int .u8 y] 5))
        exact h2.trans (touch_own' (touch_of_grown HG2.out) h2.size (fun k hk => (HO.out.lt k hk).1))
      go_roundw
      case rel =>
        refine ⟨j + 1, by omega, by go_num, ?_, HBX.out⟩
        rw [HBT.out, bytesOf_append]
        have h := HO2.out
        rw [HBO.out] at h
        exact h
      case measure => simp [intOf]; omega
    · obtain rfl : j = 8 := by omega
      rw [show (56 - 8 * ((8 : Nat) : Int)) = -8 from rfl]
      have HO8 : Hid (OwnF wr w.heap.size 1 (.slice pa 8 ca) (Sha.big T 8).length (bytesOf (Sha.big T 8))) := by
        have h := HO.out
        rw [List.take_of_length_le (by rw [Sha.big_length]; exact Nat.le_refl _)] at h
        rw [Sha.big_length]
        exact h
      clear hj8 hj
      go_wp2_with (first | (refine wpList_convert_string _ rfl 32 9 5 (.tmp 26) rfl Tryd.underlying32 Tryd.underlying5 Tryd.underlying9 rfl HO8.out ?_))
      rw [HBB.out]
      refine (rMac_any secret B8 wr hs (by rw [HBL.out]; decide)).mono ?_
      rw [HM.out]
      rintro e w2 ⟨rfl, b2⟩
      have B2 := Lib.hid (bthen HB.out b2)
      clear b2
      have hmL := HML.out
      have hand := HA1.out
      have hx : (({ data := m.toArray } : ByteArray)[31]'h31) = x31 := HX.out
      go_wp2_with fail
      clear hand hx
      have hx0 : (({ data := m.toArray } : ByteArray)[a]'ha0) = x0 := HX0.out
      have hx1 : (({ data := m.toArray } : ByteArray)[a + 1]'ha1) = x1 := HX1.out
      have hx2 : (({ data := m.toArray } : ByteArray)[a + 2]'ha2) = x2 := HX2.out
      have hx3 : (({ data := m.toArray } : ByteArray)[a + 3]'ha3) = x3 := HX3.out
      have h127 := H127.out
      have e1 : IntKind.i64.wrap ((a : Int) + 1) = (a : Int) + 1 := IntWalk.i64_in _ (by omega)
      have e2 : IntKind.i64.wrap ((a : Int) + 2) = (a : Int) + 2 := IntWalk.i64_in _ (by omega)
      have e3 : IntKind.i64.wrap ((a : Int) + 3) = (a : Int) + 3 := IntWalk.i64_in _ (by omega)
      have p0 : (0 : Int) ≤ (a : Int) := by omega
      have p1 : (0 : Int) ≤ (a : Int) + 1 := by omega
      have p2 : (0 : Int) ≤ (a : Int) + 2 := by omega
      have p3 : (0 : Int) ≤ (a : Int) + 3 := by omega
      have q0 : (a : Int) < 32 := by omega
      have q1 : (a : Int) + 1 < 32 := by omega
      have q2 : (a : Int) + 2 < 32 := by omega
      have q3 : (a : Int) + 3 < 32 := by omega
      have n1 : ((a : Int) + 1).toNat = a + 1 := by omega
      have n2 : ((a : Int) + 2).toNat = a + 2 := by omega
      have n3 : ((a : Int) + 3).toNat = a + 3 := by omega
      go_quiet (fail)
      have hww := word31' x0 x1 x2 x3
      rw [HV2.out] at hww
      rw [hww]
      clear hww hx0 hx1 hx2 hx3 h127 e1 e2 e3 p0 p1 p2 p3 q0 q1 q2 q3 n1 n2 n3 hmL
      have B3 : Hid (Below w.heap.size w (w2.drewN nq)) := below_drewN B2.out _
      generalize w2.drewN nq = w3 at B3 ⊢
      go_wp2_with fail
      have O3 : Hid (OwnF (w3.alloc (.cells #[] 5)) w.heap.size 1 (.slice (some ⟨w3.heap.size, 0, none⟩) 0 0) 0 []) := ownF_none _ _ _ 5 #[] B3.out.size (heap_new w3 _)
      go_loopw [10, 11] (fun dv pv wr => ∃ j : Nat, j ≤ 6 ∧ pv = .int .i64 ((100000 / 10 ^ j : Nat) : Int) ∧ OwnF wr w.heap.size 1 dv j (bytesOf ((Otp.six (V2 % 1000000)).take j)) ∧ Below w.heap.size w wr) (fun _ pv _ => (intOf pv).toNat)
      case atStart => exact ⟨0, by omega, by first | rfl | go_num, O3.out, bthen B3.out (balloc _ _)⟩
      case round =>
        obtain ⟨j, hj, rfl, ho, hb⟩ := hrel
        have HO := Lib.hid ho
        have HB := Lib.hid hb
        obtain ⟨pa, ca, rfl, hca, hma⟩ := ho.slice
        have hbs := hb.size
        clear O3 ho hb
        rcases (show j = 0 ∨ j = 1 ∨ j = 2 ∨ j = 3 ∨ j = 4 ∨ j = 5 ∨ j = 6 by omega) with rfl | rfl | rfl | rfl | rfl | rfl | rfl
        · rw [show ((100000 / 10 ^ 0 : Nat) : Int) = 100000 from rfl]
          have HD : Hid (bytesOf ((Otp.six (V2 % 1000000)).take (0 + 1)) = bytesOf ((Otp.six (V2 % 1000000)).take 0) ++ [.int .u8 (48 + (V2 : Int) / 100000 % 10)]) := by
            have h : bytesOf ((Otp.six (V2 % 1000000)).take (0 + 1)) = bytesOf ((Otp.six (V2 % 1000000)).take 0) ++ [.int .u8 ((UInt8.ofNat (48 + V2 % 1000000 / 100000 % 10)).toNat : Int)] := by first | rfl | (simp [Otp.six, bytesOf])
            rw [digit_u8, show (((V2 % 1000000 / 100000 % 10 : Nat) : Int)) = (V2 : Int) / 100000 % 10 by omega] at h
            exact h
          go_wp2_with (first | (at_builtin; go_must (refine wpList_append_ownF _ rfl (.tmp 64) (.tmp 71) 32 rfl w.heap.size 5 1 1 _ Tryd.byteInfo Tryd.underlying32 rfl (by decide) (.slice pa 0 ca) 0 (bytesOf ((Otp.six (V2 % 1000000)).take 0)) rfl (HO.out.touch (S := fun _ => False) (.of_below (balloc wr _)) (fun _ _ h => h)) ⟨wr.heap.size, 0, none⟩ 1 1 [.int .u8 (48 + (V2 : Int) / 100000 % 10)] rfl rfl (fun i u hi => by rw [addr_add, Nat.zero_add]; exact cell_of (heap_new wr _) (by simpa using hi)) (by intro u hu; simp at hu; subst hu; rfl) (by decide) (by unfold maxLen; omega) (by omega) (by simp; omega) ?_; intro v2 w4 ho2 hgr2 _; have HO2 := Lib.hid ho2; have HG2 := Lib.hid hgr2; clear ho2 hgr2)))
          have HBX : Hid (Below w.heap.size w w4) := by
            have h2 := bthen HB.out (balloc wr (.cells #[.int .u8 (48 + (V2 : Int) / 100000 % 10)] 5))
            exact h2.trans (touch_own' (touch_of_grown HG2.out) h2.size (fun k hk => (HO.out.lt k hk).1))
          refine ⟨⟨0 + 1, by omega, by first | rfl | go_num, by rw [HD.out]; exact HO2.out, HBX.out⟩, by simp [intOf]⟩
        · rw [show ((100000 / 10 ^ 1 : Nat) : Int) = 10000 from rfl]
          have HD : Hid (bytesOf ((Otp.six (V2 % 1000000)).take (1 + 1)) = bytesOf ((Otp.six (V2 % 1000000)).take 1) ++ [.int .u8 (48 + (V2 : Int) / 10000 % 10)]) := by
            have h : bytesOf ((Otp.six (V2 % 1000000)).take (1 + 1)) = bytesOf ((Otp.six (V2 % 1000000)).take 1) ++ [.int .u8 ((UInt8.ofNat (48 + V2 % 1000000 / 10000 % 10)).toNat : Int)] := by first | rfl | (simp [Otp.six, bytesOf])
            rw [digit_u8, show (((V2 % 1000000 / 10000 % 10 : Nat) : Int)) = (V2 : Int) / 10000 % 10 by omega] at h
            exact h
          go_wp2_with (first | (at_builtin; go_must (refine wpList_append_ownF _ rfl (.tmp 64) (.tmp 71) 32 rfl w.heap.size 5 1 1 _ Tryd.byteInfo Tryd.underlying32 rfl (by decide) (.slice pa 1 ca) 1 (bytesOf ((Otp.six (V2 % 1000000)).take 1)) rfl (HO.out.touch (S := fun _ => False) (.of_below (balloc wr _)) (fun _ _ h => h)) ⟨wr.heap.size, 0, none⟩ 1 1 [.int .u8 (48 + (V2 : Int) / 10000 % 10)] rfl rfl (fun i u hi => by rw [addr_add, Nat.zero_add]; exact cell_of (heap_new wr _) (by simpa using hi)) (by intro u hu; simp at hu; subst hu; rfl) (by decide) (by unfold maxLen; omega) (by omega) (by simp; omega) ?_; intro v2 w4 ho2 hgr2 _; have HO2 := Lib.hid ho2; have HG2 := Lib.hid hgr2; clear ho2 hgr2)))
          have HBX : Hid (Below w.heap.size w w4) := by
            have h2 := bthen HB.out (balloc wr (.cells #[.int .u8 (48 + (V2 : Int) / 10000 % 10)] 5))
            exact h2.trans (touch_own' (touch_of_grown HG2.out) h2.size (fun k hk => (HO.out.lt k hk).1))
          refine ⟨⟨1 + 1, by omega, by first | rfl | go_num, by rw [HD.out]; exact HO2.out, HBX.out⟩, by simp [intOf]⟩
        · rw [show ((100000 / 10 ^ 2 : Nat) : Int) = 1000 from rfl]
          have HD : Hid (bytesOf ((Otp.six (V2 % 1000000)).take (2 + 1)) = bytesOf ((Otp.six (V2 % 1000000)).take 2) ++ [.int .u8 (48 + (V2 : Int) / 1000 % 10)]) := by
            have h : bytesOf ((Otp.six (V2 % 1000000)).take (2 + 1)) = bytesOf ((Otp.six (V2 % 1000000)).take 2) ++ [.int .u8 ((UInt8.ofNat (48 + V2 % 1000000 / 1000 % 10)).toNat : Int)] := by first | rfl | (simp [Otp.six, bytesOf])
            rw [digit_u8, show (((V2 % 1000000 / 1000 % 10 : Nat) : Int)) = (V2 : Int) / 1000 % 10 by omega] at h
            exact h
          go_wp2_with (first | (at_builtin; go_must (refine wpList_append_ownF _ rfl (.tmp 64) (.tmp 71) 32 rfl w.heap.size 5 1 1 _ Tryd.byteInfo Tryd.underlying32 rfl (by decide) (.slice pa 2 ca) 2 (bytesOf ((Otp.six (V2 % 1000000)).take 2)) rfl (HO.out.touch (S := fun _ => False) (.of_below (balloc wr _)) (fun _ _ h => h)) ⟨wr.heap.size, 0, none⟩ 1 1 [.int .u8 (48 + (V2 : Int) / 1000 % 10)] rfl rfl (fun i u hi => by rw [addr_add, Nat.zero_add]; exact cell_of (heap_new wr _) (by simpa using hi)) (by intro u hu; simp at hu; subst hu; rfl) (by decide) (by unfold maxLen; omega) (by omega) (by simp; omega) ?_; intro v2 w4 ho2 hgr2 _; have HO2 := Lib.hid ho2; have HG2 := Lib.hid hgr2; clear ho2 hgr2)))
          have HBX : Hid (Below w.heap.size w w4) := by
            have h2 := bthen HB.out (balloc wr (.cells #[.int .u8 (48 + (V2 : Int) / 1000 % 10)] 5))
            exact h2.trans (touch_own' (touch_of_grown HG2.out) h2.size (fun k hk => (HO.out.lt k hk).1))
          refine ⟨⟨2 + 1, by omega, by first | rfl | go_num, by rw [HD.out]; exact HO2.out, HBX.out⟩, by simp [intOf]⟩
        · rw [show ((100000 / 10 ^ 3 : Nat) : Int) = 100 from rfl]
          have HD : Hid (bytesOf ((Otp.six (V2 % 1000000)).take (3 + 1)) = bytesOf ((Otp.six (V2 % 1000000)).take 3) ++ [.int .u8 (48 + (V2 : Int) / 100 % 10)]) := by
            have h : bytesOf ((Otp.six (V2 % 1000000)).take (3 + 1)) = bytesOf ((Otp.six (V2 % 1000000)).take 3) ++ [.int .u8 ((UInt8.ofNat (48 + V2 % 1000000 / 100 % 10)).toNat : Int)] := by first | rfl | (simp [Otp.six, bytesOf])
            rw [digit_u8, show (((V2 % 1000000 / 100 % 10 : Nat) : Int)) = (V2 : Int) / 100 % 10 by omega] at h
            exact h
          go_wp2_with (first | (at_builtin; go_must (refine wpList_append_ownF _ rfl (.tmp 64) (.tmp 71) 32 rfl w.heap.size 5 1 1 _ Tryd.byteInfo Tryd.underlying32 rfl (by decide) (.slice pa 3 ca) 3 (bytesOf ((Otp.six (V2 % 1000000)).take 3)) rfl (HO.out.touch (S := fun _ => False) (.of_below (balloc wr _)) (fun _ _ h => h)) ⟨wr.heap.size, 0, none⟩ 1 1 [.int .u8 (48 + (V2 : Int) / 100 % 10)] rfl rfl (fun i u hi => by rw [addr_add, Nat.zero_add]; exact cell_of (heap_new wr _) (by simpa using hi)) (by intro u hu; simp at hu; subst hu; rfl) (by decide) (by unfold maxLen; omega) (by omega) (by simp; omega) ?_; intro v2 w4 ho2 hgr2 _; have HO2 := Lib.hid ho2; have HG2 := Lib.hid hgr2; clear ho2 hgr2)))
          have HBX : Hid (Below w.heap.size w w4) := by
            have h2 := bthen HB.out (balloc wr (.cells #[.int .u8 (48 + (V2 : Int) / 100 % 10)] 5))
            exact h2.trans (touch_own' (touch_of_grown HG2.out) h2.size (fun k hk => (HO.out.lt k hk).1))
          refine ⟨⟨3 + 1, by omega, by first | rfl | go_num, by rw [HD.out]; exact HO2.out, HBX.out⟩, by simp [intOf]⟩
        · rw [show ((100000 / 10 ^ 4 : Nat) : Int) = 10 from rfl]
          have HD : Hid (bytesOf ((Otp.six (V2 % 1000000)).take (4 + 1)) = bytesOf ((Otp.six (V2 % 1000000)).take 4) ++ [.int .u8 (48 + (V2 : Int) / 10 % 10)]) := by
            have h : bytesOf ((Otp.six (V2 % 1000000)).take (4 + 1)) = bytesOf ((Otp.six (V2 % 1000000)).take 4) ++ [.int .u8 ((UInt8.ofNat (48 + V2 % 1000000 / 10 % 10)).toNat : Int)] := by first | rfl | (simp [Otp.six, bytesOf])
            rw [digit_u8, show (((V2 % 1000000 / 10 % 10 : Nat) : Int)) = (V2 : Int) / 10 % 10 by omega] at h
            exact h
          go_wp2_with (first | (at_builtin; go_must (refine wpList_append_ownF _ rfl (.tmp 64) (.tmp 71) 32 rfl w.heap.size 5 1 1 _ Tryd.byteInfo Tryd.underlying32 rfl (by decide) (.slice pa 4 ca) 4 (bytesOf ((Otp.six (V2 % 1000000)).take 4)) rfl (HO.out.touch (S := fun _ => False) (.of_below (balloc wr _)) (fun _ _ h => h)) ⟨wr.heap.size, 0, none⟩ 1 1 [.int .u8 (48 + (V2 : Int) / 10 % 10)] rfl rfl (fun i u hi => by rw [addr_add, Nat.zero_add]; exact cell_of (heap_new wr _) (by simpa using hi)) (by intro u hu; simp at hu; subst hu; rfl) (by decide) (by unfold maxLen; omega) (by omega) (by simp; omega) ?_; intro v2 w4 ho2 hgr2 _; have HO2 := Lib.hid ho2; have HG2 := Lib.hid hgr2; clear ho2 hgr2)))
          have HBX : Hid (Below w.heap.size w w4) := by
            have h2 := bthen HB.out (balloc wr (.cells #[.int .u8 (48 + (V2 : Int) / 10 % 10)] 5))
            exact h2.trans (touch_own' (touch_of_grown HG2.out) h2.size (fun k hk => (HO.out.lt k hk).1))
          refine ⟨⟨4 + 1, by omega, by first | rfl | go_num, by rw [HD.out]; exact HO2.out, HBX.out⟩, by simp [intOf]⟩
        · rw [show ((100000 / 10 ^ 5 : Nat) : Int) = 1 from rfl]
          have HD : Hid (bytesOf ((Otp.six (V2 % 1000000)).take (5 + 1)) = bytesOf ((Otp.six (V2 % 1000000)).take 5) ++ [.int .u8 (48 + (V2 : Int) / 1 % 10)]) := by
            have h : bytesOf ((Otp.six (V2 % 1000000)).take (5 + 1)) = bytesOf ((Otp.six (V2 % 1000000)).take 5) ++ [.int .u8 ((UInt8.ofNat (48 + V2 % 1000000 / 1 % 10)).toNat : Int)] := by first | rfl | (simp [Otp.six, bytesOf])
            rw [digit_u8, show (((V2 % 1000000 / 1 % 10 : Nat) : Int)) = (V2 : Int) / 1 % 10 by omega] at h
            exact h
          go_wp2_with (first | (at_builtin; go_must (refine wpList_append_ownF _ rfl (.tmp 64) (.tmp 71) 32 rfl w.heap.size 5 1 1 _ Tryd.byteInfo Tryd.underlying32 rfl (by decide) (.slice pa 5 ca) 5 (bytesOf ((Otp.six (V2 % 1000000)).take 5)) rfl (HO.out.touch (S := fun _ => False) (.of_below (balloc wr _)) (fun _ _ h => h)) ⟨wr.heap.size, 0, none⟩ 1 1 [.int .u8 (48 + (V2 : Int) / 1 % 10)] rfl rfl (fun i u hi => by rw [addr_add, Nat.zero_add]; exact cell_of (heap_new wr _) (by simpa using hi)) (by intro u hu; simp at hu; subst hu; rfl) (by decide) (by unfold maxLen; omega) (by omega) (by simp; omega) ?_; intro v2 w4 ho2 hgr2 _; have HO2 := Lib.hid ho2; have HG2 := Lib.hid hgr2; clear ho2 hgr2)))
          have HBX : Hid (Below w.heap.size w w4) := by
            have h2 := bthen HB.out (balloc wr (.cells #[.int .u8 (48 + (V2 : Int) % 10)] 5))
            exact h2.trans (touch_own' (touch_of_grown HG2.out) h2.size (fun k hk => (HO.out.lt k hk).1))
          refine ⟨⟨5 + 1, by omega, by first | rfl | go_num, by rw [HD.out]; exact HO2.out, HBX.out⟩, by simp [intOf]⟩
        · rw [show ((100000 / 10 ^ 6 : Nat) : Int) = 0 from rfl]
          have HO6 : Hid (OwnF wr w.heap.size 1 (.slice pa 6 ca) (Otp.six (V2 % 1000000)).length (bytesOf (Otp.six (V2 % 1000000)))) := HO.out
          go_wp2_with (first | (refine wpList_convert_string _ rfl 32 9 5 (.tmp 73) rfl Tryd.underlying32 Tryd.underlying5 Tryd.underlying9 rfl HO6.out ?_))
          go_ret
          exact ⟨by rw [HC.out]; rfl, HB.out⟩
end Go.Proofs.YtommbdlkmkphpaaDoor
