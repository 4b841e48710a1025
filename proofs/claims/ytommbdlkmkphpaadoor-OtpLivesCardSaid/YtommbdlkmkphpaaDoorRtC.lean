/- Walks of the document's side of chapter 04: Root. -/
import Derived.Test.YtommbdlkmkphpaaDoorRtB
namespace Go.Proofs.YtommbdlkmkphpaaDoor
open Go.RowKit
namespace Rt
theorem dig3 (y : Nat) (h : y < 281474976710656) : Dig [y % 65536, y / 65536 % 65536, y / 4294967296] ∧ val [y % 65536, y / 65536 % 65536, y / 4294967296] = y := by
  refine ⟨fun z hz => ?_, ?_⟩
  · simp only [List.mem_cons, List.not_mem_nil, or_false] at hz
    omega
  · simp only [val]; omega
end Rt
theorem and32 (S : Nat) (h : S < 18446744073709551616) : bits .and .u64 (S : Int) 4294967295 = ((S % 4294967296 : Nat) : Int) := by
  have := u64_and_nat S 4294967295 h (by decide)
  rw [show ((4294967295 : Nat) : Int) = 4294967295 from rfl] at this
  rw [this, show (4294967295 : Nat) = 2 ^ 32 - 1 from rfl, Nat.and_two_pow_sub_one_eq_mod]
set_option maxHeartbeats 4000000 in
set_option maxRecDepth 100000 in
theorem root_any (p n : Nat) (w : World) (hp : p < 65536) (hn1 : 1 ≤ n) (hn : n ≤ 8) :
    Calls Tryd.prog 35 #[.int .u64 p, .int .i64 n] w fun e w' => e = .returned (.int .u32 ((Rt.root p n 41 0 % 4294967296 : Nat) : Int)) ∧ Below w.heap.size w w' := by
  obtain ⟨R, hR⟩ : ∃ R, Rt.root p n 41 0 = R := ⟨_, rfl⟩
  have HR0 := Lib.hid hR
  rw [hR]
  clear hR
  go_enter Tryd.func35, Tryd.ntmps35
  go_wp2_with fail
  go_loopw [5, 6] (fun xv kv wr => ∃ j x : Nat, j ≤ 41 ∧ kv = .int .i64 ((j : Int) - 1) ∧ xv = .int .u64 (x : Int) ∧ Hid (Rt.root p n j x = R) ∧ Hid (x + 2 ^ j ≤ 2199023255552) ∧ Below w.heap.size w wr) (fun _ kv _ => ((intOf kv) + 1).toNat)
  case atStart => exact ⟨41, 0, by omega, rfl, rfl, HR0, Lib.hid (by decide), Below.refl _ _⟩
  case round =>
    obtain ⟨wo, hwo⟩ : ∃ wo, wo = wr := ⟨_, rfl⟩
    subst hwo
    obtain ⟨j, x, hj, rfl, rfl, HR, HX, hb⟩ := hrel
    have HBW := Lib.hid hb
    clear hb
    cases j with
    | zero =>
      have hx : x < 2199023255552 := by have h : x + 2 ^ 0 ≤ 2199023255552 := HX.out; omega
      have HRX : Hid (x = R) := HR.out
      have hand := and32 x (by omega)
      rw [show ((0 : Nat) : Int) - 1 = -1 from rfl]
      go_wp2_with fail
      go_ret
      exact ⟨by rw [← HRX.out]; first | rfl | (congr 1; omega), HBW.out⟩
    | succ k =>
      obtain ⟨t, ht⟩ : ∃ t, 2 ^ k = t := ⟨_, rfl⟩
      have hxt : x + 2 * t ≤ 2199023255552 := by have h : x + 2 ^ (k + 1) ≤ 2199023255552 := HX.out; rw [Nat.pow_succ, ht] at h; omega
      have HT := Lib.hid ht
      have hsh : (2 : Int) ^ k = (t : Int) := by rw [← ht]; simp
      rw [show (((k + 1 : Nat) : Int) - 1) = (k : Int) by omega]
      have hk0 : (0 : Int) ≤ (k : Int) := by omega
      clear ht
      go_wp2_with fail
      obtain ⟨y, hy⟩ : ∃ y, x + t = y := ⟨_, rfl⟩
      have hyl : y < 281474976710656 := by omega
      rw [show ((x : Int) + (t : Int)) = ((y : Nat) : Int) by omega, and16 y (by omega), show ((y : Int) / 65536) = ((y / 65536 : Nat) : Int) by omega, and16 (y / 65536) (by omega), show ((y : Int) / 4294967296) = ((y / 4294967296 : Nat) : Int) by omega]
      have HY := Lib.hid hy
      clear hy
      obtain ⟨hd1, hd2⟩ := Rt.dig3 y hyl
      obtain ⟨q1, hq1⟩ : ∃ q1, y / 65536 = q1 := ⟨_, rfl⟩
      rw [hq1] at hd1 hd2 ⊢
      obtain ⟨d0, hd0⟩ : ∃ d0, y % 65536 = d0 := ⟨_, rfl⟩
      obtain ⟨d1, hd1'⟩ : ∃ d1, q1 % 65536 = d1 := ⟨_, rfl⟩
      obtain ⟨d2, hd2'⟩ : ∃ d2, y / 4294967296 = d2 := ⟨_, rfl⟩
      rw [hd0, hd1', hd2'] at hd1 hd2 ⊢
      clear hq1 hd0 hd1' hd2'
      obtain ⟨wD, hwD⟩ : ∃ wD, wD = (wo.alloc (.cells #[.int .u64 (d0 : Int), .int .u64 (d1 : Int), .int .u64 (d2 : Int)] 34)).alloc (.cells #[.int .u64 1] 34) := ⟨_, rfl⟩
      have hrd : Row64 wD wo.heap.size [d0, d1, d2] := by
        have h : Row64 (wo.alloc (.cells #[.int .u64 (d0 : Int), .int .u64 (d1 : Int), .int .u64 (d2 : Int)] 34)) wo.heap.size [d0, d1, d2] := RowV.block (heap_new wo _)
        rw [hwD]
        exact h.below (balloc _ _)
      have hra : Row64 wD (wo.heap.size + 1) [1] := by
        have h := heap_new (wo.alloc (.cells #[.int .u64 (d0 : Int), .int .u64 (d1 : Int), .int .u64 (d2 : Int)] 34)) (.cells #[.int .u64 1] 34)
        rw [World.size_alloc] at h
        rw [hwD]
        exact RowV.block h
      have hbd : Below wo.heap.size wo wD := by rw [hwD]; exact bthen (balloc _ _) (balloc _ _)
      rw [← hwD]
      obtain ⟨D, hD⟩ : ∃ D, [d0, d1, d2] = D := ⟨_, rfl⟩
      have hDl : D.length = 3 := by rw [← hD]; rfl
      rw [hD] at hrd hd1 hd2
      have RD := Lib.hid hrd
      have RA := Lib.hid hra
      have BD := Lib.hid hbd
      have DD := Lib.hid hd1
      have VD := Lib.hid hd2
      have LD := Lib.hid hDl
      clear hwD hrd hra hbd hd1 hd2 hD hDl
      go_loopw [9, 10] (fun av iv wz => ∃ (i g ca L : Nat) (A : List Nat), i ≤ n ∧ iv = .int .i64 i ∧ av = .slice (some ⟨g, 0, none⟩) L ca ∧ L = 1 + 3 * i ∧ L ≤ ca ∧ Hid (Row64 wz g A ∧ A.length = L ∧ Rt.Dig A ∧ Rt.val A = y ^ i) ∧ Below wD.heap.size wD wz) (fun _ iv _ => n - (intOf iv).toNat)
      case atStart => exact ⟨0, wo.heap.size + 1, 1, 1, [1], by omega, rfl, rfl, rfl, by omega, Lib.hid ⟨RA.out, rfl, fun z hz => by simp at hz; omega, rfl⟩, Below.refl _ _⟩
      case round =>
        obtain ⟨i, g, ca, L, A, hi, rfl, rfl, hL, hLc, HA, hb⟩ := hrel
        have HBZ := Lib.hid hb
        have HRD := Lib.hid (RD.out.below hb)
        have HLL := Lib.hid hL
        have hl100 : L + 3 ≤ 100 := by omega
        have hL2 : 2 * i < L := by omega
        clear hb hL
        by_cases hin : i < n
        · have hin' : (i : Int) < (n : Int) := by omega
          have hc := times_any wr g wo.heap.size ca 3 A D HA.out.1 HRD.out HA.out.2.2.1 DD.out (by rw [HA.out.2.1, LD.out]; exact hl100) (by rw [HA.out.2.1]; exact hLc) (by rw [LD.out]; exact Nat.le_refl _) (by rw [LD.out]; decide)
          rw [HA.out.2.1, LD.out] at hc
          have HC := Lib.hid hc
          clear hc
          go_wp2_with fail
          refine HC.out.mono ?_
          rintro e w3 ⟨g2, C, rfl, hr3, hl3, hd3, hv3, hb3⟩
          have HC3 : Hid (Row64 w3 g2 C ∧ C.length = L + 3 ∧ Rt.Dig C ∧ Rt.val C = y ^ (i + 1)) := ⟨hr3, hl3, hd3, by rw [hv3, HA.out.2.2.2, VD.out, Nat.pow_succ]⟩
          have HB3 := Lib.hid (bthen HBZ.out hb3)
          clear hr3 hl3 hd3 hv3 hb3
          go_wp2_with fail
          go_roundw
          case rel => exact ⟨i + 1, g2, L + 3, L + 3, C, by omega, by go_num, rfl, by have := HLL.out; omega, by omega, HC3, HB3.out⟩
          case measure => simp [intOf]; omega
        · obtain rfl : i = n := by omega
          have hc := above_any wr g ca A p i HA.out.1 HA.out.2.2.1 hp (by rw [HA.out.2.1]; exact hL2) (by rw [HA.out.2.1]; omega) (by rw [HA.out.2.1]; exact hLc)
          rw [HA.out.2.1, HA.out.2.2.2] at hc
          have HROOT : Hid (Rt.root p i (k + 1) x = Rt.root p i k (if y ^ i ≤ p * 65536 ^ (2 * i) then y else x)) := by
            have h : Rt.root p i (k + 1) x = Rt.root p i k (if (x + 2 ^ k) ^ i ≤ p * 65536 ^ (2 * i) then x + 2 ^ k else x) := rfl
            rw [HT.out, HY.out] at h
            exact h
          have HBE : Hid (Below w.heap.size w wr) := bthen HBW.out (bthen BD.out HBZ.out)
          by_cases hle : y ^ i ≤ p * 65536 ^ (2 * i)
          · rw [show decide (p * 65536 ^ (2 * i) < y ^ i) = false from decide_eq_false (by omega)] at hc
            have HC := Lib.hid hc
            have HN : Hid (Rt.root p i k y = R) := by have h := HROOT.out; rw [if_pos hle, HR.out] at h; exact h.symm
            clear hc hin
            go_wp2_with fail
            refine HC.out.mono ?_
            rintro e w3 ⟨rfl, rfl⟩
            go_wp2_with fail
            refine ⟨⟨k, y, by omega, rfl, rfl, HN, Lib.hid (by have h1 := HY.out; have h2 := HT.out; omega), HBE.out⟩, by simp [intOf]⟩
          · rw [show decide (p * 65536 ^ (2 * i) < y ^ i) = true from decide_eq_true (by omega)] at hc
            have HC := Lib.hid hc
            have HN : Hid (Rt.root p i k x = R) := by have h := HROOT.out; rw [if_neg hle, HR.out] at h; exact h.symm
            clear hc hin
            go_wp2_with fail
            refine HC.out.mono ?_
            rintro e w3 ⟨rfl, rfl⟩
            go_wp2_with fail
            refine ⟨⟨k, x, by omega, rfl, rfl, HN, Lib.hid (by have h2 := HT.out; omega), HBE.out⟩, by simp [intOf]⟩
end Go.Proofs.YtommbdlkmkphpaaDoor
