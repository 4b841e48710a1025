/- Walk of the document's Stretch. -/
import Derived.Test.YtommbdlkmkphpaaRtH
namespace Go.Proofs.Ytommbdlkmkphpaa
open Go.RowKit
set_option maxHeartbeats 8000000 in
set_option maxRecDepth 100000 in
theorem rstretch_ok_any (pass salt : List UInt8) (r n : Nat) (w : World) (hp : pass.length ≤ 140737488355200) (hs : salt.length ≤ 140737488354000) (h1 : 1 ≤ r) (h2 : r ≤ 64) (h3 : 1 ≤ n) (h4 : n ≤ 96) :
    Calls Try.prog 15 #[.string ⟨pass.toArray⟩, .string ⟨salt.toArray⟩, .int .i64 r, .int .i64 n] w fun e w' => e = .returned (.tuple #[.string ⟨((Sha.chunks pass salt r 3).take n).toArray⟩, .int .i64 0]) ∧ Below w.heap.size w w' := by
  have hr1 : ¬ ((r : Int) < 1) := by omega
  have hr2 : ¬ (64 < (r : Int)) := by omega
  have hn1 : ¬ ((n : Int) < 1) := by omega
  have hn2 : ¬ (96 < (n : Int)) := by omega
  go_enter Try.func15, Try.ntmps15
  go_wp2_with fail
  refine (rkeys_any w).mono ?_
  rintro e w1 ⟨gk, ck, rfl, hck, hcm, hkr, _, b1⟩
  have B1 := Lib.hid b1
  have HK1 := Lib.hid hkr
  clear b1 hkr
  go_wp2_with fail
  have HO0 : Hid (OwnF (w1.alloc (.cells #[] 5)) w1.heap.size 1 (.slice (some ⟨w1.heap.size, 0, none⟩) 0 0) 0 []) := ownF_none _ _ _ 5 #[] (Nat.le_refl _) (heap_new w1 _)
  go_loopw [11, 12] (fun out j wr => ∃ m : Nat, m ≤ 3 ∧ 32 * m < n + 32 ∧ j = .int .i64 ((m : Int) + 1) ∧ OwnF wr w1.heap.size 1 out (32 * m) (bytesOf (Sha.chunks pass salt r m)) ∧ Below w1.heap.size w1 wr) (fun out _ _ => 128 - lenV out)
  case atStart => exact ⟨0, by omega, by omega, by go_num, HO0.out, balloc _ _⟩
  case round =>
    clear HO0
    obtain ⟨wo, hwo⟩ : ∃ wo, wo = wr := ⟨_, rfl⟩
    subst hwo
    obtain ⟨m, hm3, hmn, rfl, ho, hb⟩ := hrel
    have HO := Lib.hid ho
    have HBB := Lib.hid hb
    have HB : Hid (Below w.heap.size w wo) := bthen B1.out hb
    have HKo : Hid (RowV wo gk (wcells Sha.K)) := HK1.out.below hb
    obtain ⟨oa, ocap, rfl, hoc, hom⟩ := ho.slice
    clear ho hb
    by_cases hlt : 32 * m < n
    · have hlt' : ((32 * m : Nat) : Int) < n := by omega
      have HC := Lib.hid (Sha.chunks_length pass salt r m)
      obtain ⟨jw, hjw⟩ : ∃ jw : U32, jw = BitVec.ofNat 32 (m + 1) := ⟨_, rfl⟩
      have hjn : jw.toNat = m + 1 := by rw [hjw, BitVec.toNat_ofNat]; omega
      obtain ⟨F4, hF4⟩ : ∃ F4, Sha.big (m + 1) 4 = F4 := ⟨_, rfl⟩
      have hFL : F4.length = 4 := by rw [← hF4]; exact Sha.big_length _ _
      have hfour := four_any jw wo
      rw [hjn, hF4] at hfour
      have HFO := Lib.hid hfour
      obtain ⟨S1, hS1⟩ : ∃ S1, salt ++ F4 = S1 := ⟨_, rfl⟩
      have hSL : S1.length = salt.length + 4 := by rw [← hS1]; simp [hFL]
      have hap : (⟨salt.toArray⟩ : ByteArray) ++ ⟨F4.toArray⟩ = ⟨S1.toArray⟩ := by rw [← hS1]; exact bytes_append salt F4
      have HAP := Lib.hid hap
      have HS1 : Hid (salt ++ Sha.big (m + 1) 4 = S1) := by rw [hF4]; exact hS1
      have hSl : S1.length ≤ 140737488355000 := by omega
      have hcat : ¬ (9223372036854775807 < salt.length + F4.length) := by omega
      have HFL := Lib.hid hFL
      obtain ⟨U, hU⟩ : ∃ U, Sha.mac pass S1 = U := ⟨_, rfl⟩
      have UL : U.length = 32 := by rw [← hU]; exact Sha.mac_length _ _
      have HU := Lib.hid hU
      have HUL := Lib.hid UL
      clear hU UL hS1 hap hSL hFL hfour hjw hjn hF4
      go_wp2_with fail
      rw [show ((m : Int) + 1) = ((m + 1 : Nat) : Int) by omega]
      refine HFO.out.mono ?_
      rintro e w2 ⟨rfl, hr2, hb2⟩
      have HB2 := Lib.hid hb2
      have hcv := (show Blk w2 wo.heap.size F4 from ⟨hr2.1, fun j x hj => hr2.2 j _ (by simp [bytesOf, hj])⟩).string (n := 4) (cap := 4) (by rw [HFL.out]; exact Nat.le_refl _)
      rw [List.take_of_length_le (by rw [HFL.out]; exact Nat.le_refl _)] at hcv
      have hap := HAP.out
      have HK2 : Hid (RowV w2 gk (wcells Sha.K)) := HKo.out.below hb2
      clear hr2 hb2
      go_wp2_with fail
      clear hcv hap hcat
      refine (rmac_any pass S1 gk ck w2 HK2.out hck hcm hp hSl).mono ?_
      rw [HU.out]
      rintro e w3 ⟨rfl, hb3⟩
      have HB3 := Lib.hid (bthen HB2.out hb3)
      clear hb3
      go_wp2_with (first | (refine wpList_convert_bytes _ rfl 9 33 5 (.tmp 46) rfl Try.underlying9 Try.underlying33 Try.underlying5 U rfl (by rw [HUL.out]; decide) wo.heap.size HB3.out.size ?_; intro v4 w4 ho4 hb4 hv4; have HO4 := Lib.hid ho4; have HB4 := Lib.hid (HB3.out.trans (hb4.mono HB3.out.size)); have HV4 := Lib.hid hv4; clear ho4 hb4 hv4))
      obtain ⟨ga, gcap, rfl, _, _⟩ := HO4.out.slice
      rw [HUL.out] at HO4 ⊢
      obtain ⟨g, rfl, hg0, hg1⟩ := HO4.out.pos (by decide)
      have HG := Lib.hid hg0
      have HKB4 : Hid (Blk w4 g U) := Blk.own (by have h := HO4.out; exact h)
      have hr3 : (1 : Int) ≤ (r : Int) := by omega
      clear hg0 hg1 HV4
      have HK4 : Hid (RowV w4 gk (wcells Sha.K)) := HKo.out.below HB4.out
      go_loopw [13, 15] (fun u i wq => ∃ q : Nat, q + 1 ≤ r ∧ i = .int .i64 ((q : Int) + 1) ∧ u = .string ⟨(Sha.iter pass q (U, U)).1.toArray⟩ ∧ Blk wq g (Sha.iter pass q (U, U)).2 ∧ Below wo.heap.size wo wq) (fun _ i _ => r - (intOf i).toNat)
      case atStart => exact ⟨0, by omega, by go_num, rfl, HKB4.out, HB4.out⟩
      case round =>
        obtain ⟨wq, hwq⟩ : ∃ wq, wq = wr := ⟨_, rfl⟩
        subst hwq
        obtain ⟨q, hqr, rfl, rfl, hk, hb⟩ := hrel
        obtain ⟨hl1, hl2⟩ := Sha.iter_lengths pass q (U, U) HUL.out HUL.out
        have HIT := Lib.hid (Sha.iter_succ pass q (U, U))
        obtain ⟨V, hV⟩ : ∃ V, (Sha.iter pass q (U, U)).1 = V := ⟨_, rfl⟩
        obtain ⟨B, hB⟩ : ∃ B, (Sha.iter pass q (U, U)).2 = B := ⟨_, rfl⟩
        rw [hV] at hl1 HIT ⊢
        rw [hB] at hl2 hk HIT
        have HK := Lib.hid hk
        have HBQ := Lib.hid hb
        have HIV := Lib.hid hV
        have HIB := Lib.hid hB
        have HVL := Lib.hid hl1
        have HBL := Lib.hid hl2
        have hVl : V.length ≤ 140737488355000 := by omega
        clear hk hb hV hB hl1 hl2
        by_cases hq : q + 1 < r
        · have hq' : (q : Int) + 1 < (r : Int) := by omega
          obtain ⟨V2, hV2⟩ : ∃ V2, Sha.mac pass V = V2 := ⟨_, rfl⟩
          have hL2 : V2.length = 32 := by rw [← hV2]; exact Sha.mac_length _ _
          rw [hV2] at HIT
          have HV2 := Lib.hid hV2
          have HL2 := Lib.hid hL2
          clear hV2 hL2
          go_wp2_with (go_at_call 23; refine (rmac_any pass V gk ck wq (HKo.out.below HBQ.out) hck hcm hp hVl).mono ?_; rw [HV2.out]; rintro e w5 ⟨rfl, hb5⟩; have HB5 := Lib.hid (HBQ.out.trans (hb5.mono HBQ.out.size)); have HK5 := Lib.hid (HK.out.below hb5); clear hb5)
          go_loopw [16] (fun i wz => ∃ k : Nat, k ≤ 32 ∧ i = .int .i64 k ∧ Blk wz g (Sha.mixed B V2 k) ∧ Below wo.heap.size wo wz) (fun i _ => 32 - (intOf i).toNat)
          case atStart => exact ⟨0, by omega, rfl, by rw [Sha.mixed_zero]; exact HK5.out, HB5.out⟩
          case round =>
            obtain ⟨k, hk32, rfl, hk, hb⟩ := hrel
            have HK := Lib.hid hk
            have HBR := Lib.hid hb
            clear hk hb
            by_cases hkl : k < 32
            · have hk' : (k : Int) < 32 := by omega
              have hkV : k < V2.length := by rw [HL2.out]; exact hkl
              have hkV' : (k : Int) < (V2.length : Int) := by omega
              have HKB : Hid (k < B.length) := by have h : k < B.length := by { rw [HBL.out]; exact hkl }; exact h
              go_wp2_with fail
              refine region_tail 9 (by kernel_rfl) (by kernel_rfl) ?_
              intro wy hwy
              have hrow : Blk wy g (Sha.mixed B V2 k) := by rw [hwy.out]; exact ⟨HK.out.1, HK.out.2⟩
              have hat := Sha.mixed_at B V2 k (by rw [HBL.out, HL2.out]) HKB.out
              obtain ⟨c1, f1⟩ := hrow.2 k _ hat
              have HW := Lib.hid hrow
              clear hrow hat
              simp only [List.take_succ_cons, List.take_zero, List.drop_succ_cons, List.drop_zero]
              iterate 9 still_step
              refine wpStill_nil ?_
              go_wp2_with fail
              go_roundw
              case rel =>
                have hset := HW.out.set k ((B[k]'HKB.out) ^^^ (V2[k]'hkV))
                rw [Sha.mixed_set B V2 k (by rw [HBL.out, HL2.out]) HKB.out, ← u8_xor] at hset
                refine ⟨k + 1, by omega, by go_num, hset, ?_⟩
                rw [hwy.out]
                exact HBR.out.drew.setCell (by exact HG.out) _
              case measure => simp [intOf]; omega
            · obtain rfl : k = 32 := by omega
              rw [show ((32 : Nat) : Int) = 32 from rfl]
              have HK6 : Hid (Blk wr g (List.zipWith (· ^^^ ·) B V2)) := by
                have h := HK.out
                rw [show (32 : Nat) = B.length from HBL.out.symm, Sha.mixed_end B V2 (by rw [HBL.out, HL2.out])] at h
                exact h
              clear hkl hk32
              go_wp2_with fail
              go_roundw
              case rel => exact ⟨q + 1, by omega, by go_num, by rw [HIT.out], by rw [HIT.out]; exact HK6.out, HBR.out⟩
              case measure => simp [intOf]; omega
        · have hq1 : r - 1 = q := by omega
          have hq' : ¬ ((q : Int) + 1 < (r : Int)) := by omega
          have HCH : Hid (Sha.chunk pass salt r (m + 1) = B) := by
            have h : Sha.chunk pass salt r (m + 1) = (Sha.iter pass (r - 1) (Sha.mac pass (salt ++ Sha.big (m + 1) 4), Sha.mac pass (salt ++ Sha.big (m + 1) 4))).2 := rfl
            rw [HS1.out, HU.out, hq1, HIB.out] at h
            exact h
          clear hq1
          have HOQ : Hid (OwnF wq w1.heap.size 1 (.slice oa (32 * m) ocap) (32 * m) (bytesOf (Sha.chunks pass salt r m))) := HO.out.touch (S := fun _ => False) (.of_below HBQ.out) (fun _ _ h => h)
          have HSRC : Hid (∀ j u, (bytesOf B)[j]? = some u → wq.cell? ((⟨g, 0, none⟩ : Addr).add j) = some u) := fun j u hj => by
            rw [addr_add, Nat.zero_add]
            simp only [bytesOf, List.getElem?_map, Option.map_eq_some_iff] at hj
            obtain ⟨x, hx, rfl⟩ := hj
            exact (HK.out.2 j x hx).1
          have HONE : Hid (∀ u ∈ bytesOf B, u.oneCell' = true) := by
            intro u hu
            simp only [bytesOf, List.mem_map] at hu
            obtain ⟨x, _, rfl⟩ := hu
            rfl
          have HBW : Hid (Below w1.heap.size w1 wq) := bthen HBB.out HBQ.out
          clear hq
          go_wp2_with (first | (at_builtin; go_must (refine wpList_append_ownF _ rfl (.tmp 70) (.tmp 71) 33 rfl w1.heap.size 5 1 1 _ Try.byteInfo Try.underlying33 rfl (by decide) (.slice oa (32 * m) ocap) (32 * m) (bytesOf (Sha.chunks pass salt r m)) rfl HOQ.out ⟨g, 0, none⟩ 32 gcap (bytesOf B) rfl (by rw [bytesOf_length, HBL.out]) HSRC.out HONE.out (by decide) (by unfold maxLen; omega) (by omega) HBW.out.size ?_; intro v6 w6 ho6 hgr6 _; have HO6 := Lib.hid ho6; have HG6 := Lib.hid hgr6; clear ho6 hgr6)))
          obtain ⟨a6, cap6, rfl, _, _⟩ := HO6.out.slice
          go_roundw
          case rel =>
            refine ⟨m + 1, by omega, by omega, by go_num, ?_, ?_⟩
            · have h := HO6.out
              rw [← bytesOf_append, ← HCH.out] at h
              exact h
            · exact HBW.out.trans ((touch_of_grown HG6.out).below HBW.out.size (fun k hk e => by have := HOQ.out.lt k e; omega))
          case measure => simp [lenV]; omega
    · obtain ⟨g, rfl, hg0, hg1⟩ := HO.out.pos (by omega)
      have hlt' : (n : Int) ≤ ((32 * m : Nat) : Int) := by omega
      have hcap : (n : Int) ≤ (ocap : Int) := by omega
      have HC := Lib.hid (Sha.chunks_length pass salt r m)
      have hbk := (Blk.own (HC.out.symm ▸ HO.out)).string (n := n) (cap := ocap) (by rw [HC.out]; omega)
      rw [Sha.chunks_take pass salt r m n (by omega) hm3] at hbk
      clear hg0 hg1
      go_wp2_with fail
      go_ret2
      exact ⟨rfl, HB.out⟩

set_option maxHeartbeats 1000000 in
theorem rstretch_rounds_any (pass salt : List UInt8) (r n : Int) (w : World) (h : r < 1 ∨ 64 < r) :
    Calls Try.prog 15 #[.string ⟨pass.toArray⟩, .string ⟨salt.toArray⟩, .int .i64 r, .int .i64 n] w fun e w' => e = .returned (.tuple #[.string ⟨#[]⟩, .int .i64 40]) ∧ w = w' := by
  rcases h with h | h
  · go_enter Try.func15, Try.ntmps15
    go_wp2
    go_ret2
    exact ⟨rfl, rfl⟩
  · have h' : ¬ (r < 1) := by omega
    go_enter Try.func15, Try.ntmps15
    go_wp2
    go_ret2
    exact ⟨rfl, rfl⟩
set_option maxHeartbeats 1000000 in
theorem rstretch_long_any (pass salt : List UInt8) (r n : Int) (w : World) (h1 : 1 ≤ r) (h2 : r ≤ 64) (h : n < 1 ∨ 96 < n) :
    Calls Try.prog 15 #[.string ⟨pass.toArray⟩, .string ⟨salt.toArray⟩, .int .i64 r, .int .i64 n] w fun e w' => e = .returned (.tuple #[.string ⟨#[]⟩, .int .i64 41]) ∧ w = w' := by
  have hr1 : ¬ (r < 1) := by omega
  have hr2 : ¬ (64 < r) := by omega
  rcases h with h | h
  · go_enter Try.func15, Try.ntmps15
    go_wp2
    go_ret2
    exact ⟨rfl, rfl⟩
  · have h' : ¬ (n < 1) := by omega
    go_enter Try.func15, Try.ntmps15
    go_wp2
    go_ret2
    exact ⟨rfl, rfl⟩
theorem rstretch_any (pass salt : List UInt8) (r n : Int) (w : World) (hp : pass.length ≤ 140737488355200) (hs : salt.length ≤ 140737488354000) :
    Calls Try.prog 15 #[.string ⟨pass.toArray⟩, .string ⟨salt.toArray⟩, .int .i64 r, .int .i64 n] w fun e w' => e = .returned (.tuple #[.string ⟨(Sha.stretch pass salt r n).1.toArray⟩, .int .i64 (Sha.stretch pass salt r n).2]) ∧ Below w.heap.size w w' := by
  by_cases h : r < 1 ∨ 64 < r
  · refine (rstretch_rounds_any pass salt r n w h).mono ?_
    rintro e w' ⟨rfl, rfl⟩
    have : Sha.stretch pass salt r n = ([], 40) := by unfold Sha.stretch; rw [if_pos (by omega)]
    rw [this]
    exact ⟨rfl, Below.refl _ _⟩
  · by_cases h' : n < 1 ∨ 96 < n
    · refine (rstretch_long_any pass salt r n w (by omega) (by omega) h').mono ?_
      rintro e w' ⟨rfl, rfl⟩
      have : Sha.stretch pass salt r n = ([], 41) := by unfold Sha.stretch; rw [if_neg (by omega), if_pos (by omega)]
      rw [this]
      exact ⟨rfl, Below.refl _ _⟩
    · obtain ⟨R, rfl⟩ := Int.eq_ofNat_of_zero_le (show 0 ≤ r by omega)
      obtain ⟨N, rfl⟩ := Int.eq_ofNat_of_zero_le (show 0 ≤ n by omega)
      refine (rstretch_ok_any pass salt R N w hp hs (by omega) (by omega) (by omega) (by omega)).mono ?_
      rintro e w' ⟨rfl, hb⟩
      rw [Sha.stretch_ok pass salt R N (by omega) (by omega) (by omega) (by omega)]
      exact ⟨rfl, hb⟩
end Go.Proofs.Ytommbdlkmkphpaa
