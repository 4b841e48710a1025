/- Walk of Sum. -/
import Derived.Test.YtommbdlkmkphpaaDoorHshN
namespace Go.Proofs.YtommbdlkmkphpaaDoor
open Go.RowKit

def lenV : Value → Nat
  | .slice _ n _ => n
  | _ => 0
namespace Sha
theorem gap_lt (n j : Nat) (h : j < gap n) : (n + 1 + j) % 64 ≠ 56 := by unfold gap at h; omega
theorem gap_eq (n : Nat) : (n + 1 + gap n) % 64 = 56 := by unfold gap; omega
theorem gap_le (n : Nat) : gap n ≤ 63 := by unfold gap; omega
/-- What stands in Sum behind i blocks. -/
theorem blocks_step (ks : List U32) (s : St) (n i : Nat) (p : List UInt8) (h : i < n) : blocks ks s (n - i) (p.drop (64 * i)) = blocks ks (block ks s ((p.drop (64 * i)).take 64)) (n - (i + 1)) (p.drop (64 * (i + 1))) := by
  obtain ⟨m, hm⟩ : ∃ m, n - i = m + 1 := ⟨n - i - 1, by omega⟩
  rw [hm, blocks, List.drop_drop, show n - (i + 1) = m by omega, show 64 * i + 64 = 64 * (i + 1) by omega]
end Sha

/-- The first k words as bytes. -/
def outs (s : Sha.St) (k : Nat) : List UInt8 := (s.list.take k).flatMap fun x => Sha.big x.toNat 4
theorem outs_length (s : Sha.St) (k : Nat) (h : k ≤ 8) : (outs s k).length = 4 * k := by
  rcases (show k = 0 ∨ k = 1 ∨ k = 2 ∨ k = 3 ∨ k = 4 ∨ k = 5 ∨ k = 6 ∨ k = 7 ∨ k = 8 by omega) with rfl | rfl | rfl | rfl | rfl | rfl | rfl | rfl | rfl <;> simp [outs, Sha.St.list, Sha.big_length]
set_option maxHeartbeats 20000000 in
set_option maxRecDepth 100000 in
theorem sum_any (l : List UInt8) (w : World) (hl : l.length ≤ 140737488355200) :
    Calls Tryd.prog 20 #[.string ⟨l.toArray⟩] w fun e w' => e = .returned (.string ⟨(Sha.sum l).toArray⟩) ∧ Below w.heap.size w w' := by
  have hgap := Sha.gap_le l.length
  obtain ⟨G, hG⟩ : ∃ G, Sha.gap l.length = G := ⟨_, rfl⟩
  have HG := Lib.hid hG
  rw [hG] at hgap
  clear hG
  go_enter Tryd.func20, Tryd.ntmps20
  go_wp2_with (first | (refine wpList_convert_bytes _ rfl 9 32 5 (.tmp 9) rfl Tryd.underlying9 Tryd.underlying32 Tryd.underlying5 l rfl (by unfold maxLen; omega) w.heap.size (Nat.le_refl _) ?_; intro v1 w1 ho1 hb1 hv1; have HO1 := Lib.hid ho1; have HB1 := Lib.hid hb1; clear ho1 hb1 hv1) | (at_builtin; go_must (refine wpList_append_ownF _ rfl (.tmp 10) (.tmp 11) 32 rfl w.heap.size 5 1 1 _ Tryd.byteInfo Tryd.underlying32 rfl (by decide) v1 l.length (bytesOf l) rfl (HO1.out.touch (S := fun _ => False) (.of_below (balloc w1 _)) (fun _ _ h => h)) ⟨w1.heap.size, 0, none⟩ 1 1 [.int .u8 128] rfl rfl (fun i u hi => by rw [addr_add, Nat.zero_add]; exact cell_of (heap_new w1 _) (by simpa using hi)) (by intro u hu; simp at hu; subst hu; rfl) (by decide) (by unfold maxLen; omega) (by omega) (by have := HB1.out.size; simp; omega) ?_; intro v2 w2 ho2 hgr2 _; have HO2 := Lib.hid ho2; have HG2 := Lib.hid hgr2; clear ho2 hgr2)))
  have B2 : Hid (Below w.heap.size w w2) := by
    have h1 := HB1.out
    have hb := balloc w1 (.cells #[.int .u8 128] 5)
    have ht := touch_of_grown HG2.out
    have h2 := h1.trans (hb.mono h1.size)
    exact h2.trans (ht.below h2.size (fun k hk e => by have := HO1.out.lt k e; omega))
  clear HG2
  have o2 : OwnF w2 w.heap.size 1 v2 (l.length + 1 + 0) (bytesOf (l ++ [128] ++ List.replicate 0 0)) := by
    have := HO2.out
    simpa [bytesOf] using this
  have O2 := Lib.hid o2
  clear o2
  clear HO2 HO1 HB1
  go_loopw [3] (fun v wr => ∃ j : Nat, j ≤ G ∧ OwnF wr w.heap.size 1 v (l.length + 1 + j) (bytesOf (l ++ [128] ++ List.replicate j 0)) ∧ Below w.heap.size w wr) (fun v _ => l.length + 1 + G - lenV v)
  case atStart => exact ⟨0, by omega, O2.out, B2.out⟩
  case round =>
    clear O2 B2
    obtain ⟨j, hj, ho, hb⟩ := hrel
    have HO := Lib.hid ho
    have HB := Lib.hid hb
    have hbs := hb.size
    obtain ⟨ao, cap, rfl, hnc, hcm⟩ := ho.slice
    clear ho hb
    obtain ⟨n, hn⟩ : ∃ n, l.length + 1 + j = n := ⟨_, rfl⟩
    have hn1 : n ≤ l.length + 64 := by omega
    rw [hn] at HO hnc ⊢
    have HNN := Lib.hid hn
    by_cases hjg : j < G
    · have h56 : ¬ (n : Int) % 64 = 56 := by have := Sha.gap_lt l.length j (by rw [HG.out]; exact hjg); omega
      have h1 : (((n : Int) % 64) == 56) = false := by simp [h56]
      have h2 : (((n : Int) % 64) != 56) = true := by simp [h56]
      clear hn h56
      go_wp2_with (first | (at_builtin; go_must (refine wpList_append_ownF _ rfl (.tmp 17) (.tmp 18) 32 rfl w.heap.size 5 1 1 _ Tryd.byteInfo Tryd.underlying32 rfl (by decide) (.slice ao n cap) n (bytesOf (l ++ [128] ++ List.replicate j 0)) rfl (HO.out.touch (S := fun _ => False) (.of_below (balloc wr _)) (fun _ _ h => h)) ⟨wr.heap.size, 0, none⟩ 1 1 [.int .u8 0] rfl rfl (fun i u hi => by rw [addr_add, Nat.zero_add]; exact cell_of (heap_new wr _) (by simpa using hi)) (by intro u hu; simp at hu; subst hu; rfl) (by decide) (by unfold maxLen; omega) (by omega) (by simp; omega) ?_; intro v2 w2 ho2 hgr2 _; have HO2 := Lib.hid ho2; have HG2 := Lib.hid hgr2; clear ho2 hgr2)))
      obtain ⟨ao2, cap2, rfl, _, _⟩ := HO2.out.slice
      go_roundw
      case rel =>
        refine ⟨j + 1, by omega, ?_, ?_⟩
        · have := HO2.out
          rw [show l.length + 1 + (j + 1) = n + 1 by have := HNN.out; omega, List.replicate_succ', ← List.append_assoc, bytesOf_append]
          exact this
        · have hb := balloc wr (.cells #[.int .u8 0] 5)
          have h2 := HB.out.trans (hb.mono HB.out.size)
          exact h2.trans ((touch_of_grown HG2.out).below h2.size (fun k hk e => by have := HO.out.lt k e; omega))
      case measure =>
        have := HNN.out
        simp [lenV]; omega
    · obtain rfl : j = G := by omega
      have h56 : (n : Int) % 64 = 56 := by have := Sha.gap_eq l.length; rw [HG.out] at this; omega
      have h1 : (((n : Int) % 64) == 56) = true := by simp [h56]
      have h2 : (((n : Int) % 64) != 56) = false := by simp [h56]
      clear hn h56 hjg hj
      have HP : Hid (l ++ [128] ++ List.replicate j 0 ++ Sha.big (8 * l.length) 8 = Sha.pad l) := by rw [Sha.pad, HG.out]; exact rfl
      have hpl : (l ++ [128] ++ List.replicate j 0).length = n := by have := HNN.out; simp; omega
      have HPL := Lib.hid hpl
      clear hpl
      go_wp2_with fail
      rw [show (8 * (l.length : Int)) = ((8 * l.length : Nat) : Int) by omega]
      refine (big_any wr w.heap.size (.slice ao n cap) (l ++ [128] ++ List.replicate j 0) (8 * l.length) 8 (by rw [HPL.out]; exact HO.out) (by omega) (by rw [HPL.out]; omega) hbs).mono ?_
      rw [HP.out, HPL.out]
      rintro e w2 ⟨v2, rfl, ho2, ht2, _⟩
      have HB2 : Hid (Below w.heap.size w w2) := HB.out.trans (ht2.below HB.out.size (fun k hk e => by have := HO.out.lt k e; omega))
      obtain ⟨g, cap2, rfl, hg0, hg1, hnc2, hcm2, _, hcell⟩ := ho2.2.resolve_left (by rintro ⟨_, h⟩; omega)
      have HBY : Hid (BytesAt w2 g 0 (Sha.pad l)) := ⟨hg1, fun j x hx => by rw [Nat.zero_add]; exact hcell j _ (by simp [bytesOf, hx])⟩
      have HG0 := Lib.hid hg0
      have hcm3 : cap2 ≤ 9223372036854775807 := by unfold maxLen at hcm2; omega
      clear ho2 ht2 hcell hg0 hg1 hcm2 h1 h2 hnc HO
      go_wp2_with fail
      refine (keys_any w2).mono ?_
      rintro e w3 ⟨rfl, b3⟩
      have HBY3 := Lib.hid (HBY.out.below b3)
      have HB3 := Lib.hid (HB2.out.trans (b3.mono HB2.out.size))
      clear b3
      dsimp only
      iterate 3 go_step
      refine abs1 ?_
      intro w4 b4 n4
      have N4 := Lib.hid n4
      have HBY4 := Lib.hid (HBY3.out.below b4)
      have HB4 := Lib.hid (HB3.out.trans (b4.mono HB3.out.size))
      have HKB : Hid (w.heap.size ≤ w3.heap.size) := HB3.out.size
      obtain ⟨KB, hKB⟩ : ∃ KB, w3.heap.size = KB := ⟨_, rfl⟩
      rw [hKB] at N4 HKB ⊢
      have hgK : g < KB := by have := HBY3.out.1; omega
      clear n4 b4 hKB HBY3 HB3
      iterate 1 go_step
      refine wpList_store_row rfl 49 (.tmp 4) (.tmp 26) rfl KB (wcells Sha.K).toArray rfl rfl 49 _ N4.out Tryd.keysSize (by kernel_rfl) (wcells_one _) ?_
      refine abs_row N4.out ?_
      intro w5 t5 n5
      have HK5 : Hid (Words w5 KB 49 Sha.K) := n5
      have HB5 := Lib.hid (HB4.out.trans (t5.below HB4.out.size (fun k hk e => by have := HKB.out; omega)))
      have HBY5 : Hid (BytesAt w5 g 0 (Sha.pad l)) := ⟨by have := HBY4.out.1; have := t5.size; omega, fun j x hx => (World.cell?_of_block (a := ⟨g, 0 + j, none⟩) (t5.block g HBY4.out.1 (by omega))).trans (HBY4.out.2 j x hx)⟩
      clear n5 t5 N4 HB4 HBY4
      go_wp2_with fail
      refine abs1 ?_
      intro w6 b6 n6
      obtain ⟨SB, hSB⟩ : ∃ SB, w5.heap.size = SB := ⟨_, rfl⟩
      have hKS : KB < SB := by have := heap_lt HK5.out; omega
      have hgS : g < SB := by omega
      rw [hSB] at n6 ⊢
      have HS6 : Hid (w6.heap[SB]? = some (stO Sha.start)) := n6
      have HK6 : Hid (Words w6 KB 49 Sha.K) := stays HK5.out b6
      have HB6 := Lib.hid (HB5.out.trans (b6.mono HB5.out.size))
      have HBY6 := Lib.hid (HBY5.out.below b6)
      have HSS : Hid (w.heap.size ≤ SB) := by rw [← hSB]; exact HB5.out.size
      clear n6 b6 hSB HK5 HB5 HBY5
      have hpm := Sha.pad_mod l
      have hpl : (Sha.pad l).length = n + 8 := by rw [Sha.pad_length, HG.out]; have := HNN.out; omega
      obtain ⟨P, hP⟩ : ∃ P, Sha.pad l = P := ⟨_, rfl⟩
      rw [hP] at HBY6 hpm hpl
      have HPP := Lib.hid hP
      obtain ⟨M, hM⟩ : ∃ M, n + 8 = 64 * M := ⟨(n + 8) / 64, by omega⟩
      have HPM : Hid (P.length = 64 * M) := by rw [hpl]; exact hM
      have HMM := Lib.hid hM
      clear hP hpm hpl hM HPL HP HKB
      go_loopw [3] (fun v wr => ∃ (i o R c : Nat) (st : Sha.St), i ≤ M ∧ v = .slice (some ⟨g, o, none⟩) R c ∧ R + 64 * i = 64 * M ∧ R ≤ c ∧ c ≤ 9223372036854775807 ∧ (0 < R → o = 64 * i) ∧ wr.heap[SB]? = some (stO st) ∧ Sha.blocks Sha.K st (M - i) (P.drop (64 * i)) = Sha.blocks Sha.K Sha.start M P ∧ Touch (· = SB) w6 wr) (fun v _ => lenV v)
      case atStart => exact ⟨0, 0, n + 8, cap2, _, by omega, rfl, by have := HMM.out; omega, by have := HMM.out; omega, hcm3, fun _ => rfl, HS6.out, rfl, Touch.refl _ _⟩
      case round =>
        obtain ⟨i, o, R, c, st, hiM, rfl, hR, hRc, hcm, ho, hst, hbl, ht⟩ := hrel
        have HST := Lib.hid hst
        have HBK := Lib.hid hbl
        have HT := Lib.hid ht
        have HR := Lib.hid hR
        have HOO := Lib.hid ho
        clear hst hbl ht ho
        by_cases hR0 : 0 < R
        · obtain rfl := HOO.out hR0
          have hR64 : 64 ≤ R := by omega
          have hby : BytesAt wr g (64 * i) ((P.drop (64 * i)).take 64) := ⟨by have := HBY6.out.1; have := HT.out.size; omega, fun j x hx => by
            have hj : j < 64 := by have := (List.getElem?_eq_some_iff.1 hx).1; simp at this; omega
            rw [List.getElem?_take, if_pos hj, List.getElem?_drop] at hx
            have h1 := HBY6.out.2 (64 * i + j) x hx
            rw [Nat.zero_add] at h1
            exact (World.cell?_of_block (a := ⟨g, 64 * i + j, none⟩) (HT.out.block g HBY6.out.1 (by omega))).trans h1⟩
          have HBYR := Lib.hid hby
          have HKR : Hid (Words wr KB 49 Sha.K) := (HT.out.block KB (heap_lt HK6.out) (by omega)).trans HK6.out
          have HLEN : Hid (((P.drop (64 * i)).take 64).length = 64) := by
            have := HPM.out; have h2 : ((P.drop (64 * i)).take 64).length = 64 := by simp; omega
            exact h2
          obtain ⟨m0, m1, m2, m3, m4, m5, m6, m7⟩ := st_cells HST.out
          clear hby hR HOO
          have hcc : c = 64 ∨ c ≠ 64 := by omega
          have hc64 : (64 : Int) ≤ c := by omega
          have hR64' : (64 : Int) ≤ R := by omega
          go_wp2_with fail
          refine region_tail 3 (by kernel_rfl) (by kernel_rfl) ?_
          intro wy hwy
          have hsty : wy.heap[SB]? = some (stO st) := by rw [hwy.out]; exact HST.out
          obtain ⟨m0, m1, m2, m3, m4, m5, m6, m7⟩ := st_cells hsty
          have HSTY := Lib.hid hsty
          have HBYY : Hid (BytesAt wy g (64 * i) ((P.drop (64 * i)).take 64)) := by rw [hwy.out]; exact HBYR.out
          have HKY : Hid (Words wy KB 49 Sha.K) := by rw [hwy.out]; exact HKR.out
          have HTY : Hid (Touch (· = SB) w6 wy) := by rw [hwy.out]; exact HT.out.drew
          clear hsty
          simp only [List.take_succ_cons, List.take_zero, List.drop_succ_cons, List.drop_zero]
          iterate 3 still_step
          refine wpStill_nil ?_
          go_wp2_with fail
          refine (next_any wy st ((P.drop (64 * i)).take 64) g (64 * i) c KB Sha.K (by decide) HLEN.out (by omega) hcm HBYY.out HKY.out).mono ?_
          obtain ⟨st2, hst2⟩ : ∃ st2, Sha.block Sha.K st ((P.drop (64 * i)).take 64) = st2 := ⟨_, rfl⟩
          rw [hst2]
          have HST2 := Lib.hid hst2
          clear hst2
          rintro e wn ⟨rfl, bn⟩
          have HSTN : Hid (wn.heap[SB]? = some (stO st)) := stays HSTY.out bn
          have HTN := Lib.hid (HTY.out.trans (Touch.of_below (S := (· = SB)) bn) (fun _ _ h => h))
          clear bn m0 m1 m2 m3 m4 m5 m6 m7
          unfold stV
          dsimp only
          iterate 1 go_step
          refine wpList_store_row rfl 52 (.tmp 5) (.tmp 36) rfl SB (wcells st2.list).toArray rfl rfl 52 _ HSTN.out Tryd.stateSize rfl (wcells_one _) ?_
          refine abs_row HSTN.out ?_
          intro w9 t9 n9
          have N9 : Hid (w9.heap[SB]? = some (stO st2)) := n9
          have T9 := Lib.hid (HTN.out.trans t9 (fun _ _ h => h))
          clear n9 t9
          have hiM1 : i < M := by have := HR.out; omega
          have hstep := (Sha.blocks_step Sha.K st M i P hiM1).symm.trans HBK.out
          rw [HST2.out] at hstep
          have HSTEP := Lib.hid hstep
          clear hstep
          rcases hcc with hc | hc
          · subst hc
            obtain rfl : R = 64 := by omega
            go_wp2_with fail
            go_roundw
            case rel => exact ⟨i + 1, _, 0, 0, _, hiM1, rfl, by have := HR.out; omega, by omega, by omega, fun h => by omega, N9.out, HSTEP.out, T9.out⟩
            case measure => simp [lenV]
          · go_wp2_with fail
            go_roundw
            case rel => exact ⟨i + 1, _, R - 64, _, _, hiM1, rfl, by have := HR.out; omega, by omega, by omega, fun h => by omega, N9.out, HSTEP.out, T9.out⟩
            case measure => simp [lenV]; omega
        · obtain rfl : R = 0 := by omega
          obtain rfl : i = M := by have := HR.out; omega
          obtain ⟨st2, hst2⟩ : ∃ st2, Sha.blocks Sha.K Sha.start i P = st2 := ⟨_, rfl⟩
          have HRES : Hid (st = st2) := by
            have := HBK.out
            rw [hst2, Nat.sub_self] at this
            exact this
          have HSUM : Hid (Sha.sum l = st2.bytes) := by
            have h1 := HPP.out
            have h2 := HPM.out
            rw [Sha.sum, h1, h2, Nat.mul_div_cancel_left _ (by decide), hst2]; exact rfl
          clear hst2 hR HOO HBK
          obtain rfl := HRES.out
          have BW : Hid (Below w.heap.size w wr) := HB6.out.trans (HT.out.below HB6.out.size (fun k hk e => by have := HSS.out; omega))
          obtain ⟨m0, m1, m2, m3, m4, m5, m6, m7⟩ := st_cells HST.out
          have HRS := Tryd.results20
          clear HRS m0 m1 m2 m3 m4 m5 m6 m7
          have M0 := st_cells HST.out
          obtain ⟨m0, m1, m2, m3, m4, m5, m6, m7⟩ := M0
          have i0 : ∀ w, (Instr.index 52 (.agg #[.int .u32 st.a.toNat, .int .u32 st.b.toNat, .int .u32 st.c.toNat, .int .u32 st.d.toNat, .int .u32 st.e.toNat, .int .u32 st.f.toNat, .int .u32 st.g.toNat, .int .u32 st.h.toNat]) (.int .i64 0)).run Tryd.prog w = .ok (.int .u32 st.a.toNat) w := fun _ => by kernel_rfl
          have l0 := x_lt st.a
          have i1 : ∀ w, (Instr.index 52 (.agg #[.int .u32 st.a.toNat, .int .u32 st.b.toNat, .int .u32 st.c.toNat, .int .u32 st.d.toNat, .int .u32 st.e.toNat, .int .u32 st.f.toNat, .int .u32 st.g.toNat, .int .u32 st.h.toNat]) (.int .i64 1)).run Tryd.prog w = .ok (.int .u32 st.b.toNat) w := fun _ => by kernel_rfl
          have l1 := x_lt st.b
          have i2 : ∀ w, (Instr.index 52 (.agg #[.int .u32 st.a.toNat, .int .u32 st.b.toNat, .int .u32 st.c.toNat, .int .u32 st.d.toNat, .int .u32 st.e.toNat, .int .u32 st.f.toNat, .int .u32 st.g.toNat, .int .u32 st.h.toNat]) (.int .i64 2)).run Tryd.prog w = .ok (.int .u32 st.c.toNat) w := fun _ => by kernel_rfl
          have l2 := x_lt st.c
          have i3 : ∀ w, (Instr.index 52 (.agg #[.int .u32 st.a.toNat, .int .u32 st.b.toNat, .int .u32 st.c.toNat, .int .u32 st.d.toNat, .int .u32 st.e.toNat, .int .u32 st.f.toNat, .int .u32 st.g.toNat, .int .u32 st.h.toNat]) (.int .i64 3)).run Tryd.prog w = .ok (.int .u32 st.d.toNat) w := fun _ => by kernel_rfl
          have l3 := x_lt st.d
          have i4 : ∀ w, (Instr.index 52 (.agg #[.int .u32 st.a.toNat, .int .u32 st.b.toNat, .int .u32 st.c.toNat, .int .u32 st.d.toNat, .int .u32 st.e.toNat, .int .u32 st.f.toNat, .int .u32 st.g.toNat, .int .u32 st.h.toNat]) (.int .i64 4)).run Tryd.prog w = .ok (.int .u32 st.e.toNat) w := fun _ => by kernel_rfl
          have l4 := x_lt st.e
          have i5 : ∀ w, (Instr.index 52 (.agg #[.int .u32 st.a.toNat, .int .u32 st.b.toNat, .int .u32 st.c.toNat, .int .u32 st.d.toNat, .int .u32 st.e.toNat, .int .u32 st.f.toNat, .int .u32 st.g.toNat, .int .u32 st.h.toNat]) (.int .i64 5)).run Tryd.prog w = .ok (.int .u32 st.f.toNat) w := fun _ => by kernel_rfl
          have l5 := x_lt st.f
          have i6 : ∀ w, (Instr.index 52 (.agg #[.int .u32 st.a.toNat, .int .u32 st.b.toNat, .int .u32 st.c.toNat, .int .u32 st.d.toNat, .int .u32 st.e.toNat, .int .u32 st.f.toNat, .int .u32 st.g.toNat, .int .u32 st.h.toNat]) (.int .i64 6)).run Tryd.prog w = .ok (.int .u32 st.g.toNat) w := fun _ => by kernel_rfl
          have l6 := x_lt st.g
          have i7 : ∀ w, (Instr.index 52 (.agg #[.int .u32 st.a.toNat, .int .u32 st.b.toNat, .int .u32 st.c.toNat, .int .u32 st.d.toNat, .int .u32 st.e.toNat, .int .u32 st.f.toNat, .int .u32 st.g.toNat, .int .u32 st.h.toNat]) (.int .i64 7)).run Tryd.prog w = .ok (.int .u32 st.h.toNat) w := fun _ => by kernel_rfl
          have l7 := x_lt st.h
          go_wp2_with fail
          clear m0 m1 m2 m3 m4 m5 m6 m7
          go_loopw [6, 38] (fun v iv wr => ∃ (k : Nat), iv = .int .i64 k ∧ k ≤ 8 ∧ OwnF wr w.heap.size 1 v (4 * k) (bytesOf (outs st k)) ∧ Below w.heap.size w wr) (fun _ iv _ => 8 - (intOf iv).toNat)
          case atStart => exact ⟨0, rfl, by omega, ⟨rfl, .inl ⟨rfl, rfl⟩⟩, BW.out⟩
          case round =>
            obtain ⟨k, rfl, hk8, ho, hb⟩ := hrel
            have HO := Lib.hid ho
            have HBW := Lib.hid hb
            clear ho hb
            by_cases hkl : k < 8
            · rcases (show k = 0 ∨ k = 1 ∨ k = 2 ∨ k = 3 ∨ k = 4 ∨ k = 5 ∨ k = 6 ∨ k = 7 by omega) with rfl | rfl | rfl | rfl | rfl | rfl | rfl | rfl
              all_goals clear hkl hk8
              · skip
                go_wp2_with (first | (go_at_call 26; refine (big_any wr w.heap.size u6 (outs st 0) st.a.toNat 4 (by rw [outs_length st 0 (by decide)]; exact HO.out) (by decide) (by rw [outs_length st 0 (by decide)]; decide) HBW.out.size).mono ?_; rw [outs_length st 0 (by decide)]; rintro e wv ⟨v', rfl, ho2, ht2, _⟩; have HO2 := Lib.hid ho2; have HT2 := Lib.hid ht2; clear ho2 ht2))
                go_roundw
                case rel => exact ⟨0 + 1, by go_num, by omega, HO2.out, HBW.out.trans (HT2.out.below HBW.out.size (fun k hk e => by have := HO.out.lt k e; omega))⟩
                case measure => simp [intOf]
              · skip
                go_wp2_with (first | (go_at_call 26; refine (big_any wr w.heap.size u6 (outs st 1) st.b.toNat 4 (by rw [outs_length st 1 (by decide)]; exact HO.out) (by decide) (by rw [outs_length st 1 (by decide)]; decide) HBW.out.size).mono ?_; rw [outs_length st 1 (by decide)]; rintro e wv ⟨v', rfl, ho2, ht2, _⟩; have HO2 := Lib.hid ho2; have HT2 := Lib.hid ht2; clear ho2 ht2))
                go_roundw
                case rel => exact ⟨1 + 1, by go_num, by omega, HO2.out, HBW.out.trans (HT2.out.below HBW.out.size (fun k hk e => by have := HO.out.lt k e; omega))⟩
                case measure => simp [intOf]
              · skip
                go_wp2_with (first | (go_at_call 26; refine (big_any wr w.heap.size u6 (outs st 2) st.c.toNat 4 (by rw [outs_length st 2 (by decide)]; exact HO.out) (by decide) (by rw [outs_length st 2 (by decide)]; decide) HBW.out.size).mono ?_; rw [outs_length st 2 (by decide)]; rintro e wv ⟨v', rfl, ho2, ht2, _⟩; have HO2 := Lib.hid ho2; have HT2 := Lib.hid ht2; clear ho2 ht2))
                go_roundw
                case rel => exact ⟨2 + 1, by go_num, by omega, HO2.out, HBW.out.trans (HT2.out.below HBW.out.size (fun k hk e => by have := HO.out.lt k e; omega))⟩
                case measure => simp [intOf]
              · skip
                go_wp2_with (first | (go_at_call 26; refine (big_any wr w.heap.size u6 (outs st 3) st.d.toNat 4 (by rw [outs_length st 3 (by decide)]; exact HO.out) (by decide) (by rw [outs_length st 3 (by decide)]; decide) HBW.out.size).mono ?_; rw [outs_length st 3 (by decide)]; rintro e wv ⟨v', rfl, ho2, ht2, _⟩; have HO2 := Lib.hid ho2; have HT2 := Lib.hid ht2; clear ho2 ht2))
                go_roundw
                case rel => exact ⟨3 + 1, by go_num, by omega, HO2.out, HBW.out.trans (HT2.out.below HBW.out.size (fun k hk e => by have := HO.out.lt k e; omega))⟩
                case measure => simp [intOf]
              · skip
                go_wp2_with (first | (go_at_call 26; refine (big_any wr w.heap.size u6 (outs st 4) st.e.toNat 4 (by rw [outs_length st 4 (by decide)]; exact HO.out) (by decide) (by rw [outs_length st 4 (by decide)]; decide) HBW.out.size).mono ?_; rw [outs_length st 4 (by decide)]; rintro e wv ⟨v', rfl, ho2, ht2, _⟩; have HO2 := Lib.hid ho2; have HT2 := Lib.hid ht2; clear ho2 ht2))
                go_roundw
                case rel => exact ⟨4 + 1, by go_num, by omega, HO2.out, HBW.out.trans (HT2.out.below HBW.out.size (fun k hk e => by have := HO.out.lt k e; omega))⟩
                case measure => simp [intOf]
              · skip
                go_wp2_with (first | (go_at_call 26; refine (big_any wr w.heap.size u6 (outs st 5) st.f.toNat 4 (by rw [outs_length st 5 (by decide)]; exact HO.out) (by decide) (by rw [outs_length st 5 (by decide)]; decide) HBW.out.size).mono ?_; rw [outs_length st 5 (by decide)]; rintro e wv ⟨v', rfl, ho2, ht2, _⟩; have HO2 := Lib.hid ho2; have HT2 := Lib.hid ht2; clear ho2 ht2))
                go_roundw
                case rel => exact ⟨5 + 1, by go_num, by omega, HO2.out, HBW.out.trans (HT2.out.below HBW.out.size (fun k hk e => by have := HO.out.lt k e; omega))⟩
                case measure => simp [intOf]
              · skip
                go_wp2_with (first | (go_at_call 26; refine (big_any wr w.heap.size u6 (outs st 6) st.g.toNat 4 (by rw [outs_length st 6 (by decide)]; exact HO.out) (by decide) (by rw [outs_length st 6 (by decide)]; decide) HBW.out.size).mono ?_; rw [outs_length st 6 (by decide)]; rintro e wv ⟨v', rfl, ho2, ht2, _⟩; have HO2 := Lib.hid ho2; have HT2 := Lib.hid ht2; clear ho2 ht2))
                go_roundw
                case rel => exact ⟨6 + 1, by go_num, by omega, HO2.out, HBW.out.trans (HT2.out.below HBW.out.size (fun k hk e => by have := HO.out.lt k e; omega))⟩
                case measure => simp [intOf]
              · skip
                go_wp2_with (first | (go_at_call 26; refine (big_any wr w.heap.size u6 (outs st 7) st.h.toNat 4 (by rw [outs_length st 7 (by decide)]; exact HO.out) (by decide) (by rw [outs_length st 7 (by decide)]; decide) HBW.out.size).mono ?_; rw [outs_length st 7 (by decide)]; rintro e wv ⟨v', rfl, ho2, ht2, _⟩; have HO2 := Lib.hid ho2; have HT2 := Lib.hid ht2; clear ho2 ht2))
                go_roundw
                case rel => exact ⟨7 + 1, by go_num, by omega, HO2.out, HBW.out.trans (HT2.out.below HBW.out.size (fun k hk e => by have := HO.out.lt k e; omega))⟩
                case measure => simp [intOf]
            · obtain rfl : k = 8 := by omega
              clear hkl hk8
              rw [show ((8 : Nat) : Int) = 8 from rfl]
              have HO8 : Hid (OwnF wr w.heap.size 1 u6 st.bytes.length (bytesOf st.bytes)) := by
                rw [Sha.St.bytes_length]; exact HO.out
              go_wp2_with (first | (refine wpList_convert_string _ rfl 32 9 5 (.tmp 46) rfl Tryd.underlying32 Tryd.underlying5 Tryd.underlying9 rfl HO8.out ?_))
              go_ret
              exact ⟨congrArg (fun b : List UInt8 => Ending.returned (.string ⟨b.toArray⟩)) HSUM.out.symm, HBW.out⟩
end Go.Proofs.YtommbdlkmkphpaaDoor
