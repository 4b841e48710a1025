/- Walks of the document's side of chapter 04: Keys, ror, four. -/
import Derived.Test.YtommbdlkmkphpaaDoorRtD
import Derived.Test.YtommbdlkmkphpaaDoorShaM
namespace Go.Proofs.YtommbdlkmkphpaaDoor
open Go.RowKit
namespace Rt
theorem K_nat : Sha.K.map BitVec.toNat = K := by decide +kernel
theorem S_nat : Sha.start.list.map BitVec.toNat = S := by decide +kernel
theorem key_at (i : Nat) (h : i < pl.length) (h' : i < Sha.K.length) : root (pl[i]'h) 3 41 0 % 4294967296 = (Sha.K[i]'h').toNat := by
  have e := congrArg (fun l : List Nat => l[i]?) (keys_are.trans K_nat.symm)
  rw [List.getElem?_map, List.getElem?_map, List.getElem?_eq_getElem h, List.getElem?_eq_getElem h'] at e
  exact Option.some.inj e
theorem start_at (i : Nat) (h : i < (pl.take 8).length) (h' : i < Sha.start.list.length) : root ((pl.take 8)[i]'h) 2 41 0 % 4294967296 = (Sha.start.list[i]'h').toNat := by
  have e := congrArg (fun l : List Nat => l[i]?) (start_is.trans S_nat.symm)
  rw [List.getElem?_map, List.getElem?_map, List.getElem?_eq_getElem h, List.getElem?_eq_getElem h'] at e
  exact Option.some.inj e
end Rt
theorem wcells_append (l m : List U32) : wcells (l ++ m) = wcells l ++ wcells m := by simp [wcells]
theorem wcells_next (l : List U32) (i : Nat) (h : i < l.length) : wcells (l.take (i + 1)) = wcells (l.take i) ++ [.int .u32 (l[i].toNat : Int)] := by
  rw [List.take_succ_eq_append_getElem h, wcells_append]; rfl
theorem wcells_length (l : List U32) : (wcells l).length = l.length := by simp [wcells]
theorem wcells_get (l : List U32) (j : Nat) (h : j < l.length) : (wcells l)[j]? = some (.int .u32 (l[j].toNat : Int)) := by simp [wcells, h]
set_option maxHeartbeats 4000000 in
set_option maxRecDepth 100000 in
theorem rkeys_any (w : World) : Calls Tryd.prog 24 #[] w fun e w' => ∃ g cap, e = .returned (.slice (some ⟨g, 0, none⟩) 64 cap) ∧ 64 ≤ cap ∧ cap ≤ 9223372036854775807 ∧ RowV w' g (wcells Sha.K) ∧ w.heap.size ≤ g ∧ Below w.heap.size w w' := by
  have hp0 := primes_any 64 (w.alloc (.cells #[] 48)) (by decide) (by decide)
  rw [List.take_of_length_le (by rw [Rt.pl_length]; exact Nat.le_refl _)] at hp0
  have HP := Lib.hid hp0
  clear hp0
  go_enter Tryd.func24, Tryd.ntmps24
  go_wp2_with fail
  refine HP.out.mono ?_
  rintro e w1 ⟨gp, cp, rfl, hcp, hrp, hgp, hb⟩
  have O1 : Hid (OwnF w1 w.heap.size 1 (.slice (some ⟨w.heap.size, 0, none⟩) 0 0) 0 []) := ownF_none _ _ _ 48 #[] (Nat.le_refl _) (stays (heap_new w _) hb)
  have RP := Lib.hid hrp
  have B1 := Lib.hid (bthen (balloc w (.cells #[] 48)) hb)
  have HGP := Lib.hid hgp
  clear hrp hgp hb
  go_wp2_with fail
  go_loopw [1, 3] (fun lv iv wr => ∃ i : Nat, i ≤ 64 ∧ iv = .int .i64 i ∧ OwnF wr w.heap.size 1 lv i (wcells (Sha.K.take i)) ∧ Below w.heap.size w wr ∧ Row64 wr gp Rt.pl ∧ (∀ k, lv.ownBlock = some k → k ≠ gp)) (fun _ iv _ => 64 - (intOf iv).toNat)
  case atStart => exact ⟨0, by omega, rfl, O1.out, B1.out, RP.out, fun k hk he => by have := HGP.out; simp [Value.ownBlock] at hk; simp at this; omega⟩
  case round =>
    obtain ⟨i, hi, rfl, ho, hb, hrp, hne⟩ := hrel
    have HO := Lib.hid ho
    have HB := Lib.hid hb
    have HR := Lib.hid hrp
    have HNE := Lib.hid hne
    obtain ⟨pa, ca, rfl, hca, hma⟩ := ho.slice
    clear O1 ho hb hrp hne
    by_cases hlt : i < 64
    · have hlt' : (i : Int) < 64 := by omega
      have hip : i < Rt.pl.length := by rw [Rt.pl_length]; exact hlt
      have hiK : i < Sha.K.length := hlt
      have hkey := Rt.key_at i hip hiK
      have hx1 := Rt.pl_small _ (List.getElem_mem hip)
      have c1 := HR.out.at hip
      obtain ⟨x, hx⟩ : ∃ x, Rt.pl[i]'hip = x := ⟨_, rfl⟩
      rw [hx] at hkey hx1 c1
      have hr0 := root_any x 3 wr hx1.2 (by decide) (by decide)
      rw [hkey] at hr0
      have HN := Lib.hid (wcells_next Sha.K i hiK)
      obtain ⟨y, hy⟩ : ∃ y, Sha.K[i]'hiK = y := ⟨_, rfl⟩
      rw [hy] at hr0 HN
      have HROOT := Lib.hid hr0
      clear hx hkey hx1 hr0 hy
      go_wp2_with fail
      refine HROOT.out.mono ?_
      rintro e w2 ⟨rfl, hb2⟩
      have HO2 : Hid (OwnF w2 w.heap.size 1 (.slice pa i ca) i (wcells (Sha.K.take i))) := HO.out.touch (S := fun _ => False) (.of_below hb2) (fun _ _ h => h)
      have HB2 := Lib.hid (bthen HB.out hb2)
      have HR2 := Lib.hid (HR.out.below hb2)
      clear hb2 c1
      go_wp2_with (first | (at_builtin; go_must (refine wpList_append_ownF _ rfl (.tmp 10) (.tmp 16) 45 rfl w.heap.size 48 1 4 _ Tryd.info32 Tryd.underlying45 rfl (by decide) (.slice pa i ca) i (wcells (Sha.K.take i)) rfl (HO2.out.touch (S := fun _ => False) (.of_below (balloc w2 _)) (fun _ _ h => h)) ⟨w2.heap.size, 0, none⟩ 1 1 [.int .u32 (y.toNat : Int)] rfl rfl (fun i u hi => by rw [addr_add, Nat.zero_add]; exact cell_of (heap_new w2 _) (by simpa using hi)) (by intro u hu; simp at hu; subst hu; rfl) (by decide) (by unfold maxLen; omega) (by omega) (by have := HB2.out.size; simp; omega) ?_; intro v3 w3 ho3 hgr3 hbl3; have HO3 := Lib.hid ho3; have HG3 := Lib.hid hgr3; have HL3 := Lib.hid hbl3; clear ho3 hgr3 hbl3)))
      have T3 : Hid (Touch (fun b => (Value.slice pa i ca).ownBlock = some b) w2 w3) := (Touch.of_below (balloc w2 _)).trans (touch_of_grown HG3.out) (fun _ _ h => h)
      refine ⟨⟨i + 1, by omega, by go_num, by rw [HN.out]; exact HO3.out, HB2.out.trans (touch_own' T3.out HB2.out.size (fun k hk => (HO2.out.lt k hk).1)), HR2.out.touch T3.out (fun h => HNE.out _ h rfl), ?_⟩, by simp [intOf]; omega⟩
      intro k hk he
      rcases HL3.out with h | h
      · exact HNE.out k (h.symm.trans hk) he
      · rw [h] at hk
        have := HR2.out.1
        have := Option.some.inj hk
        simp at this
        omega
    · obtain rfl : i = 64 := by omega
      obtain ⟨g, rfl, hg, hrow⟩ := ownF_at HO.out (by decide)
      rw [List.take_of_length_le (by decide)] at hrow
      have HROW := Lib.hid hrow
      have HGG := Lib.hid hg
      clear hrow hg
      rw [show ((64 : Nat) : Int) = 64 from rfl]
      go_wp2_with fail
      go_ret
      exact ⟨g, ca, rfl, hca, hma, HROW.out, HGG.out, HB.out⟩
end Go.Proofs.YtommbdlkmkphpaaDoor
