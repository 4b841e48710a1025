/- The document's Does. The program's reader: take. The reading of changes, as the document does it and as the program does it: plain laws. -/
import Derived.Test.YtpjpknndfhablaaGreatK7
namespace Go.Proofs.YtpjpknndfhablaaGreat
open Go.RowKit
namespace Sto
theorem steps_append : ∀ (a b : List Ch) (l : Pairs), steps l (a ++ b) = (steps l a).bind fun m => steps m b
  | [], b, l => rfl
  | c :: a, b, l => by
    simp only [List.cons_append, steps]
    cases step l c with
    | none => rfl
    | some m => exact steps_append a b m
theorem steps_take {l m : Pairs} {c : List Ch} {j : Nat} {x : Ch} (h : steps l (c.take j) = some m) (hx : c[j]? = some x) : steps l (c.take (j + 1)) = step m x := by
  rw [List.take_add_one, hx, steps_append, h]
  simp only [Option.toList_some, Option.bind_some, steps]
  cases step m x <;> rfl
theorem steps_none {l : Pairs} {c : List Ch} {j : Nat} (h : steps l (c.take j) = none) : steps l c = none := by
  have := steps_append (c.take j) (c.drop j) l
  rw [List.take_append_drop, h] at this
  exact this
theorem step_length {m n : Pairs} {x : Ch} (h : step m x = some n) : n.length ≤ m.length + 1 := by
  unfold step at h
  split at h
  · split at h
    · cases h
    · cases h
      rw [put_place]
      simp
      have := place_le m x.key
      omega
  · split at h
    · cases h
      rw [del_place]
      split <;> simp <;> omega
    · cases h
end Sto
set_option maxHeartbeats 8000000 in
set_option maxRecDepth 100000 in
theorem rdoes11_any (v u : Value) (l : Sto.Pairs) (c : List Sto.Ch) (w : World) (h : PairsAt w v l) (hc : ChsAt w u c) (hg : Sto.Good l) (hf : ∀ x ∈ c, Sto.Fine x) (hb : l.length + c.length ≤ 1099511627776) :
    Calls Tryz.prog 54 #[v, u] w fun e w' => ∃ v', e = .returned (.tuple #[v', .bool (Sto.does l c).isSome]) ∧ (∀ m, Sto.does l c = some m → PairsAt w' v' m) ∧ (v' = v ∨ ∀ g, v'.ownBlock = some g → w.heap.size ≤ g) ∧ Below w.heap.size w w' := by
  have hv0 : ∃ ao n cap, v = .slice ao n cap := by
    obtain ⟨ao, cap, rfl, _⟩ := h.read
    exact ⟨_, _, _, rfl⟩
  obtain ⟨ao, cap, rfl, hn, hcap, hcell⟩ := chsAt_read hc
  have HC : Hid (∀ w' : World, Below w.heap.size w w' → ∀ (j : Nat) p, c[j]? = some p → ∃ g, ao = some ⟨g, 0, none⟩ ∧ g < w.heap.size ∧ w'.cell? ⟨g, j * 3, none⟩ = some (.bool p.put) ∧ w'.cell? ⟨g, j * 3 + 1, none⟩ = some (.string ⟨p.key.toArray⟩) ∧ w'.cell? ⟨g, j * 3 + 2, none⟩ = some (.string ⟨p.value.toArray⟩)) := Lib.hid (fun w' hbl j p hj => by
    obtain ⟨g, h1, h2, h3, h4, h5⟩ := hcell j p hj
    exact ⟨g, h1, h2, cell_later hbl h3, cell_later hbl h4, cell_later hbl h5⟩)
  have HP := Lib.hid h
  have HG := Lib.hid hg
  have HF := Lib.hid hf
  clear hcell h hc hg hf
  go_enter Tryz.func54, Tryz.ntmps54
  go_wp2
  go_loopw [0, 6] (fun va i wr => ∃ (j : Nat) (m : Sto.Pairs) (vb : Value), va = vb ∧ i = .int .i64 j ∧ j ≤ c.length ∧ PairsAt wr vb m ∧ Sto.steps l (c.take j) = some m ∧ m.length ≤ l.length + j ∧ (vb = v ∨ ∀ g, vb.ownBlock = some g → w.heap.size ≤ g) ∧ Below w.heap.size w wr) (fun _ i _ => c.length - (intOf i).toNat)
  case atStart => exact ⟨0, l, v, rfl, rfl, by omega, HP.out, rfl, by omega, .inl rfl, Below.refl _ _⟩
  case round =>
    obtain ⟨j, m, _, rfl, rfl, hj, hpa, hst, hml, hva, hbl⟩ := hrel
    have HPA := Lib.hid hpa
    have HST := Lib.hid hst
    have HVA := Lib.hid hva
    have HB := Lib.hid hbl
    by_cases hlt : j < c.length
    · obtain ⟨⟨pu, ky, vl⟩, hx⟩ : ∃ x, c[j]? = some x := ⟨_, List.getElem?_eq_getElem hlt⟩
      obtain ⟨g, rfl, hg', c0, c1, c2⟩ := HC.out wr hbl j _ hx
      have HS1 := Lib.hid (Sto.steps_take HST.out hx)
      have HFX := Lib.hid (HF.out _ (List.mem_of_getElem? hx))
      have hfd := rfind_any u0 m ky wr HPA.out
      obtain ⟨b, hbe⟩ : ∃ b, Sto.here m ky = b := ⟨_, rfl⟩
      obtain ⟨q, hq⟩ : ∃ q, Sto.place m ky = q := ⟨_, rfl⟩
      rw [hbe, hq] at hfd
      have HFD := Lib.hid hfd
      have HBE := Lib.hid hbe
      have HQ := Lib.hid hq
      clear hfd hbe hq hx hpa hst hva hbl
      simp only at c0 c1 c2
      cases pu with
      | false =>
        cases b with
        | false =>
          have HD : Hid (Sto.does l c = none) := Lib.hid (by
            have h1 : Sto.step m ⟨false, ky, vl⟩ = none := by unfold Sto.step; rw [if_neg (by simp)]; simp only []; rw [HBE.out]; rfl
            have h2 := HS1.out
            rw [h1] at h2
            unfold Sto.does
            rw [Sto.steps_none h2]; rfl)
          go_wp2_with fail
          refine HFD.out.mono ?_
          rintro e w1 ⟨rfl, hb1⟩
          have HB1 := Lib.hid hb1
          have c01 := cell_later hb1 c0
          have c11 := cell_later hb1 c1
          clear hb1
          go_wp2
          go_quiet (fail)
          go_wp2
          go_ret2
          exact ⟨u0, by rw [HD.out]; rfl, fun m' hm' => (by rw [HD.out] at hm'; cases hm'), HVA.out, below_drewN (bthen HB.out HB1.out) _⟩
        | true =>
          have h1 : Sto.step m ⟨false, ky, vl⟩ = some (Sto.del m ky) := by unfold Sto.step; rw [if_neg (by simp)]; simp only []; rw [HBE.out]; rfl
          have hlen := Sto.step_length h1
          have HS2 : Hid (Sto.steps l (c.take (j + 1)) = some (Sto.del m ky)) := Lib.hid (by rw [HS1.out, h1])
          have HWO := Lib.hid (fun W hW => rwithout_any u0 m ky W hW (by omega))
          clear h1
          go_wp2_with fail
          refine HFD.out.mono ?_
          rintro e w1 ⟨rfl, hb1⟩
          have HB1 := Lib.hid hb1
          have c01 := cell_later hb1 c0
          have c11 := cell_later hb1 c1
          have HPA1 := Lib.hid (HPA.out.below hb1)
          clear hb1
          go_wp2
          go_quiet (fail)
          rename_i nq
          have HBN := Lib.hid (below_drewN (Below.refl w1.heap.size w1) nq)
          go_wp2_with fail
          refine (HWO.out _ (HPA1.out.below HBN.out)).mono ?_
          rintro e w2 ⟨v2, rfl, hp2, hf2, hb2⟩
          have HP2 := Lib.hid hp2
          have HF2 := Lib.hid hf2
          have HB2 := Lib.hid (bthen (bthen HB1.out HBN.out) hb2)
          have HBW := Lib.hid (bthen HB.out HB2.out)
          clear hp2 hf2 hb2
          go_wp2
          go_round
          all_goals first
            | (simp [intOf]; omega)
            | exact ⟨j + 1, _, _, rfl, by go_num, by omega, HP2.out, HS2.out, by omega, (by
                rcases HF2.out with rfl | h
                · exact HVA.out
                · exact .inr (fun g hg => Nat.le_trans (Nat.le_trans HB.out.size (bthen HB1.out HBN.out).size) (h g hg))), HBW.out⟩
      | true =>
        cases b with
        | false =>
          have h1 : Sto.step m ⟨true, ky, vl⟩ = some (Sto.put m ky vl) := by
            have hb0 := HBE.out
            unfold Sto.here at hb0
            unfold Sto.step
            rw [if_pos rfl]
            simp only []
            cases hg : Sto.get m ky with
            | none => simp
            | some y => rw [hg] at hb0; cases hb0
          have hlen := Sto.step_length h1
          have HS2 : Hid (Sto.steps l (c.take (j + 1)) = some (Sto.put m ky vl)) := Lib.hid (by rw [HS1.out, h1])
          have HWI := Lib.hid (fun W hW => rwith_any u0 m ky vl W hW (by omega))
          clear h1
          go_wp2_with fail
          refine HFD.out.mono ?_
          rintro e w1 ⟨rfl, hb1⟩
          have HB1 := Lib.hid hb1
          have c01 := cell_later hb1 c0
          have c11 := cell_later hb1 c1
          have c21 := cell_later hb1 c2
          have HPA1 := Lib.hid (HPA.out.below hb1)
          clear hb1
          go_wp2
          go_quiet (fail)
          rename_i nq
          have HBN := Lib.hid (below_drewN (Below.refl w1.heap.size w1) nq)
          go_wp2_with fail
          obtain ⟨W0, hW0⟩ : ∃ W, (w1.drewN nq).drew = W := ⟨_, rfl⟩
          have HB0 : Hid (Below w1.heap.size w1 W0) := Lib.hid (by rw [← hW0]; exact HBN.out.drew)
          have c02 := cell_later HB0.out c01
          have c12 := cell_later HB0.out c11
          have c22 := cell_later HB0.out c21
          have HPA2 := Lib.hid (HPA1.out.below HB0.out)
          have HSZ := Lib.hid (bthen HB1.out HB0.out).size
          refine wp_region_heldL (S := fun w' => (w'.cell? ⟨g, j * 3, none⟩ = some (.bool true) ∧ w'.cell? ⟨g, j * 3 + 1, none⟩ = some (.string ⟨ky.toArray⟩) ∧ w'.cell? ⟨g, j * 3 + 2, none⟩ = some (.string ⟨vl.toArray⟩))) (by kernel_rfl) ?_
          rw [hW0]
          have hS0 : (W0.cell? ⟨g, j * 3, none⟩ = some (.bool true) ∧ W0.cell? ⟨g, j * 3 + 1, none⟩ = some (.string ⟨ky.toArray⟩) ∧ W0.cell? ⟨g, j * 3 + 2, none⟩ = some (.string ⟨vl.toArray⟩)) := ⟨c02, c12, c22⟩
          refine wpAnyH_takeL (i := 0) (v := ?_) rfl (by kernel_rfl) (by kernel_rfl) (by kernel_rfl) (fun _ _ _ h => h) ?_ (by assumption) ?_; rotate_left; focus (first | (refine Or.inr ⟨by rfl, ?_⟩; with_reducible rfl) | (refine Or.inl ⟨by rfl, ?_⟩; (intro w hSw; (try dsimp only at hSw); go_simp); try with_reducible rfl))
          try simp only [Act.put, List.setIfInBounds_toArray, List.set_cons_zero, List.set_cons_succ]
          refine wpAnyH_takeL (i := 1) (v := ?_) rfl (by kernel_rfl) (by kernel_rfl) (by kernel_rfl) (fun _ _ _ h => h) ?_ (by assumption) ?_; rotate_left; focus (first | (refine Or.inr ⟨by rfl, ?_⟩; with_reducible rfl) | (refine Or.inl ⟨by rfl, ?_⟩; (intro w hSw; (try dsimp only at hSw); go_simp); try with_reducible rfl))
          try simp only [Act.put, List.setIfInBounds_toArray, List.set_cons_zero, List.set_cons_succ]
          refine wpAnyH_takeL (i := 2) (v := ?_) rfl (by kernel_rfl) (by kernel_rfl) (by kernel_rfl) (fun _ _ _ h => h) ?_ (by assumption) ?_; rotate_left; focus (first | (refine Or.inr ⟨by rfl, ?_⟩; with_reducible rfl) | (refine Or.inl ⟨by rfl, ?_⟩; (intro w hSw; (try dsimp only at hSw); go_simp); try with_reducible rfl))
          try simp only [Act.put, List.setIfInBounds_toArray, List.set_cons_zero, List.set_cons_succ]
          refine wpAnyH_takeL (i := 3) (v := ?_) rfl (by kernel_rfl) (by kernel_rfl) (by kernel_rfl) (fun _ _ _ h => h) ?_ (by assumption) ?_; rotate_left; focus (first | (refine Or.inr ⟨by rfl, ?_⟩; with_reducible rfl) | (refine Or.inl ⟨by rfl, ?_⟩; (intro w hSw; (try dsimp only at hSw); go_simp); try with_reducible rfl))
          try simp only [Act.put, List.setIfInBounds_toArray, List.set_cons_zero, List.set_cons_succ]
          refine wpAnyH_takeL (i := 4) (v := ?_) rfl (by kernel_rfl) (by kernel_rfl) (by kernel_rfl) (fun _ _ _ h => h) ?_ (by assumption) ?_; rotate_left; focus (first | (refine Or.inr ⟨by rfl, ?_⟩; with_reducible rfl) | (refine Or.inl ⟨by rfl, ?_⟩; (intro w hSw; (try dsimp only at hSw); go_simp); try with_reducible rfl))
          try simp only [Act.put, List.setIfInBounds_toArray, List.set_cons_zero, List.set_cons_succ]
          refine wpAnyH_takeL (i := 5) (v := ?_) rfl (by kernel_rfl) (by kernel_rfl) (by kernel_rfl) (fun _ _ _ h => h) ?_ (by assumption) ?_; rotate_left; focus (first | (refine Or.inr ⟨by rfl, ?_⟩; with_reducible rfl) | (refine Or.inl ⟨by rfl, ?_⟩; (intro w hSw; (try dsimp only at hSw); go_simp); try with_reducible rfl))
          try simp only [Act.put, List.setIfInBounds_toArray, List.set_cons_zero, List.set_cons_succ]
          refine wpAnyH_takeL (i := 6) (v := ?_) rfl (by kernel_rfl) (by kernel_rfl) (by kernel_rfl) (fun _ _ _ h => h) ?_ (by assumption) ?_; rotate_left; focus (first | (refine Or.inr ⟨by rfl, ?_⟩; with_reducible rfl) | (refine Or.inl ⟨by rfl, ?_⟩; (intro w hSw; (try dsimp only at hSw); go_simp); try with_reducible rfl))
          try simp only [Act.put, List.setIfInBounds_toArray, List.set_cons_zero, List.set_cons_succ]
          refine wpAnyH_takeL (i := 7) (v := ?_) rfl (by kernel_rfl) (by kernel_rfl) (by kernel_rfl) (fun _ _ _ h => h) ?_ (by assumption) ?_; rotate_left; focus (first | (refine Or.inr ⟨by rfl, ?_⟩; with_reducible rfl) | (refine Or.inl ⟨by rfl, ?_⟩; (intro w hSw; (try dsimp only at hSw); go_simp); try with_reducible rfl))
          try simp only [Act.put, List.setIfInBounds_toArray, List.set_cons_zero, List.set_cons_succ]
          refine wpAnyH_takeL (i := 8) (v := ?_) rfl (by kernel_rfl) (by kernel_rfl) (by kernel_rfl) (fun _ _ _ h => h) ?_ (by assumption) ?_; rotate_left; focus (first | (refine Or.inr ⟨by rfl, ?_⟩; with_reducible rfl) | (refine Or.inl ⟨by rfl, ?_⟩; (intro w hSw; (try dsimp only at hSw); go_simp); try with_reducible rfl))
          try simp only [Act.put, List.setIfInBounds_toArray, List.set_cons_zero, List.set_cons_succ]
          refine wpAnyH_takeL (i := 9) (v := ?_) rfl (by kernel_rfl) (by kernel_rfl) (by kernel_rfl) (fun _ _ _ h => h) ?_ (by assumption) ?_; rotate_left; focus (first | (refine Or.inr ⟨by rfl, ?_⟩; with_reducible rfl) | (refine Or.inl ⟨by rfl, ?_⟩; (intro w hSw; (try dsimp only at hSw); go_simp); try with_reducible rfl))
          try simp only [Act.put, List.setIfInBounds_toArray, List.set_cons_zero, List.set_cons_succ]
          refine wpAnyH_takeL (i := 10) (v := ?_) rfl (by kernel_rfl) (by kernel_rfl) (by kernel_rfl) (fun _ _ _ h => h) ?_ (by assumption) ?_; rotate_left; focus (first | (refine Or.inr ⟨by rfl, ?_⟩; with_reducible rfl) | (refine Or.inl ⟨by rfl, ?_⟩; (intro w hSw; (try dsimp only at hSw); go_simp); try with_reducible rfl))
          try simp only [Act.put, List.setIfInBounds_toArray, List.set_cons_zero, List.set_cons_succ]
          refine wpAnyH_oneL (i := 11) rfl (by kernel_rfl) ?_
          intro K hK
          rw [if_pos (by rfl)]
          go_simp
          go_at_call 109
          refine (HWI.out _ HPA2.out).mono ?_
          rintro e w2 ⟨v2, rfl, hp2, hf2, hb2⟩
          have HP2 := Lib.hid hp2
          have HF2 := Lib.hid hf2
          have HB2 := Lib.hid (bthen (bthen HB1.out HB0.out) hb2)
          have HBW := Lib.hid (bthen HB.out HB2.out)
          have hS2 : (w2.cell? ⟨g, j * 3, none⟩ = some (.bool true) ∧ w2.cell? ⟨g, j * 3 + 1, none⟩ = some (.string ⟨ky.toArray⟩) ∧ w2.cell? ⟨g, j * 3 + 2, none⟩ = some (.string ⟨vl.toArray⟩)) := ⟨cell_later hb2 c02, cell_later hb2 c12, cell_later hb2 c22⟩
          clear hp2 hf2 hb2
          refine hK _ _ hS2 ?_
          clear hK K
          try simp only [Act.put, List.setIfInBounds_toArray, List.set_cons_zero, List.set_cons_succ]
          refine wpAnyH_oneL (i := 12) rfl (by kernel_rfl) ?_
          intro K hK
          rw [if_pos (by rfl)]
          go_simp
          refine hK _ _ hS2 ?_
          clear hK K
          try simp only [Act.put, List.setIfInBounds_toArray, List.set_cons_zero, List.set_cons_succ]
          refine wpAnyH_done (by kernel_rfl) ?_ _
          go_wp2
          go_round
          all_goals first
            | (simp [intOf]; omega)
            | exact ⟨j + 1, _, _, rfl, by go_num, by omega, HP2.out, HS2.out, by omega, .inr (fun g hg => Nat.le_trans (Nat.le_trans HB.out.size HSZ.out) (HF2.out g hg)), HBW.out⟩
        | true =>
          obtain ⟨p, hp, hk⟩ : ∃ p, m[q]? = some p ∧ p.1 = ky := by
            have hh := Sto.here_place m ky
            rw [HBE.out, HQ.out] at hh
            cases hl : m[q]? with
            | none => rw [hl] at hh; cases hh
            | some p => rw [hl] at hh; exact ⟨p, rfl, by simpa using hh.symm⟩
          have hget : Sto.get m ky = some p.2 := by rw [Sto.get_place, HQ.out, hp]; simp [hk]
          have hqm : q < m.length := (List.getElem?_eq_some_iff.1 hp).1
          obtain ⟨bo, bcap, rfl, hmn, hmc, hpc⟩ := HPA.out.read
          obtain ⟨g2, rfl, hg2, d0, d1⟩ := hpc q p hp
          clear hpc d0 hp
          by_cases hv : p.2 = vl
          · -- nothing is changed
            have HD : Hid (Sto.does l c = none) := Lib.hid (by
              have h2 := HS1.out
              rw [show Sto.step m ⟨true, ky, vl⟩ = none by unfold Sto.step; rw [if_pos rfl]; simp only []; rw [hget, hv, if_pos rfl]] at h2
              unfold Sto.does
              rw [Sto.steps_none h2]; rfl)
            rw [hv] at d1
            clear hget
            go_wp2_with fail
            refine HFD.out.mono ?_
            rintro e w1 ⟨rfl, hb1⟩
            have HB1 := Lib.hid hb1
            have c01 := cell_later hb1 c0
            have c11 := cell_later hb1 c1
            have c21 := cell_later hb1 c2
            have d11 := cell_later hb1 d1
            clear hb1
            go_wp2
            go_quiet (fail)
            go_wp2
            go_ret2
            exact ⟨_, by rw [HD.out]; rfl, fun m' hm' => (by rw [HD.out] at hm'; cases hm'), HVA.out, below_drewN (bthen HB.out HB1.out) _⟩
          · have hne : (p.2 == vl) = false := beq_eq_false_iff_ne.2 hv
            have h1 : Sto.step m ⟨true, ky, vl⟩ = some (Sto.put m ky vl) := by
              unfold Sto.step
              rw [if_pos rfl]
              simp only []
              rw [hget, if_neg (fun e => hv (Option.some.inj e))]
            clear hget
            have hlen := Sto.step_length h1
            have HS2 : Hid (Sto.steps l (c.take (j + 1)) = some (Sto.put m ky vl)) := Lib.hid (by rw [HS1.out, h1])
            have HWI := Lib.hid (fun W hW => rwith_any (.slice (some ⟨g2, 0, none⟩) m.length bcap) m ky vl W hW (by omega))
            clear h1
            go_wp2_with fail
            refine HFD.out.mono ?_
            rintro e w1 ⟨rfl, hb1⟩
            have HB1 := Lib.hid hb1
            have c01 := cell_later hb1 c0
            have c11 := cell_later hb1 c1
            have c21 := cell_later hb1 c2
            have HPA1 := Lib.hid (HPA.out.below hb1)
            have d11 := cell_later hb1 d1
            clear hb1
            go_wp2
            go_quiet (fail)
            rename_i nq
            have HBN := Lib.hid (below_drewN (Below.refl w1.heap.size w1) nq)
            go_wp2_with fail
            obtain ⟨W0, hW0⟩ : ∃ W, (w1.drewN nq).drew = W := ⟨_, rfl⟩
            have HB0 : Hid (Below w1.heap.size w1 W0) := Lib.hid (by rw [← hW0]; exact HBN.out.drew)
            have c02 := cell_later HB0.out c01
            have c12 := cell_later HB0.out c11
            have c22 := cell_later HB0.out c21
            have HPA2 := Lib.hid (HPA1.out.below HB0.out)
            have HSZ := Lib.hid (bthen HB1.out HB0.out).size
            refine wp_region_heldL (S := fun w' => (w'.cell? ⟨g, j * 3, none⟩ = some (.bool true) ∧ w'.cell? ⟨g, j * 3 + 1, none⟩ = some (.string ⟨ky.toArray⟩) ∧ w'.cell? ⟨g, j * 3 + 2, none⟩ = some (.string ⟨vl.toArray⟩))) (by kernel_rfl) ?_
            rw [hW0]
            have hS0 : (W0.cell? ⟨g, j * 3, none⟩ = some (.bool true) ∧ W0.cell? ⟨g, j * 3 + 1, none⟩ = some (.string ⟨ky.toArray⟩) ∧ W0.cell? ⟨g, j * 3 + 2, none⟩ = some (.string ⟨vl.toArray⟩)) := ⟨c02, c12, c22⟩
            refine wpAnyH_takeL (i := 0) (v := ?_) rfl (by kernel_rfl) (by kernel_rfl) (by kernel_rfl) (fun _ _ _ h => h) ?_ (by assumption) ?_; rotate_left; focus (first | (refine Or.inr ⟨by rfl, ?_⟩; with_reducible rfl) | (refine Or.inl ⟨by rfl, ?_⟩; (intro w hSw; (try dsimp only at hSw); go_simp); try with_reducible rfl))
            try simp only [Act.put, List.setIfInBounds_toArray, List.set_cons_zero, List.set_cons_succ]
            refine wpAnyH_takeL (i := 1) (v := ?_) rfl (by kernel_rfl) (by kernel_rfl) (by kernel_rfl) (fun _ _ _ h => h) ?_ (by assumption) ?_; rotate_left; focus (first | (refine Or.inr ⟨by rfl, ?_⟩; with_reducible rfl) | (refine Or.inl ⟨by rfl, ?_⟩; (intro w hSw; (try dsimp only at hSw); go_simp); try with_reducible rfl))
            try simp only [Act.put, List.setIfInBounds_toArray, List.set_cons_zero, List.set_cons_succ]
            refine wpAnyH_takeL (i := 2) (v := ?_) rfl (by kernel_rfl) (by kernel_rfl) (by kernel_rfl) (fun _ _ _ h => h) ?_ (by assumption) ?_; rotate_left; focus (first | (refine Or.inr ⟨by rfl, ?_⟩; with_reducible rfl) | (refine Or.inl ⟨by rfl, ?_⟩; (intro w hSw; (try dsimp only at hSw); go_simp); try with_reducible rfl))
            try simp only [Act.put, List.setIfInBounds_toArray, List.set_cons_zero, List.set_cons_succ]
            refine wpAnyH_takeL (i := 3) (v := ?_) rfl (by kernel_rfl) (by kernel_rfl) (by kernel_rfl) (fun _ _ _ h => h) ?_ (by assumption) ?_; rotate_left; focus (first | (refine Or.inr ⟨by rfl, ?_⟩; with_reducible rfl) | (refine Or.inl ⟨by rfl, ?_⟩; (intro w hSw; (try dsimp only at hSw); go_simp); try with_reducible rfl))
            try simp only [Act.put, List.setIfInBounds_toArray, List.set_cons_zero, List.set_cons_succ]
            refine wpAnyH_takeL (i := 4) (v := ?_) rfl (by kernel_rfl) (by kernel_rfl) (by kernel_rfl) (fun _ _ _ h => h) ?_ (by assumption) ?_; rotate_left; focus (first | (refine Or.inr ⟨by rfl, ?_⟩; with_reducible rfl) | (refine Or.inl ⟨by rfl, ?_⟩; (intro w hSw; (try dsimp only at hSw); go_simp); try with_reducible rfl))
            try simp only [Act.put, List.setIfInBounds_toArray, List.set_cons_zero, List.set_cons_succ]
            refine wpAnyH_takeL (i := 5) (v := ?_) rfl (by kernel_rfl) (by kernel_rfl) (by kernel_rfl) (fun _ _ _ h => h) ?_ (by assumption) ?_; rotate_left; focus (first | (refine Or.inr ⟨by rfl, ?_⟩; with_reducible rfl) | (refine Or.inl ⟨by rfl, ?_⟩; (intro w hSw; (try dsimp only at hSw); go_simp); try with_reducible rfl))
            try simp only [Act.put, List.setIfInBounds_toArray, List.set_cons_zero, List.set_cons_succ]
            refine wpAnyH_takeL (i := 6) (v := ?_) rfl (by kernel_rfl) (by kernel_rfl) (by kernel_rfl) (fun _ _ _ h => h) ?_ (by assumption) ?_; rotate_left; focus (first | (refine Or.inr ⟨by rfl, ?_⟩; with_reducible rfl) | (refine Or.inl ⟨by rfl, ?_⟩; (intro w hSw; (try dsimp only at hSw); go_simp); try with_reducible rfl))
            try simp only [Act.put, List.setIfInBounds_toArray, List.set_cons_zero, List.set_cons_succ]
            refine wpAnyH_takeL (i := 7) (v := ?_) rfl (by kernel_rfl) (by kernel_rfl) (by kernel_rfl) (fun _ _ _ h => h) ?_ (by assumption) ?_; rotate_left; focus (first | (refine Or.inr ⟨by rfl, ?_⟩; with_reducible rfl) | (refine Or.inl ⟨by rfl, ?_⟩; (intro w hSw; (try dsimp only at hSw); go_simp); try with_reducible rfl))
            try simp only [Act.put, List.setIfInBounds_toArray, List.set_cons_zero, List.set_cons_succ]
            refine wpAnyH_takeL (i := 8) (v := ?_) rfl (by kernel_rfl) (by kernel_rfl) (by kernel_rfl) (fun _ _ _ h => h) ?_ (by assumption) ?_; rotate_left; focus (first | (refine Or.inr ⟨by rfl, ?_⟩; with_reducible rfl) | (refine Or.inl ⟨by rfl, ?_⟩; (intro w hSw; (try dsimp only at hSw); go_simp); try with_reducible rfl))
            try simp only [Act.put, List.setIfInBounds_toArray, List.set_cons_zero, List.set_cons_succ]
            refine wpAnyH_takeL (i := 9) (v := ?_) rfl (by kernel_rfl) (by kernel_rfl) (by kernel_rfl) (fun _ _ _ h => h) ?_ (by assumption) ?_; rotate_left; focus (first | (refine Or.inr ⟨by rfl, ?_⟩; with_reducible rfl) | (refine Or.inl ⟨by rfl, ?_⟩; (intro w hSw; (try dsimp only at hSw); go_simp); try with_reducible rfl))
            try simp only [Act.put, List.setIfInBounds_toArray, List.set_cons_zero, List.set_cons_succ]
            refine wpAnyH_takeL (i := 10) (v := ?_) rfl (by kernel_rfl) (by kernel_rfl) (by kernel_rfl) (fun _ _ _ h => h) ?_ (by assumption) ?_; rotate_left; focus (first | (refine Or.inr ⟨by rfl, ?_⟩; with_reducible rfl) | (refine Or.inl ⟨by rfl, ?_⟩; (intro w hSw; (try dsimp only at hSw); go_simp); try with_reducible rfl))
            try simp only [Act.put, List.setIfInBounds_toArray, List.set_cons_zero, List.set_cons_succ]
            refine wpAnyH_oneL (i := 11) rfl (by kernel_rfl) ?_
            intro K hK
            rw [if_pos (by rfl)]
            go_simp
            go_at_call 109
            refine (HWI.out _ HPA2.out).mono ?_
            rintro e w2 ⟨v2, rfl, hp2, hf2, hb2⟩
            have HP2 := Lib.hid hp2
            have HF2 := Lib.hid hf2
            have HB2 := Lib.hid (bthen (bthen HB1.out HB0.out) hb2)
            have HBW := Lib.hid (bthen HB.out HB2.out)
            have hS2 : (w2.cell? ⟨g, j * 3, none⟩ = some (.bool true) ∧ w2.cell? ⟨g, j * 3 + 1, none⟩ = some (.string ⟨ky.toArray⟩) ∧ w2.cell? ⟨g, j * 3 + 2, none⟩ = some (.string ⟨vl.toArray⟩)) := ⟨cell_later hb2 c02, cell_later hb2 c12, cell_later hb2 c22⟩
            clear hp2 hf2 hb2
            refine hK _ _ hS2 ?_
            clear hK K
            try simp only [Act.put, List.setIfInBounds_toArray, List.set_cons_zero, List.set_cons_succ]
            refine wpAnyH_oneL (i := 12) rfl (by kernel_rfl) ?_
            intro K hK
            rw [if_pos (by rfl)]
            go_simp
            refine hK _ _ hS2 ?_
            clear hK K
            try simp only [Act.put, List.setIfInBounds_toArray, List.set_cons_zero, List.set_cons_succ]
            refine wpAnyH_done (by kernel_rfl) ?_ _
            go_wp2
            go_round
            all_goals first
              | (simp [intOf]; omega)
              | exact ⟨j + 1, _, _, rfl, by go_num, by omega, HP2.out, HS2.out, by omega, .inr (fun g hg => Nat.le_trans (Nat.le_trans HB.out.size HSZ.out) (HF2.out g hg)), HBW.out⟩
    · obtain rfl : j = c.length := by omega
      rw [List.take_length] at HST
      have HGM : Hid (Sto.Good m) := Lib.hid (HG.out.steps HF.out HST.out)
      have hsz : Sto.size m ≤ 4611686018427387904 := by
        have := Sto.size_ok HGM.out.ok
        omega
      have HFT := Lib.hid (rfits_any u0 m wr HPA.out hsz)
      have HD : Hid (Sto.does l c = if Sto.fits m then some m else none) := Lib.hid (by unfold Sto.does; rw [HST.out]; rfl)
      obtain ⟨ft, hft⟩ : ∃ b, Sto.fits m = b := ⟨_, rfl⟩
      rw [hft] at HFT HD
      clear hpa hst hva hbl hsz hft
      go_wp2_with fail
      refine HFT.out.mono ?_
      rintro e w1 ⟨rfl, hb1⟩
      have HB1 := Lib.hid hb1
      clear hb1
      go_wp2
      go_ret2
      refine ⟨u0, ?_, ?_, HVA.out, bthen HB.out HB1.out⟩
      · rw [HD.out]; cases ft <;> rfl
      · intro m' hm'
        rw [HD.out] at hm'
        cases ft with
        | false => cases hm'
        | true => cases hm'; exact HPA.out.below HB1.out
end Go.Proofs.YtpjpknndfhablaaGreat
namespace Go.Proofs.YtpjpknndfhablaaGreat
open Go.RowKit
/-- A reader lies in block b: what is left of the text, and whether it was overrun. -/
def ReaderAt (w : World) (b : Nat) (s : Sto.S) (lost : Bool) : Prop := w.heap[b]? = some (.cells #[.string ⟨s.toArray⟩, .bool lost] 162 (0, 0))
theorem ReaderAt.cells {w : World} {b : Nat} {s : Sto.S} {lost : Bool} (h : ReaderAt w b s lost) : w.cell? ⟨b, 0, none⟩ = some (.string ⟨s.toArray⟩) ∧ w.cell? ⟨b, 1, none⟩ = some (.bool lost) ∧ (∀ i, w.frozen? ⟨b, i, none⟩ = false) ∧ b < w.heap.size :=
  ⟨cell_of h rfl, cell_of h rfl, free_of h, heap_lt h⟩
theorem ReaderAt.setLost {w : World} {b : Nat} {s : Sto.S} {lost : Bool} (h : ReaderAt w b s lost) (x : Bool) : ReaderAt (w.setCell ⟨b, 1, none⟩ (.bool x)) b s x := by
  have := heap_set (i := 1) (.bool x) h
  simpa [ReaderAt] using this
theorem ReaderAt.setText {w : World} {b : Nat} {s : Sto.S} {lost : Bool} (h : ReaderAt w b s lost) (t : Sto.S) : ReaderAt (w.setCell ⟨b, 0, none⟩ (.string ⟨t.toArray⟩)) b t lost := by
  have := heap_set (i := 0) (.string ⟨t.toArray⟩) h
  simpa [ReaderAt] using this
set_option maxHeartbeats 2000000 in
theorem take_lost (b : Nat) (s : Sto.S) (n : Nat) (w : World) (h : ReaderAt w b s true) :
    Calls Tryz.prog 100 #[.pointer (some ⟨b, 0, none⟩), .int .i64 n] w fun e w' => e = .returned (.string ⟨#[]⟩) ∧ ReaderAt w' b s true ∧ Touch (· = b) w w' := by
  obtain ⟨c0, c1, cf, _⟩ := h.cells
  have cf1 := cf 1
  have H := Lib.hid h
  clear h cf
  go_enter Tryz.func100, Tryz.ntmps100
  go_wp2
  go_ret
  exact ⟨rfl, H.out.setLost true, (Touch.refl (· = b) w).setCell _ (fun _ => rfl)⟩
set_option maxHeartbeats 2000000 in
theorem take_short (b : Nat) (s : Sto.S) (n : Nat) (w : World) (h : ReaderAt w b s false) (hn : s.length < n) :
    Calls Tryz.prog 100 #[.pointer (some ⟨b, 0, none⟩), .int .i64 n] w fun e w' => e = .returned (.string ⟨#[]⟩) ∧ ReaderAt w' b s true ∧ Touch (· = b) w w' := by
  obtain ⟨c0, c1, cf, _⟩ := h.cells
  have cf1 := cf 1
  have H := Lib.hid h
  clear h cf
  go_enter Tryz.func100, Tryz.ntmps100
  go_wp2
  go_ret
  exact ⟨rfl, H.out.setLost true, (Touch.refl (· = b) w).setCell _ (fun _ => rfl)⟩
set_option maxHeartbeats 2000000 in
theorem take_some (b : Nat) (s : Sto.S) (n : Nat) (w : World) (h : ReaderAt w b s false) (hn : n ≤ s.length) :
    Calls Tryz.prog 100 #[.pointer (some ⟨b, 0, none⟩), .int .i64 n] w fun e w' => e = .returned (.string ⟨(s.take n).toArray⟩) ∧ ReaderAt w' b (s.drop n) false ∧ Touch (· = b) w w' := by
  obtain ⟨c0, c1, cf, _⟩ := h.cells
  have cf0 := cf 0
  have H := Lib.hid h
  have he1 : (⟨s.toArray⟩ : ByteArray).extract 0 n = ⟨(s.take n).toArray⟩ := by
    have := ext_take s 0 n
    simpa using this
  have he2 : (⟨s.toArray⟩ : ByteArray).extract n s.length = ⟨(s.drop n).toArray⟩ := by
    have := ext_take s n (s.length - n)
    rw [show n + (s.length - n) = s.length by omega] at this
    rw [this, List.take_of_length_le (by simp)]
  clear h cf
  go_enter Tryz.func100, Tryz.ntmps100
  go_wp2
  go_ret
  exact ⟨rfl, H.out.setText (s.drop n), (Touch.refl (· = b) w).setCell _ (fun _ => rfl)⟩
end Go.Proofs.YtpjpknndfhablaaGreat
namespace Go.Proofs.YtpjpknndfhablaaGreat
namespace Sto
theorem numAt_bad {s : S} {p : Int} {m : Nat} (h : p < 0 ∨ (s.length : Int) < p + m) : numAt s p m = (0, -1) := by unfold numAt; rw [if_pos h]
theorem numAt_ok {s : S} {p m : Nat} (h : p + m ≤ s.length) : numAt s p m = (Sha.val ((s.drop p).take m), ((p + m : Nat) : Int)) := by
  unfold numAt
  rw [if_neg (by omega)]
  simp
theorem textAt_bad {s : S} {p : Int} {m : Nat} (h : p < 0 ∨ (s.length : Int) < p + m) : textAt s p m = ([], -1) := by unfold textAt; rw [if_pos h]
theorem textAt_ok {s : S} {p m : Nat} (h : p + m ≤ s.length) : textAt s p m = ((s.drop p).take m, ((p + m : Nat) : Int)) := by
  unfold textAt
  rw [if_neg (by omega)]
  simp
theorem val_one (x : UInt8) : Sha.val [x] = x.toNat := by simp [Sha.val]
theorem drop_two {s : S} {p : Nat} {x y : UInt8} {r : S} (h : s.drop p = x :: y :: r) : s.drop (p + 1) = y :: r ∧ s.drop (p + 2) = r ∧ p + 2 + r.length = s.length := by
  have h1 : s.drop (p + 1) = y :: r := by rw [← List.drop_drop, h]; rfl
  have h2 : s.drop (p + 2) = r := by rw [← List.drop_drop, h]; rfl
  have := congrArg List.length h
  rw [List.length_drop] at this
  simp at this
  exact ⟨h1, h2, by omega⟩
/-- What the document reads at a place: the kind, the key, the value, the place behind. -/
def kindAt (s : S) (p : Int) : Nat × Int := numAt s p 1
def manyAt (s : S) (p : Int) : Nat × Int := numAt s (kindAt s p).2 1
def keyAt (s : S) (p : Int) : S × Int := textAt s (manyAt s p).2 (manyAt s p).1
def lenAt (s : S) (p : Int) : Nat × Int := numAt s (keyAt s p).2 2
def valAt (s : S) (p : Int) : S × Int := textAt s (lenAt s p).2 (lenAt s p).1
theorem heads {s : S} {p : Nat} :
    ((s.drop p).length < 2 ∧ (kindAt s p).1 < 256 ∧ keyAt s p = ([], -1) ∧ valAt s p = ([], -1) ∧ one (s.drop p) = none) ∨
    ∃ x y r, s.drop p = x :: y :: r ∧ kindAt s p = (x.toNat, ((p + 1 : Nat) : Int)) ∧ manyAt s p = (y.toNat, ((p + 2 : Nat) : Int)) ∧ p + 2 + r.length = s.length := by
  rcases hd : s.drop p with _ | ⟨x, _ | ⟨y, r⟩⟩
  · left
    have hl := congrArg List.length hd
    rw [List.length_drop] at hl
    simp at hl
    have hk : kindAt s p = (0, -1) := numAt_bad (by omega)
    have hm : manyAt s p = (0, -1) := by unfold manyAt; rw [hk]; exact numAt_bad (.inl (by decide))
    have ht : keyAt s p = ([], -1) := by unfold keyAt; rw [hm]; exact textAt_bad (.inl (by decide))
    have hl' : lenAt s p = (0, -1) := by unfold lenAt; rw [ht]; exact numAt_bad (.inl (by decide))
    have hv : valAt s p = ([], -1) := by unfold valAt; rw [hl']; exact textAt_bad (.inl (by decide))
    exact ⟨by simp, by rw [hk]; decide, ht, hv, rfl⟩
  · left
    have hl := congrArg List.length hd
    rw [List.length_drop] at hl
    simp at hl
    have hk : kindAt s p = (x.toNat, ((p + 1 : Nat) : Int)) := by
      unfold kindAt
      rw [show ((p : Int)) = ((p : Nat) : Int) from rfl, numAt_ok (by omega), hd]
      simp [val_one]
    have hm : manyAt s p = (0, -1) := by unfold manyAt; rw [hk]; exact numAt_bad (.inr (by simp; omega))
    have ht : keyAt s p = ([], -1) := by unfold keyAt; rw [hm]; exact textAt_bad (.inl (by decide))
    have hl' : lenAt s p = (0, -1) := by unfold lenAt; rw [ht]; exact numAt_bad (.inl (by decide))
    have hv : valAt s p = ([], -1) := by unfold valAt; rw [hl']; exact textAt_bad (.inl (by decide))
    exact ⟨by simp, by rw [hk]; exact x.toNat_lt, ht, hv, rfl⟩
  · right
    obtain ⟨h1, h2, h3⟩ := drop_two hd
    have hk : kindAt s p = (x.toNat, ((p + 1 : Nat) : Int)) := by
      unfold kindAt
      rw [numAt_ok (by omega), hd]
      simp [val_one]
    have hm : manyAt s p = (y.toNat, ((p + 2 : Nat) : Int)) := by
      unfold manyAt
      rw [hk]
      simp only
      rw [numAt_ok (by omega), h1]
      simp [val_one]
      omega
    exact ⟨x, y, r, rfl, hk, hm, h3⟩
theorem keyAt_cases {s : S} {p : Nat} {x y : UInt8} {r : S} (hd : s.drop p = x :: y :: r) (hm : manyAt s p = (y.toNat, ((p + 2 : Nat) : Int))) :
    (r.length < y.toNat ∧ keyAt s p = ([], -1)) ∨ (y.toNat ≤ r.length ∧ keyAt s p = (r.take y.toNat, ((p + 2 + y.toNat : Nat) : Int))) := by
  obtain ⟨h1, h2, h3⟩ := drop_two hd
  rcases Nat.lt_or_ge r.length y.toNat with h | h
  · exact .inl ⟨h, by unfold keyAt; rw [hm]; exact textAt_bad (.inr (by simp; omega))⟩
  · right
    refine ⟨h, ?_⟩
    unfold keyAt
    rw [hm]
    simp only
    rw [textAt_ok (by omega), h2]
theorem toNat_zero {x : UInt8} (h : x.toNat = 0) : x = 0 := UInt8.toNat_inj.1 (by rw [h]; rfl)
theorem toNat_one {x : UInt8} (h : x.toNat = 1) : x = 1 := UInt8.toNat_inj.1 (by rw [h]; rfl)
theorem one_del_bad {s : S} {p : Nat} (h1 : (kindAt s p).1 ≠ 1) (h : (keyAt s p).2 < 0 ∨ 1 < (kindAt s p).1) : one (s.drop p) = none := by
  rcases heads (s := s) (p := p) with ⟨_, _, _, _, h⟩ | ⟨x, y, r, hd, hk, hm, hl⟩
  · exact h
  rw [hd]
  rw [hk] at h1 h
  simp only at h1 h
  have hx1 : x ≠ 1 := fun e => h1 (by rw [e]; rfl)
  rcases keyAt_cases hd hm with ⟨a, b⟩ | ⟨a, b⟩
  · simp only [one, if_pos a]
  · rw [b] at h
    have hx0 : x ≠ 0 := fun e => by rw [e] at h; simp at h; omega
    simp only [one, if_neg (Nat.not_lt.2 a), if_neg hx0, if_neg hx1]
theorem one_del_ok {s : S} {p : Nat} (h1 : (kindAt s p).1 ≠ 1) (h2 : 0 ≤ (keyAt s p).2) (h3 : (kindAt s p).1 ≤ 1) :
    one (s.drop p) = some (⟨false, (keyAt s p).1, []⟩, s.drop (keyAt s p).2.toNat) ∧ (keyAt s p).2 ≤ s.length ∧ (p : Int) < (keyAt s p).2 := by
  rcases heads (s := s) (p := p) with ⟨_, _, h, _, _⟩ | ⟨x, y, r, hd, hk, hm, hl⟩
  · rw [h] at h2; exact absurd h2 (by decide)
  rw [hk] at h1 h3
  simp only at h1 h3
  have hx : x = 0 := toNat_zero (by omega)
  obtain ⟨_, e2, _⟩ := drop_two hd
  rcases keyAt_cases hd hm with ⟨a, b⟩ | ⟨a, b⟩
  · rw [b] at h2; exact absurd h2 (by decide)
  · rw [b, hd]
    refine ⟨?_, by simp; omega, by simp; omega⟩
    simp only [one, if_neg (Nat.not_lt.2 a), hx, if_true, Int.toNat_natCast]
    rw [← e2, List.drop_drop]
theorem one_put {s : S} {p : Nat} (h1 : (kindAt s p).1 = 1) :
    ((valAt s p).2 < 0 ∧ one (s.drop p) = none) ∨
    (0 ≤ (valAt s p).2 ∧ one (s.drop p) = some (⟨true, (keyAt s p).1, (valAt s p).1⟩, s.drop (valAt s p).2.toNat) ∧ (valAt s p).2 ≤ s.length ∧ (p : Int) < (valAt s p).2) := by
  rcases heads (s := s) (p := p) with ⟨_, _, _, h, h'⟩ | ⟨x, y, r, hd, hk, hm, hl⟩
  · exact .inl ⟨by rw [h]; decide, h'⟩
  rw [hk] at h1
  simp only at h1
  have hx : x = 1 := toNat_one h1
  obtain ⟨_, e2, _⟩ := drop_two hd
  have h10 : ¬ ((1 : UInt8) = 0) := by decide
  rcases keyAt_cases hd hm with ⟨a, b⟩ | ⟨a, b⟩
  · left
    have hl' : lenAt s p = (0, -1) := by unfold lenAt; rw [b]; exact numAt_bad (.inl (by decide))
    have hv : valAt s p = ([], -1) := by unfold valAt; rw [hl']; exact textAt_bad (.inl (by decide))
    rw [hv, hd]
    exact ⟨by decide, by simp only [one, if_pos a]⟩
  · have e3 : s.drop (p + 2 + y.toNat) = r.drop y.toNat := by rw [← e2, List.drop_drop]
    have e4 : (r.drop y.toNat).length = r.length - y.toNat := List.length_drop
    by_cases hc : (r.drop y.toNat).length < 2
    · left
      have hl' : lenAt s p = (0, -1) := by unfold lenAt; rw [b]; exact numAt_bad (.inr (by simp; omega))
      have hv : valAt s p = ([], -1) := by unfold valAt; rw [hl']; exact textAt_bad (.inl (by decide))
      rw [hv, hd]
      exact ⟨by decide, by simp only [one, if_neg (Nat.not_lt.2 a), hx, h10, if_false, if_true, if_pos hc]⟩
    · have hl' : lenAt s p = (Sha.val ((r.drop y.toNat).take 2), ((p + 2 + y.toNat + 2 : Nat) : Int)) := by
        unfold lenAt
        rw [b]
        simp only
        rw [numAt_ok (by omega), e3]
      have e5 : s.drop (p + 2 + y.toNat + 2) = (r.drop y.toNat).drop 2 := by rw [← e3, List.drop_drop]
      have e6 : ((r.drop y.toNat).drop 2).length = r.length - y.toNat - 2 := by rw [List.length_drop, e4]
      by_cases hv : ((r.drop y.toNat).drop 2).length < Sha.val ((r.drop y.toNat).take 2)
      · left
        have hv' : valAt s p = ([], -1) := by unfold valAt; rw [hl']; exact textAt_bad (.inr (by simp; omega))
        rw [hv', hd]
        exact ⟨by decide, by simp only [one, if_neg (Nat.not_lt.2 a), hx, h10, if_false, if_true, if_neg hc, if_pos hv]⟩
      · right
        have hv' : valAt s p = (((r.drop y.toNat).drop 2).take (Sha.val ((r.drop y.toNat).take 2)), ((p + 2 + y.toNat + 2 + Sha.val ((r.drop y.toNat).take 2) : Nat) : Int)) := by
          unfold valAt
          rw [hl']
          simp only
          rw [textAt_ok (by omega), e5]
        rw [hv', b, hd]
        refine ⟨by simp; omega, ?_, by simp; omega, by simp; omega⟩
        simp only [one, if_neg (Nat.not_lt.2 a), hx, h10, if_false, if_true, if_neg hc, if_neg hv, Int.toNat_natCast]
        rw [← e5, List.drop_drop]
/-! Rounds. -/
theorem dec_bad {n : Nat} {s : S} {last : Option S} (h : one s = none) : dec (n + 1) s last = none := by simp [dec, h]
theorem dec_bad' {n : Nat} {s r : S} {c : Ch} {last : Option S} (h : one s = some (c, r)) (hb : (keyOk c.key && valueOk c.value && after last c.key) = false) : dec (n + 1) s last = none := by
  simp only [dec, h, hb]
  rfl
theorem dec_ok {n : Nat} {s r : S} {c : Ch} {last : Option S} (h : one s = some (c, r)) (hb : (keyOk c.key && valueOk c.value && after last c.key) = true) : dec (n + 1) s last = (dec n r (some c.key)).map (c :: ·) := by
  simp only [dec, h, hb]
  rfl
/-- So many are read already. -/
def Read (N : Nat) (s : S) (l : List Ch) (n : Nat) (r : S) : Prop := dec N s none = (dec n r (l.getLast?.map (·.key))).map (l ++ ·)
theorem Read.start (N : Nat) (s : S) : Read N s [] N s := by
  unfold Read
  cases h : dec N s none <;> simp [h]
theorem Read.bad {N n : Nat} {s r : S} {l : List Ch} (h : Read N s l (n + 1) r) (hb : one r = none) : dec N s none = none := by
  unfold Read at h
  rw [h, dec_bad hb]; rfl
theorem Read.bad' {N n : Nat} {s r r' : S} {l : List Ch} {c : Ch} (h : Read N s l (n + 1) r) (h1 : one r = some (c, r')) (hb : (keyOk c.key && valueOk c.value && after (l.getLast?.map (·.key)) c.key) = false) : dec N s none = none := by
  unfold Read at h
  rw [h, dec_bad' h1 hb]; rfl
theorem Read.next {N n : Nat} {s r r' : S} {l : List Ch} {c : Ch} (h : Read N s l (n + 1) r) (h1 : one r = some (c, r')) (hb : (keyOk c.key && valueOk c.value && after (l.getLast?.map (·.key)) c.key) = true) : Read N s (l ++ [c]) n r' := by
  unfold Read at h ⊢
  rw [h, dec_ok h1 hb]
  have e : (l ++ [c]).getLast?.map (·.key) = some c.key := by simp
  rw [e]
  cases hd : dec n r' (some c.key) <;> simp
theorem Read.done {N : Nat} {s r : S} {l : List Ch} (h : Read N s l 0 r) : dec N s none = if r = [] then some l else none := by
  unfold Read at h
  rw [h]
  simp only [dec]
  split <;> simp
theorem dec_length : ∀ {n : Nat} {s : S} {last : Option S} {l : List Ch}, dec n s last = some l → l.length = n
  | 0, s, _, l, h => by
    simp only [dec] at h
    split at h
    · cases h; rfl
    · cases h
  | n + 1, s, last, l, h => by
    simp only [dec] at h
    split at h
    · cases h
    · rename_i c r _
      split at h
      · cases hd : dec n r (some c.key) with
        | none => rw [hd] at h; cases h
        | some m => rw [hd] at h; cases h; simp [dec_length hd]
      · cases h
end Sto
end Go.Proofs.YtpjpknndfhablaaGreat
