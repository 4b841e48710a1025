/- The program's does. The log in memory; walks of must and lays. -/
import Derived.StillTailTactics
import Derived.Defers
import Derived.Recover
import Derived.Test.YtpjpknndfhablaaGreatK2
import Derived.Test.YtpjpknndfhablaaGreatK6
import Derived.Test.YtpjpknndfhablaaGreatK8
namespace Go.Proofs.YtpjpknndfhablaaGreat
open Go.RowKit
/-- A region that reads ahead of a tail: in one world under a new name. -/
theorem region_tail {P : Program} {id : Nat} {Q : Exit → Act → World → Prop} {a : Act} {w : World} {l : List Oper} (n : Nat) (hm : P.follows .mixedOrders = true) (hB : Region.lexTailB .any l.toArray n = true)
  (h : ∀ w2, Hid (w2 = w.drew) → wpStill P l.toArray w2 (fun a' => wpList P l.toArray Q (l.drop n) a' w2) (l.take n) a) : (Code.region id l.toArray true).wp P Q a w :=
 wp_region_still_tail n hm hB (h _ rfl)
/-- A store's block, whatever its log, its turn, its end. -/
def stBlock (lv : Value) (mb : Nat) (n : Int) (tv dv : Value) : Obj := .cells #[lv, .map (some mb), .int .i64 n, tv, dv] 103 (0, 0)
theorem st_cells {w : World} {p mb : Nat} {lv tv dv : Value} {n : Int} (h : w.heap[p]? = some (stBlock lv mb n tv dv)) : w.cell? ⟨p, 1, none⟩ = some (.map (some mb)) ∧ w.cell? ⟨p, 2, none⟩ = some (.int .i64 n) ∧ (∀ i, w.frozen? ⟨p, i, none⟩ = false) :=
 ⟨cell_of h rfl, cell_of h rfl, free_of h⟩
theorem st_set {w : World} {p mb : Nat} {lv tv dv : Value} {n : Int} (h : w.heap[p]? = some (stBlock lv mb n tv dv)) (m : Int) : (w.setCell ⟨p, 2, none⟩ (.int .i64 m)).heap[p]? = some (stBlock lv mb m tv dv) := by
 have := heap_set (i := 2) (.int .i64 m) h
 simpa [stBlock] using this
namespace Sto
theorem size_put : ∀ (l : Pairs) (k v : S), size (put l k v) + (match get l k with | some x => k.length + x.length | none => 0) = size l + (k.length + v.length)
 | [], k, v => by simp [put, get, size]
 | p :: r, k, v => by
  unfold put get
  by_cases h : lt p.1 k = true
  ·rw [if_pos h, if_pos h]
   have := size_put r k v
   simp only [size]
   omega
  ·rw [if_neg h, if_neg h]
   by_cases hk : p.1 = k
   ·rw [if_pos hk, if_pos hk]
    simp only [size, hk]
    omega
   ·rw [if_neg hk, if_neg hk]
    simp only [size]
    omega
theorem size_del : ∀ (l : Pairs) (k : S), size (del l k) + (match get l k with | some x => k.length + x.length | none => 0) = size l
 | [], k => by simp [del, get, size]
 | p :: r, k => by
  unfold del get
  by_cases h : lt p.1 k = true
  ·rw [if_pos h, if_pos h]
   have := size_del r k
   simp only [size]
   omega
  ·rw [if_neg h, if_neg h]
   by_cases hk : p.1 = k
   ·rw [if_pos hk, if_pos hk]
    simp only [size, hk]
    omega
   ·rw [if_neg hk, if_neg hk]
    simp only [size]
    omega
theorem del_length : ∀ (l : Pairs) (k : S), (del l k).length ≤ l.length
 | [], k => by simp [del]
 | p :: r, k => by
  unfold del
  have := del_length r k
  split
  ·simp; omega
  ·split
   ·simp
   ·simp
theorem here_get (l : Pairs) (k : S) : here l k = (get l k).isSome := rfl
theorem put_del : ∀ (l : Pairs) (k v : S), Rise l → put (del l k) k v = put l k v
 | [], k, v, _ => rfl
 | p :: r, k, v, h => by
  unfold del
  by_cases h1 : lt p.1 k = true
  ·rw [if_pos h1]
   simp only [put, if_pos h1, put_del r k v (List.Pairwise.of_cons h)]
  ·rw [if_neg h1]
   by_cases hk : p.1 = k
   ·rw [if_pos hk]
    simp only [put, if_neg h1, if_pos hk]
    cases r with
    | nil => rfl
    | cons q r =>
     have hq : lt p.1 q.1 = true := List.rel_of_pairwise_cons h (by simp)
     rw [hk] at hq
     have h2 : lt q.1 k = false := lt_asymm hq
     have h3 : q.1 ≠ k := fun e => lt_ne hq e.symm
     simp [put, h2, h3]
   ·rw [if_neg hk]
end Sto
theorem wpList_delete_map (w : World) {ops : Array Oper} {rest : List Oper} {o : Oper} {a : Act} {Q : Exit → Act → World → Prop} (hgd : o.guard = none) (mo x : Operand)
  (hop : o.op = .call { callee := .builtin .delete, args := #[mo, x], argTypes := #[101, 9] }) (b : Nat) (l : Sto.Pairs) (k : Sto.S) (hm : a.eval mo = .map (some b)) (hx : a.eval x = .string ⟨k.toArray⟩)
  (hmap : MapAt w b l) (hr : Sto.Rise l) (hk : k.length ≤ maxLen) (h : ∀ w', MapAt w' b (Sto.del l k) → w.grownBy w' (some b) → wpList Tryz.prog ops Q rest (a.put o.dst (.tuple #[])) w') : wpList Tryz.prog ops Q (o :: rest) a w := by
 refine wpList_plain hgd fun K hK => ?_
 obtain ⟨w', hrun, h1, h2⟩ := hmap.del hr k hk o.type
 unfold Oper.wp
 simp [execOp, hop, resolve, invoke, builtin, hm, hx, hrun, Result.andThen]
 exact hK _ _ (h w' h1 h2)
theorem wpList_update_map (w : World) {ops : Array Oper} {rest : List Oper} {o : Oper} {a : Act} {Q : Exit → Act → World → Prop} (hgd : o.guard = none) (mo x v : Operand)
  (hop : o.op = .mapUpdate 101 mo x v) (b : Nat) (l : Sto.Pairs) (k y : Sto.S) (hm : a.eval mo = .map (some b)) (hx : a.eval x = .string ⟨k.toArray⟩) (hv : a.eval v = .string ⟨y.toArray⟩)
  (hmap : MapAt w b l) (hr : Sto.Rise l) (hl : l.length < maxLen) (hk : k.length ≤ maxLen) (hy : y.length ≤ maxLen) (h : ∀ w', MapAt w' b (Sto.put l k y) → w.grownBy w' (some b) → wpList Tryz.prog ops Q rest (a.put o.dst undef) w') : wpList Tryz.prog ops Q (o :: rest) a w := by
 refine wpList_plain hgd fun K hK => ?_
 obtain ⟨w', hrun, h1, h2⟩ := hmap.put hr hl k y hk hy
 unfold Oper.wp
 simp [execOp, hop, hm, hx, hv, hrun, Result.andThen]
 exact hK _ _ (h w' h1 h2)
set_option maxHeartbeats 4000000 in
set_option maxRecDepth 100000 in
theorem does11_any (p mb : Nat) (lv tv dv : Value) (w : World) (l : Sto.Pairs) (v : Value) (c : List Sto.Ch) (hp : w.heap[p]? = some (stBlock lv mb (Sto.size l) tv dv)) (hmap : MapAt w mb l) (hch : ChsAt w v c)
  (hg : Sto.Good l) (hf : ∀ x ∈ c, Sto.Fine x) (hl : l.length ≤ 2199023255552) (hcl : c.length ≤ 2199023255552) :
  Calls Tryz.prog 51 #[.pointer (some ⟨p, 0, none⟩), v] w fun e w' => e = .returned (.bool (Sto.does l c).isSome) ∧ Touch (fun k => k = p ∨ k = mb) w w' ∧
   ∀ m, Sto.does l c = some m → MapAt w' mb m ∧ w'.heap[p]? = some (stBlock lv mb (Sto.size m) tv dv) := by
 have hpm : p ≠ mb := fun e => by
  obtain ⟨es, cl, h⟩ := hmap.isMap
  rw [← e, hp] at h
  cases h
 obtain ⟨ao, cap, rfl, hn1, hn2, hrd⟩ := chsAt_read hch
 have HRD := Lib.hid hrd
 have HG := Lib.hid hg
 have HF := Lib.hid hf
 have HP := Lib.hid hp
 have HM := Lib.hid hmap
 have HCH := Lib.hid hch
 clear hrd hg hf hp hmap hch
 go_enter Tryz.func51, Tryz.ntmps51
 -- LOOP
 go_wp2_with fail
 go_loopw [11] (fun i wr => ∃ (j : Nat) (m : Sto.Pairs), i = .int .i64 j ∧ j ≤ c.length ∧ Sto.steps l (c.take j) = some m ∧ m.length ≤ l.length + j ∧ MapAt wr mb m ∧ wr.heap[p]? = some (stBlock lv mb (Sto.size m) tv dv) ∧ Touch (fun k => k = p ∨ k = mb) w wr) (fun i _ => c.length - (intOf i).toNat)
 case atStart => exact ⟨0, l, rfl, Nat.zero_le _, by simp [Sto.steps], by omega, HM.out, HP.out, Touch.refl _ _⟩
 case round =>
  obtain ⟨j, m, rfl, hj, hst, hlen, hmm, hpp, htt⟩ := hrel
  have HST := Lib.hid hst
  have HGM := Lib.hid (HG.out.steps (fun x hx => HF.out x (List.mem_of_mem_take hx)) hst)
  have HM1 := Lib.hid hmm
  have HP1 := Lib.hid hpp
  have HT1 := Lib.hid htt
  clear hst hmm hpp htt
  by_cases hlt : j < c.length
  ·obtain ⟨⟨pu, ky, vl⟩, hx⟩ : ∃ x, c[j]? = some x := ⟨_, List.getElem?_eq_getElem hlt⟩
   obtain ⟨g, rfl, hg, a0, a1, a2⟩ := HRD.out j _ hx
   simp only at a0 a1 a2
   have hgp : ¬ (g = p ∨ g = mb) := by
    obtain ⟨x0, hx0⟩ : ∃ x, c[0]? = some x := ⟨_, List.getElem?_eq_getElem (by omega)⟩
    obtain ⟨g', e', _, _, a1', _⟩ := HRD.out 0 _ hx0
    have e1 : g = g' := by injection e' with e'; injection e'
    subst e1
    rintro (rfl | rfl)
    ·have := (st_cells HP.out).1
     rw [Nat.zero_mul, Nat.zero_add] at a1'
     rw [this] at a1'; cases a1'
    ·obtain ⟨es, cl, h⟩ := HM.out.isMap
     simp only [World.cell?, h] at a1'
     cases a1'
   have hbk := HT1.out.block g hg hgp
   have c0 := (World.cell?_of_block (a := ⟨g, j * 3, none⟩) hbk).trans a0
   have c1 := (World.cell?_of_block (a := ⟨g, j * 3 + 1, none⟩) hbk).trans a1
   have c2 := (World.cell?_of_block (a := ⟨g, j * 3 + 2, none⟩) hbk).trans a2
   have HFX := Lib.hid (HF.out _ (List.mem_of_getElem? hx))
   have hkl : ky.length ≤ 64 := (Sto.keyOk_iff.1 HFX.out.key).2
   have hvl : vl.length ≤ 4096 := Sto.valueOk_iff.1 HFX.out.value
   have HS1 := Lib.hid (Sto.steps_take HST.out hx)
   have hsz1 := Sto.size_put m ky vl
   have hsz2 := Sto.size_del m ky
   have hszm : Sto.size m ≤ 4611686018427387904 := by
    have := Sto.size_ok HGM.out.ok
    omega
   have hgsz : ∀ y, Sto.get m ky = some y → y.length ≤ 4096 := fun y hy => by
    rw [Sto.get_place] at hy
    cases hpl : m[Sto.place m ky]? with
    | none => rw [hpl] at hy; cases hy
    | some x =>
     rw [hpl] at hy
     simp only at hy
     split at hy
     ·cases hy
      exact Sto.valueOk_iff.1 (HGM.out.ok _ (List.mem_of_getElem? hpl)).2
     ·cases hy
   have HGS := Lib.hid hgsz
   have HZ1 := Lib.hid hsz1
   have HZ2 := Lib.hid hsz2
   obtain ⟨o, ho⟩ : ∃ o, Sto.get m ky = o := ⟨_, rfl⟩
   have hhere : Sto.here m ky = o.isSome := by rw [Sto.here_get, ho]
   have HO := Lib.hid ho
   have HHE := Lib.hid hhere
   clear hx a0 a1 a2 hsz1 hsz2 hgsz ho hhere hbk
   obtain ⟨gb, hgb⟩ : ∃ g, wr.heap.size = g := ⟨_, rfl⟩
   have hnw := heap_new wr (.cells #[.bool pu, .string ⟨ky.toArray⟩, .string ⟨vl.toArray⟩] 116)
   have hbw := balloc wr (.cells #[.bool pu, .string ⟨ky.toArray⟩, .string ⟨vl.toArray⟩] 116)
   obtain ⟨W1, hW1⟩ : ∃ W, wr.alloc (.cells #[.bool pu, .string ⟨ky.toArray⟩, .string ⟨vl.toArray⟩] 116) = W := ⟨_, rfl⟩
   rw [hW1] at hnw hbw
   rw [hgb] at hnw
   have HNW := Lib.hid hnw
   have hgbp : gb ≠ p := by have := heap_lt HP1.out; omega
   have hgbm : gb ≠ mb := by have := HM1.out.lt; omega
   have HM2 := Lib.hid (HM1.out.below hbw)
   have HP2 : Hid (W1.heap[p]? = some (stBlock lv mb (Sto.size m) tv dv)) := Lib.hid (stays HP1.out hbw)
   have HT2 : Hid (Touch (fun k => k = p ∨ k = mb) w W1) := Lib.hid (Touch.trans HT1.out (Touch.of_below (S := fun _ => False) hbw) (fun _ _ h => h.elim))
   have e0 := cell_of (i := 0) hnw rfl
   have e1 := cell_of (i := 1) hnw rfl
   have e2 := cell_of (i := 2) hnw rfl
   obtain ⟨q1, q2, _⟩ := st_cells HP2.out
   have hlook : ∀ n, (Instr.lookup 101 (.map (some mb)) (.string ⟨ky.toArray⟩) true).run Tryz.prog (W1.drewN n) = .ok (.tuple #[.string ⟨(o.getD []).toArray⟩, .bool o.isSome]) (W1.drewN n) := fun n => by
    have h := (HM2.out.below (below_drewN (Below.refl _ W1) n)).look HGM.out.rise ky (by unfold maxLen; omega)
    rw [HO.out, HHE.out] at h
    exact h
   clear hnw hbw
   cases pu with
  | false =>
   cases o with
   | none =>
   have HD : Hid (Sto.does l c = none) := Lib.hid (by
    have h1 : Sto.step m ⟨false, ky, vl⟩ = none := by unfold Sto.step; rw [if_neg (by simp)]; simp only []; rw [HHE.out]; rfl
    have h2 := HS1.out
    rw [h1] at h2
    unfold Sto.does
    rw [Sto.steps_none h2]; rfl)
   go_wp2_with fail
   try rw [hgb]
   try rw [hW1]
   go_quiet (fail)
   rename_i nq
   have e0' := cell_later (below_drewN (Below.refl _ W1) nq) e0
   have e2' := cell_later (below_drewN (Below.refl _ W1) nq) e2
   go_wp2
   go_ret
   exact ⟨by rw [HD.out]; rfl, Touch.trans HT2.out (Touch.of_below (S := fun _ => False) (below_drewN (Below.refl _ W1) nq)) (fun _ _ h => h.elim), fun m' hm' => (by rw [HD.out] at hm'; cases hm')⟩
   | some y =>
   have hyl := HGS.out y HO.out
   have hst1 : Sto.step m ⟨false, ky, vl⟩ = some (Sto.del m ky) := by unfold Sto.step; rw [if_neg (by simp)]; simp only []; rw [HHE.out]; rfl
   go_wp2_with fail
   try rw [hgb]
   try rw [hW1]
   go_quiet (fail)
   rename_i nq
   have e0' := cell_later (below_drewN (Below.refl _ W1) nq) e0
   have e1' := cell_later (below_drewN (Below.refl _ W1) nq) e1
   have e2' := cell_later (below_drewN (Below.refl _ W1) nq) e2
   have HM3 := Lib.hid (HM2.out.below (below_drewN (Below.refl _ W1) nq))
   have HP3 : Hid ((W1.drewN nq).heap[p]? = some (stBlock lv mb (Sto.size m) tv dv)) := Lib.hid (stays HP2.out (below_drewN (Below.refl _ W1) nq))
   have HNW3 : Hid ((W1.drewN nq).heap[gb]? = some (.cells #[.bool false, .string ⟨ky.toArray⟩, .string ⟨vl.toArray⟩] 116 (0, 0))) := Lib.hid (stays HNW.out (below_drewN (Below.refl _ W1) nq))
   have HT3 : Hid (Touch (fun k => k = p ∨ k = mb) w (W1.drewN nq)) := Lib.hid (Touch.trans HT2.out (Touch.of_below (S := fun _ => False) (below_drewN (Below.refl _ W1) nq)) (fun _ _ h => h.elim))
   clear hlook e0 e1 e2 q1 q2 hW1
   go_wp2_with fail
   have HGD := Lib.hid (HGM.out.del ky)
   have hzz : Sto.size (Sto.del m ky) + (ky.length + y.length) = Sto.size m := by have := HZ2.out; rw [HO.out] at this; exact this
   refine region_tail 13 (by kernel_rfl) (by kernel_rfl) ?_
   intro y4 hy4
   have HPy4 : Hid (y4.heap[p]? = some (stBlock lv mb (Sto.size m) tv dv)) := Lib.hid (by rw [hy4.out]; exact stays HP3.out (Below.refl _ _).drew)
   have HMy4 : Hid (MapAt y4 mb m) := Lib.hid (by rw [hy4.out]; exact HM3.out.below (Below.refl _ _).drew)
   have HNy4 : Hid (y4.heap[gb]? = some (.cells #[.bool false, .string ⟨ky.toArray⟩, .string ⟨vl.toArray⟩] 116 (0, 0))) := Lib.hid (by rw [hy4.out]; exact stays HNW3.out (Below.refl _ _).drew)
   have HTy4 : Hid (Touch (fun k => k = p ∨ k = mb) w y4) := Lib.hid (by rw [hy4.out]; exact HT3.out.drew)
   have ek4 := cell_of (i := 1) HNy4.out rfl
   have ev4 := cell_of (i := 2) HNy4.out rfl
   have ef4 := cell_of (i := 0) HNy4.out rfl
   obtain ⟨qm4, qs4, qf4⟩ := st_cells HPy4.out
   have qf24 := qf4 2
   clear qf4 hy4
   simp only [List.take_succ_cons, List.take_zero, List.drop_succ_cons, List.drop_zero]
   iterate 13 still_step
   refine wpStill_nil ?_
   go_wp2_with fail
   have hst4 := st_set HPy4.out (((Sto.size m : Nat) : Int) - ((ky.length : Int) + (y.length : Int)))
   rw [show (((Sto.size m : Nat) : Int) - ((ky.length : Int) + (y.length : Int))) = ((Sto.size (Sto.del m ky) : Nat) : Int) from by omega] at hst4
   obtain ⟨z4, hz4⟩ : ∃ W, y4.setCell ⟨p, 2, none⟩ (.int .i64 (((Sto.size m : Nat) : Int) - ((ky.length : Int) + (y.length : Int)))) = W := ⟨_, rfl⟩
   have hzt4 : Touch (· = p) y4 z4 := by rw [← hz4]; exact (Touch.refl (· = p) y4).setCell _ (fun _ => rfl)
   rw [show (((Sto.size m : Nat) : Int) - ((ky.length : Int) + (y.length : Int))) = ((Sto.size (Sto.del m ky) : Nat) : Int) from by omega] at hz4
   first | rw [hz4] | (rw [show (((Sto.size m : Nat) : Int) - ((ky.length : Int) + (y.length : Int))) = ((Sto.size (Sto.del m ky) : Nat) : Int) from by omega]; rw [hz4])
   rw [hz4] at hst4
   have HPz4 := Lib.hid hst4
   have HMz4 := Lib.hid (HMy4.out.touch hzt4 (fun e => hpm e.symm))
   have HNWz4 : Hid (z4.heap[gb]? = some (.cells #[.bool false, .string ⟨ky.toArray⟩, .string ⟨vl.toArray⟩] 116 (0, 0))) := Lib.hid ((hzt4.block gb (heap_lt HNy4.out) hgbp).trans HNy4.out)
   have HTz4 : Hid (Touch (fun k => k = p ∨ k = mb) w z4) := Lib.hid (Touch.trans HTy4.out hzt4 (fun _ _ e => .inl e))
   clear hst4 hz4 hzt4 ek4 ev4 ef4 qm4 qs4 qf24
   try go_wp2_with fail
   refine region_tail 6 (by kernel_rfl) (by kernel_rfl) ?_
   intro y5 hy5
   have HPy5 : Hid (y5.heap[p]? = some (stBlock lv mb (Sto.size (Sto.del m ky)) tv dv)) := Lib.hid (by rw [hy5.out]; exact stays HPz4.out (Below.refl _ _).drew)
   have HMy5 : Hid (MapAt y5 mb m) := Lib.hid (by rw [hy5.out]; exact HMz4.out.below (Below.refl _ _).drew)
   have HNy5 : Hid (y5.heap[gb]? = some (.cells #[.bool false, .string ⟨ky.toArray⟩, .string ⟨vl.toArray⟩] 116 (0, 0))) := Lib.hid (by rw [hy5.out]; exact stays HNWz4.out (Below.refl _ _).drew)
   have HTy5 : Hid (Touch (fun k => k = p ∨ k = mb) w y5) := Lib.hid (by rw [hy5.out]; exact HTz4.out.drew)
   have ek5 := cell_of (i := 1) HNy5.out rfl
   have ev5 := cell_of (i := 2) HNy5.out rfl
   have ef5 := cell_of (i := 0) HNy5.out rfl
   obtain ⟨qm5, qs5, qf5⟩ := st_cells HPy5.out
   have qf25 := qf5 2
   clear qf5 hy5
   simp only [List.take_succ_cons, List.take_zero, List.drop_succ_cons, List.drop_zero]
   iterate 6 still_step
   refine wpStill_nil ?_
   go_wp2_with (first | (at_delete; refine wpList_delete_map _ rfl (.tmp 56) (.tmp 58) rfl mb m ky rfl rfl HMy5.out HGM.out.rise (by unfold maxLen; omega) ?_; intro z5 hmz5 hgz5; have hzt5 := touch_of_grown hgz5; have HMz5 := Lib.hid hmz5; have hpz5 : ¬ (some mb = some p) := fun e => hpm (Option.some.inj e).symm; have HPz5 : Hid (z5.heap[p]? = some (stBlock lv mb (Sto.size (Sto.del m ky)) tv dv)) := Lib.hid ((hzt5.block p (heap_lt HPy5.out) hpz5).trans HPy5.out); have HNWz5 : Hid (z5.heap[gb]? = some (.cells #[.bool false, .string ⟨ky.toArray⟩, .string ⟨vl.toArray⟩] 116 (0, 0))) := Lib.hid ((hzt5.block gb (heap_lt HNy5.out) (fun e => hgbm (Option.some.inj e).symm)).trans HNy5.out); have HTz5 : Hid (Touch (fun k => k = p ∨ k = mb) w z5) := Lib.hid (Touch.trans HTy5.out hzt5 (fun _ _ e => .inr (Option.some.inj e).symm)); have ez5 := cell_of (i := 0) HNWz5.out rfl; clear hmz5 hgz5 hzt5 ek5 ev5 ef5 qm5 qs5 qf25))
   have hlen2 := Sto.step_length hst1
   have HS2 : Hid (Sto.steps l (c.take (j + 1)) = some (Sto.del m ky)) := Lib.hid (by rw [HS1.out, hst1])
   go_roundw
   all_goals first
    | (simp [intOf]; omega)
    | exact ⟨j + 1, _, by go_num, by omega, HS2.out, by omega, HMz5.out, HPz5.out, HTz5.out⟩
  | true =>
   cases o with
   | none =>
    have hst1 : Sto.step m ⟨true, ky, vl⟩ = some (Sto.put m ky vl) := by unfold Sto.step; rw [if_pos rfl]; simp only []; rw [HO.out]; rfl
    go_wp2_with fail
    try rw [hgb]
    try rw [hW1]
    go_quiet (fail)
    rename_i nq
    have e0' := cell_later (below_drewN (Below.refl _ W1) nq) e0
    have e1' := cell_later (below_drewN (Below.refl _ W1) nq) e1
    have e2' := cell_later (below_drewN (Below.refl _ W1) nq) e2
    have HM3 := Lib.hid (HM2.out.below (below_drewN (Below.refl _ W1) nq))
    have HP3 : Hid ((W1.drewN nq).heap[p]? = some (stBlock lv mb (Sto.size m) tv dv)) := Lib.hid (stays HP2.out (below_drewN (Below.refl _ W1) nq))
    have HNW3 : Hid ((W1.drewN nq).heap[gb]? = some (.cells #[.bool true, .string ⟨ky.toArray⟩, .string ⟨vl.toArray⟩] 116 (0, 0))) := Lib.hid (stays HNW.out (below_drewN (Below.refl _ W1) nq))
    have HT3 : Hid (Touch (fun k => k = p ∨ k = mb) w (W1.drewN nq)) := Lib.hid (Touch.trans HT2.out (Touch.of_below (S := fun _ => False) (below_drewN (Below.refl _ W1) nq)) (fun _ _ h => h.elim))
    clear hlook e0 e1 e2 q1 q2 hW1
    go_wp2_with fail
    have hzp : Sto.size (Sto.put m ky vl) = Sto.size m + (ky.length + vl.length) := by have := HZ1.out; rw [HO.out] at this; simp only at this; omega
    refine region_tail 14 (by kernel_rfl) (by kernel_rfl) ?_
    intro y6 hy6
    have HPy6 : Hid (y6.heap[p]? = some (stBlock lv mb (Sto.size m) tv dv)) := Lib.hid (by rw [hy6.out]; exact stays HP3.out (Below.refl _ _).drew)
    have HMy6 : Hid (MapAt y6 mb m) := Lib.hid (by rw [hy6.out]; exact HM3.out.below (Below.refl _ _).drew)
    have HNy6 : Hid (y6.heap[gb]? = some (.cells #[.bool true, .string ⟨ky.toArray⟩, .string ⟨vl.toArray⟩] 116 (0, 0))) := Lib.hid (by rw [hy6.out]; exact stays HNW3.out (Below.refl _ _).drew)
    have HTy6 : Hid (Touch (fun k => k = p ∨ k = mb) w y6) := Lib.hid (by rw [hy6.out]; exact HT3.out.drew)
    have ek6 := cell_of (i := 1) HNy6.out rfl
    have ev6 := cell_of (i := 2) HNy6.out rfl
    have ef6 := cell_of (i := 0) HNy6.out rfl
    obtain ⟨qm6, qs6, qf6⟩ := st_cells HPy6.out
    have qf26 := qf6 2
    clear qf6 hy6
    simp only [List.take_succ_cons, List.take_zero, List.drop_succ_cons, List.drop_zero]
    iterate 14 still_step
    refine wpStill_nil ?_
    go_wp2_with fail
    have hst6 := st_set HPy6.out (((Sto.size m : Nat) : Int) + ((ky.length : Int) + (vl.length : Int)))
    rw [show (((Sto.size m : Nat) : Int) + ((ky.length : Int) + (vl.length : Int))) = ((Sto.size (Sto.put m ky vl) : Nat) : Int) from by omega] at hst6
    obtain ⟨z6, hz6⟩ : ∃ W, y6.setCell ⟨p, 2, none⟩ (.int .i64 (((Sto.size m : Nat) : Int) + ((ky.length : Int) + (vl.length : Int)))) = W := ⟨_, rfl⟩
    have hzt6 : Touch (· = p) y6 z6 := by rw [← hz6]; exact (Touch.refl (· = p) y6).setCell _ (fun _ => rfl)
    rw [show (((Sto.size m : Nat) : Int) + ((ky.length : Int) + (vl.length : Int))) = ((Sto.size (Sto.put m ky vl) : Nat) : Int) from by omega] at hz6
    first | rw [hz6] | (rw [show (((Sto.size m : Nat) : Int) + ((ky.length : Int) + (vl.length : Int))) = ((Sto.size (Sto.put m ky vl) : Nat) : Int) from by omega]; rw [hz6])
    rw [hz6] at hst6
    have HPz6 := Lib.hid hst6
    have HMz6 := Lib.hid (HMy6.out.touch hzt6 (fun e => hpm e.symm))
    have HNWz6 : Hid (z6.heap[gb]? = some (.cells #[.bool true, .string ⟨ky.toArray⟩, .string ⟨vl.toArray⟩] 116 (0, 0))) := Lib.hid ((hzt6.block gb (heap_lt HNy6.out) hgbp).trans HNy6.out)
    have HTz6 : Hid (Touch (fun k => k = p ∨ k = mb) w z6) := Lib.hid (Touch.trans HTy6.out hzt6 (fun _ _ e => .inl e))
    clear hst6 hz6 hzt6 ek6 ev6 ef6 qm6 qs6 qf26
    try go_wp2_with fail
    refine region_tail 8 (by kernel_rfl) (by kernel_rfl) ?_
    intro y7 hy7
    have HPy7 : Hid (y7.heap[p]? = some (stBlock lv mb (Sto.size (Sto.put m ky vl)) tv dv)) := Lib.hid (by rw [hy7.out]; exact stays HPz6.out (Below.refl _ _).drew)
    have HMy7 : Hid (MapAt y7 mb m) := Lib.hid (by rw [hy7.out]; exact HMz6.out.below (Below.refl _ _).drew)
    have HNy7 : Hid (y7.heap[gb]? = some (.cells #[.bool true, .string ⟨ky.toArray⟩, .string ⟨vl.toArray⟩] 116 (0, 0))) := Lib.hid (by rw [hy7.out]; exact stays HNWz6.out (Below.refl _ _).drew)
    have HTy7 : Hid (Touch (fun k => k = p ∨ k = mb) w y7) := Lib.hid (by rw [hy7.out]; exact HTz6.out.drew)
    have ek7 := cell_of (i := 1) HNy7.out rfl
    have ev7 := cell_of (i := 2) HNy7.out rfl
    have ef7 := cell_of (i := 0) HNy7.out rfl
    obtain ⟨qm7, qs7, qf7⟩ := st_cells HPy7.out
    have qf27 := qf7 2
    clear qf7 hy7
    simp only [List.take_succ_cons, List.take_zero, List.drop_succ_cons, List.drop_zero]
    iterate 8 still_step
    refine wpStill_nil ?_
    go_wp2_with (first | (at_mapUpdate; refine wpList_update_map _ rfl (.tmp 78) (.tmp 80) (.tmp 82) rfl mb m ky vl rfl rfl rfl HMy7.out HGM.out.rise (by unfold maxLen; have := Sto.del_length m ky; omega) (by unfold maxLen; omega) (by unfold maxLen; omega) ?_; intro z7 hmz7 hgz7; have hzt7 := touch_of_grown hgz7; have HMz7 := Lib.hid hmz7; have hpz7 : ¬ (some mb = some p) := fun e => hpm (Option.some.inj e).symm; have HPz7 : Hid (z7.heap[p]? = some (stBlock lv mb (Sto.size (Sto.put m ky vl)) tv dv)) := Lib.hid ((hzt7.block p (heap_lt HPy7.out) hpz7).trans HPy7.out); have HNWz7 : Hid (z7.heap[gb]? = some (.cells #[.bool true, .string ⟨ky.toArray⟩, .string ⟨vl.toArray⟩] 116 (0, 0))) := Lib.hid ((hzt7.block gb (heap_lt HNy7.out) (fun e => hgbm (Option.some.inj e).symm)).trans HNy7.out); have HTz7 : Hid (Touch (fun k => k = p ∨ k = mb) w z7) := Lib.hid (Touch.trans HTy7.out hzt7 (fun _ _ e => .inr (Option.some.inj e).symm)); have ez7 := cell_of (i := 0) HNWz7.out rfl; clear hmz7 hgz7 hzt7 ek7 ev7 ef7 qm7 qs7 qf27))
    have hlen2 := Sto.step_length hst1
    have HS2 : Hid (Sto.steps l (c.take (j + 1)) = some (Sto.put m ky vl)) := Lib.hid (by rw [HS1.out, hst1])
    go_roundw
    all_goals first
     | (simp [intOf]; omega)
     | exact ⟨j + 1, _, by go_num, by omega, HS2.out, by omega, HMz7.out, HPz7.out, HTz7.out⟩
   | some y =>
    by_cases hyv : y = vl
    ·have heq : (y == vl) = true := beq_iff_eq.2 hyv
     have HD : Hid (Sto.does l c = none) := Lib.hid (by
      have h1 : Sto.step m ⟨true, ky, vl⟩ = none := by unfold Sto.step; rw [if_pos rfl]; simp only []; rw [HO.out, if_pos (by rw [hyv])]
      have h2 := HS1.out
      rw [h1] at h2
      unfold Sto.does
      rw [Sto.steps_none h2]; rfl)
     go_wp2_with fail
     try rw [hgb]
     try rw [hW1]
     go_quiet (fail)
     rename_i nq
     have e0' := cell_later (below_drewN (Below.refl _ W1) nq) e0
     have e2' := cell_later (below_drewN (Below.refl _ W1) nq) e2
     go_wp2
     go_ret
     exact ⟨by rw [HD.out]; rfl, Touch.trans HT2.out (Touch.of_below (S := fun _ => False) (below_drewN (Below.refl _ W1) nq)) (fun _ _ h => h.elim), fun m' hm' => (by rw [HD.out] at hm'; cases hm')⟩
    ·have heq : (y == vl) = false := beq_eq_false_iff_ne.2 hyv
     have hyl := HGS.out y HO.out
     have hst1 : Sto.step m ⟨true, ky, vl⟩ = some (Sto.put m ky vl) := by unfold Sto.step; rw [if_pos rfl]; simp only []; rw [HO.out, if_neg (fun e => hyv (Option.some.inj e))]
     go_wp2_with fail
     try rw [hgb]
     try rw [hW1]
     go_quiet (fail)
     rename_i nq
     have e0' := cell_later (below_drewN (Below.refl _ W1) nq) e0
     have e1' := cell_later (below_drewN (Below.refl _ W1) nq) e1
     have e2' := cell_later (below_drewN (Below.refl _ W1) nq) e2
     have HM3 := Lib.hid (HM2.out.below (below_drewN (Below.refl _ W1) nq))
     have HP3 : Hid ((W1.drewN nq).heap[p]? = some (stBlock lv mb (Sto.size m) tv dv)) := Lib.hid (stays HP2.out (below_drewN (Below.refl _ W1) nq))
     have HNW3 : Hid ((W1.drewN nq).heap[gb]? = some (.cells #[.bool true, .string ⟨ky.toArray⟩, .string ⟨vl.toArray⟩] 116 (0, 0))) := Lib.hid (stays HNW.out (below_drewN (Below.refl _ W1) nq))
     have HT3 : Hid (Touch (fun k => k = p ∨ k = mb) w (W1.drewN nq)) := Lib.hid (Touch.trans HT2.out (Touch.of_below (S := fun _ => False) (below_drewN (Below.refl _ W1) nq)) (fun _ _ h => h.elim))
     clear hlook e0 e1 e2 q1 q2 hW1
     go_wp2_with fail
     have HGD := Lib.hid (HGM.out.del ky)
     have hzz : Sto.size (Sto.del m ky) + (ky.length + y.length) = Sto.size m := by have := HZ2.out; rw [HO.out] at this; exact this
     refine region_tail 13 (by kernel_rfl) (by kernel_rfl) ?_
     intro y4 hy4
     have HPy4 : Hid (y4.heap[p]? = some (stBlock lv mb (Sto.size m) tv dv)) := Lib.hid (by rw [hy4.out]; exact stays HP3.out (Below.refl _ _).drew)
     have HMy4 : Hid (MapAt y4 mb m) := Lib.hid (by rw [hy4.out]; exact HM3.out.below (Below.refl _ _).drew)
     have HNy4 : Hid (y4.heap[gb]? = some (.cells #[.bool true, .string ⟨ky.toArray⟩, .string ⟨vl.toArray⟩] 116 (0, 0))) := Lib.hid (by rw [hy4.out]; exact stays HNW3.out (Below.refl _ _).drew)
     have HTy4 : Hid (Touch (fun k => k = p ∨ k = mb) w y4) := Lib.hid (by rw [hy4.out]; exact HT3.out.drew)
     have ek4 := cell_of (i := 1) HNy4.out rfl
     have ev4 := cell_of (i := 2) HNy4.out rfl
     have ef4 := cell_of (i := 0) HNy4.out rfl
     obtain ⟨qm4, qs4, qf4⟩ := st_cells HPy4.out
     have qf24 := qf4 2
     clear qf4 hy4
     simp only [List.take_succ_cons, List.take_zero, List.drop_succ_cons, List.drop_zero]
     iterate 13 still_step
     refine wpStill_nil ?_
     go_wp2_with fail
     have hst4 := st_set HPy4.out (((Sto.size m : Nat) : Int) - ((ky.length : Int) + (y.length : Int)))
     rw [show (((Sto.size m : Nat) : Int) - ((ky.length : Int) + (y.length : Int))) = ((Sto.size (Sto.del m ky) : Nat) : Int) from by omega] at hst4
     obtain ⟨z4, hz4⟩ : ∃ W, y4.setCell ⟨p, 2, none⟩ (.int .i64 (((Sto.size m : Nat) : Int) - ((ky.length : Int) + (y.length : Int)))) = W := ⟨_, rfl⟩
     have hzt4 : Touch (· = p) y4 z4 := by rw [← hz4]; exact (Touch.refl (· = p) y4).setCell _ (fun _ => rfl)
     rw [show (((Sto.size m : Nat) : Int) - ((ky.length : Int) + (y.length : Int))) = ((Sto.size (Sto.del m ky) : Nat) : Int) from by omega] at hz4
     first | rw [hz4] | (rw [show (((Sto.size m : Nat) : Int) - ((ky.length : Int) + (y.length : Int))) = ((Sto.size (Sto.del m ky) : Nat) : Int) from by omega]; rw [hz4])
     rw [hz4] at hst4
     have HPz4 := Lib.hid hst4
     have HMz4 := Lib.hid (HMy4.out.touch hzt4 (fun e => hpm e.symm))
     have HNWz4 : Hid (z4.heap[gb]? = some (.cells #[.bool true, .string ⟨ky.toArray⟩, .string ⟨vl.toArray⟩] 116 (0, 0))) := Lib.hid ((hzt4.block gb (heap_lt HNy4.out) hgbp).trans HNy4.out)
     have HTz4 : Hid (Touch (fun k => k = p ∨ k = mb) w z4) := Lib.hid (Touch.trans HTy4.out hzt4 (fun _ _ e => .inl e))
     clear hst4 hz4 hzt4 ek4 ev4 ef4 qm4 qs4 qf24
     try go_wp2_with fail
     refine region_tail 6 (by kernel_rfl) (by kernel_rfl) ?_
     intro y5 hy5
     have HPy5 : Hid (y5.heap[p]? = some (stBlock lv mb (Sto.size (Sto.del m ky)) tv dv)) := Lib.hid (by rw [hy5.out]; exact stays HPz4.out (Below.refl _ _).drew)
     have HMy5 : Hid (MapAt y5 mb m) := Lib.hid (by rw [hy5.out]; exact HMz4.out.below (Below.refl _ _).drew)
     have HNy5 : Hid (y5.heap[gb]? = some (.cells #[.bool true, .string ⟨ky.toArray⟩, .string ⟨vl.toArray⟩] 116 (0, 0))) := Lib.hid (by rw [hy5.out]; exact stays HNWz4.out (Below.refl _ _).drew)
     have HTy5 : Hid (Touch (fun k => k = p ∨ k = mb) w y5) := Lib.hid (by rw [hy5.out]; exact HTz4.out.drew)
     have ek5 := cell_of (i := 1) HNy5.out rfl
     have ev5 := cell_of (i := 2) HNy5.out rfl
     have ef5 := cell_of (i := 0) HNy5.out rfl
     obtain ⟨qm5, qs5, qf5⟩ := st_cells HPy5.out
     have qf25 := qf5 2
     clear qf5 hy5
     simp only [List.take_succ_cons, List.take_zero, List.drop_succ_cons, List.drop_zero]
     iterate 6 still_step
     refine wpStill_nil ?_
     go_wp2_with (first | (at_delete; refine wpList_delete_map _ rfl (.tmp 56) (.tmp 58) rfl mb m ky rfl rfl HMy5.out HGM.out.rise (by unfold maxLen; omega) ?_; intro z5 hmz5 hgz5; have hzt5 := touch_of_grown hgz5; have HMz5 := Lib.hid hmz5; have hpz5 : ¬ (some mb = some p) := fun e => hpm (Option.some.inj e).symm; have HPz5 : Hid (z5.heap[p]? = some (stBlock lv mb (Sto.size (Sto.del m ky)) tv dv)) := Lib.hid ((hzt5.block p (heap_lt HPy5.out) hpz5).trans HPy5.out); have HNWz5 : Hid (z5.heap[gb]? = some (.cells #[.bool true, .string ⟨ky.toArray⟩, .string ⟨vl.toArray⟩] 116 (0, 0))) := Lib.hid ((hzt5.block gb (heap_lt HNy5.out) (fun e => hgbm (Option.some.inj e).symm)).trans HNy5.out); have HTz5 : Hid (Touch (fun k => k = p ∨ k = mb) w z5) := Lib.hid (Touch.trans HTy5.out hzt5 (fun _ _ e => .inr (Option.some.inj e).symm)); have ez5 := cell_of (i := 0) HNWz5.out rfl; clear hmz5 hgz5 hzt5 ek5 ev5 ef5 qm5 qs5 qf25))
     go_wp2_with fail
     have hzp : Sto.size (Sto.put m ky vl) = Sto.size (Sto.del m ky) + (ky.length + vl.length) := by have := HZ1.out; rw [HO.out] at this; simp only at this; omega
     refine region_tail 14 (by kernel_rfl) (by kernel_rfl) ?_
     intro y6 hy6
     have HPy6 : Hid (y6.heap[p]? = some (stBlock lv mb (Sto.size (Sto.del m ky)) tv dv)) := Lib.hid (by rw [hy6.out]; exact stays HPz5.out (Below.refl _ _).drew)
     have HMy6 : Hid (MapAt y6 mb (Sto.del m ky)) := Lib.hid (by rw [hy6.out]; exact HMz5.out.below (Below.refl _ _).drew)
     have HNy6 : Hid (y6.heap[gb]? = some (.cells #[.bool true, .string ⟨ky.toArray⟩, .string ⟨vl.toArray⟩] 116 (0, 0))) := Lib.hid (by rw [hy6.out]; exact stays HNWz5.out (Below.refl _ _).drew)
     have HTy6 : Hid (Touch (fun k => k = p ∨ k = mb) w y6) := Lib.hid (by rw [hy6.out]; exact HTz5.out.drew)
     have ek6 := cell_of (i := 1) HNy6.out rfl
     have ev6 := cell_of (i := 2) HNy6.out rfl
     have ef6 := cell_of (i := 0) HNy6.out rfl
     obtain ⟨qm6, qs6, qf6⟩ := st_cells HPy6.out
     have qf26 := qf6 2
     clear qf6 hy6
     simp only [List.take_succ_cons, List.take_zero, List.drop_succ_cons, List.drop_zero]
     iterate 14 still_step
     refine wpStill_nil ?_
     go_wp2_with fail
     have hst6 := st_set HPy6.out (((Sto.size (Sto.del m ky) : Nat) : Int) + ((ky.length : Int) + (vl.length : Int)))
     rw [show (((Sto.size (Sto.del m ky) : Nat) : Int) + ((ky.length : Int) + (vl.length : Int))) = ((Sto.size (Sto.put m ky vl) : Nat) : Int) from by omega] at hst6
     obtain ⟨z6, hz6⟩ : ∃ W, y6.setCell ⟨p, 2, none⟩ (.int .i64 (((Sto.size (Sto.del m ky) : Nat) : Int) + ((ky.length : Int) + (vl.length : Int)))) = W := ⟨_, rfl⟩
     have hzt6 : Touch (· = p) y6 z6 := by rw [← hz6]; exact (Touch.refl (· = p) y6).setCell _ (fun _ => rfl)
     rw [show (((Sto.size (Sto.del m ky) : Nat) : Int) + ((ky.length : Int) + (vl.length : Int))) = ((Sto.size (Sto.put m ky vl) : Nat) : Int) from by omega] at hz6
     first | rw [hz6] | (rw [show (((Sto.size (Sto.del m ky) : Nat) : Int) + ((ky.length : Int) + (vl.length : Int))) = ((Sto.size (Sto.put m ky vl) : Nat) : Int) from by omega]; rw [hz6])
     rw [hz6] at hst6
     have HPz6 := Lib.hid hst6
     have HMz6 := Lib.hid (HMy6.out.touch hzt6 (fun e => hpm e.symm))
     have HNWz6 : Hid (z6.heap[gb]? = some (.cells #[.bool true, .string ⟨ky.toArray⟩, .string ⟨vl.toArray⟩] 116 (0, 0))) := Lib.hid ((hzt6.block gb (heap_lt HNy6.out) hgbp).trans HNy6.out)
     have HTz6 : Hid (Touch (fun k => k = p ∨ k = mb) w z6) := Lib.hid (Touch.trans HTy6.out hzt6 (fun _ _ e => .inl e))
     clear hst6 hz6 hzt6 ek6 ev6 ef6 qm6 qs6 qf26
     try go_wp2_with fail
     refine region_tail 8 (by kernel_rfl) (by kernel_rfl) ?_
     intro y7 hy7
     have HPy7 : Hid (y7.heap[p]? = some (stBlock lv mb (Sto.size (Sto.put m ky vl)) tv dv)) := Lib.hid (by rw [hy7.out]; exact stays HPz6.out (Below.refl _ _).drew)
     have HMy7 : Hid (MapAt y7 mb (Sto.del m ky)) := Lib.hid (by rw [hy7.out]; exact HMz6.out.below (Below.refl _ _).drew)
     have HNy7 : Hid (y7.heap[gb]? = some (.cells #[.bool true, .string ⟨ky.toArray⟩, .string ⟨vl.toArray⟩] 116 (0, 0))) := Lib.hid (by rw [hy7.out]; exact stays HNWz6.out (Below.refl _ _).drew)
     have HTy7 : Hid (Touch (fun k => k = p ∨ k = mb) w y7) := Lib.hid (by rw [hy7.out]; exact HTz6.out.drew)
     have ek7 := cell_of (i := 1) HNy7.out rfl
     have ev7 := cell_of (i := 2) HNy7.out rfl
     have ef7 := cell_of (i := 0) HNy7.out rfl
     obtain ⟨qm7, qs7, qf7⟩ := st_cells HPy7.out
     have qf27 := qf7 2
     clear qf7 hy7
     simp only [List.take_succ_cons, List.take_zero, List.drop_succ_cons, List.drop_zero]
     iterate 8 still_step
     refine wpStill_nil ?_
     go_wp2_with (first | (at_mapUpdate; refine wpList_update_map _ rfl (.tmp 78) (.tmp 80) (.tmp 82) rfl mb (Sto.del m ky) ky vl rfl rfl rfl HMy7.out HGD.out.rise (by unfold maxLen; have := Sto.del_length m ky; omega) (by unfold maxLen; omega) (by unfold maxLen; omega) ?_; intro z7 hmz7 hgz7; have hzt7 := touch_of_grown hgz7; have HMz7 := Lib.hid hmz7; have hpz7 : ¬ (some mb = some p) := fun e => hpm (Option.some.inj e).symm; have HPz7 : Hid (z7.heap[p]? = some (stBlock lv mb (Sto.size (Sto.put m ky vl)) tv dv)) := Lib.hid ((hzt7.block p (heap_lt HPy7.out) hpz7).trans HPy7.out); have HNWz7 : Hid (z7.heap[gb]? = some (.cells #[.bool true, .string ⟨ky.toArray⟩, .string ⟨vl.toArray⟩] 116 (0, 0))) := Lib.hid ((hzt7.block gb (heap_lt HNy7.out) (fun e => hgbm (Option.some.inj e).symm)).trans HNy7.out); have HTz7 : Hid (Touch (fun k => k = p ∨ k = mb) w z7) := Lib.hid (Touch.trans HTy7.out hzt7 (fun _ _ e => .inr (Option.some.inj e).symm)); have ez7 := cell_of (i := 0) HNWz7.out rfl; clear hmz7 hgz7 hzt7 ek7 ev7 ef7 qm7 qs7 qf27))
     have hlen2 := Sto.step_length hst1
     have HS2 : Hid (Sto.steps l (c.take (j + 1)) = some (Sto.put m ky vl)) := Lib.hid (by rw [HS1.out, hst1])
     go_roundw
     all_goals first
      | (simp [intOf]; omega)
      | exact ⟨j + 1, _, by go_num, by omega, HS2.out, by omega, (by have := HMz7.out; rw [Sto.put_del m ky vl HGM.out.rise] at this; exact this), HPz7.out, HTz7.out⟩
  ·have hjc : j = c.length := by omega
   have hst1 : Sto.steps l c = some m := by have := HST.out; rw [hjc, List.take_length] at this; exact this
   have HD : Hid (Sto.does l c = if Sto.fits m then some m else none) := Lib.hid (by unfold Sto.does; rw [hst1]; rfl)
   have hszm : Sto.size m ≤ 4611686018427387904 := by
    have := Sto.size_ok HGM.out.ok
    omega
   obtain ⟨q1, q2, _⟩ := st_cells HP1.out
   have hlen0 : ∀ ty, (Builtin.len_ #[101] ty #[.map (some mb)]).run Tryz.prog wr = .ok (.int .i64 m.length) wr := HM1.out.len
   by_cases h1 : m.length ≤ 2048
   ·by_cases h2 : Sto.size m ≤ 262144
    ·have hft : Sto.fits m = true := by unfold Sto.fits; rw [decide_eq_true h1, decide_eq_true h2]; rfl
     rw [hft, if_pos rfl] at HD
     have h2' : decide ((Sto.size m : Int) ≤ 262144) = true := decide_eq_true (by omega)
     have h1' : decide ((m.length : Int) ≤ 2048) = true := decide_eq_true (by omega)
     go_wp2
     go_ret
     exact ⟨by rw [HD.out]; rfl, HT1.out, fun m' hm' => (by rw [HD.out] at hm'; cases hm'; exact ⟨HM1.out, HP1.out⟩)⟩
    ·have hft : Sto.fits m = false := by unfold Sto.fits; rw [decide_eq_false h2, Bool.and_false]
     rw [hft] at HD
     have h2' : decide ((Sto.size m : Int) ≤ 262144) = false := decide_eq_false (by omega)
     have h1' : decide ((m.length : Int) ≤ 2048) = true := decide_eq_true (by omega)
     go_wp2
     go_ret
     exact ⟨by rw [HD.out]; rfl, HT1.out, fun m' hm' => (by rw [HD.out] at hm'; cases hm')⟩
   ·have hft : Sto.fits m = false := by unfold Sto.fits; rw [decide_eq_false h1, Bool.false_and]
    rw [hft] at HD
    have h1' : decide ((m.length : Int) ≤ 2048) = false := decide_eq_false (by omega)
    go_wp2
    go_ret
    exact ⟨by rw [HD.out]; rfl, HT1.out, fun m' hm' => (by rw [HD.out] at hm'; cases hm')⟩
end Go.Proofs.YtpjpknndfhablaaGreat
namespace Go.Proofs.YtpjpknndfhablaaGreat
open Go.RowKit
def logBlock (c : Nat) (l : Wal.LS) : Obj :=
 .cells #[.pointer (some ⟨c, 0, none⟩), .int .i64 (DS.fi l.f), .int .u64 l.g, .int .i64 l.n, .bool l.dead] 148 (0, 0)
/-- A log lies in block x, over the disk in block c. -/
def LogAt (w : World) (x c : Nat) (l : Wal.LS) : Prop := w.heap[x]? = some (logBlock c l)
theorem LogAt.cells {w : World} {x c : Nat} {l : Wal.LS} (h : LogAt w x c l) : w.cell? ⟨x, 0, none⟩ = some (.pointer (some ⟨c, 0, none⟩)) ∧ w.cell? ⟨x, 1, none⟩ = some (.int .i64 (DS.fi l.f)) ∧ w.cell? ⟨x, 2, none⟩ = some (.int .u64 l.g) ∧ w.cell? ⟨x, 3, none⟩ = some (.int .i64 l.n) ∧ w.cell? ⟨x, 4, none⟩ = some (.bool l.dead) ∧ (∀ i, w.frozen? ⟨x, i, none⟩ = false) ∧ x < w.heap.size :=
 ⟨cell_of h rfl, cell_of h rfl, cell_of h rfl, cell_of h rfl, cell_of h rfl, free_of h, heap_lt h⟩
theorem LogAt.touch {S : Nat → Prop} {w w' : World} {x c : Nat} {l : Wal.LS} (h : LogAt w x c l) (ht : Touch S w w') (hS : ¬ S x) : LogAt w' x c l := (ht.block x (heap_lt h) hS).trans h
theorem LogAt.below {w w' : World} {x c : Nat} {l : Wal.LS} (h : LogAt w x c l) (hb : Below w.heap.size w w') : LogAt w' x c l := stays h hb
/-- A log's block is no disk's. -/
theorem LogAt.apart {w : World} {x c : Nat} {l : Wal.LS} (h : LogAt w x c l) {c' : Nat} {d : DS} {m : Nat} {rb : Option Nat} (hd : DiskAt w c' d m rb) : ¬ own2 c' rb x := by
 obtain ⟨_, rs, r, hr, _, hrb⟩ := hd
 rintro (rfl | ho)
 ·have := hr.blk; rw [h] at this; simp [diskBlock, logBlock] at this
 ·rw [← hrb] at ho
  rcases hr.own.2 with ⟨hv, _⟩ | ⟨g, cap, cur, hv, _, hg, _⟩
  ·rw [hv] at ho; cases ho
  ·rw [hv] at ho
   have e1 : g = x := Option.some.inj ho
   subst e1
   rw [h] at hg; simp [logBlock] at hg
def goneV : Value := .iface 198 (.agg #[])
/-- How a piece of work ends: well, or it is thrown that the power went. -/
def Ends (r : Int) (e : Ending) : Prop := (r = 0 ∧ e = .returned (.tuple #[])) ∨ (r ≠ 0 ∧ e = .panicked [{ v := goneV, recovered := false }])
set_option maxHeartbeats 1000000 in
theorem must_ok (v : Value) (w : World) : Calls Tryz.prog 97 #[v, .int .i64 0] w fun e w' => e = .returned (.tuple #[]) ∧ w = w' := by
 go_enter Tryz.func97, Tryz.ntmps97
 go_wp2
 go_end0
 exact ⟨rfl, rfl⟩
set_option maxHeartbeats 1000000 in
theorem must_bad (v : Value) (n : Int) (hn : n ≠ 0) (w : World) : Calls Tryz.prog 97 #[v, .int .i64 n] w fun e w' => e = .panicked [{ v := goneV, recovered := false }] ∧ w = w' := by
 go_enter Tryz.func97, Tryz.ntmps97
 go_wp2
 exact ⟨rfl, rfl, rfl⟩
theorem own2_trans {w w1 w2 : World} {c : Nat} {rb rb1 : Option Nat} (h : Touch (own2 c rb) w w1) (hn : Newer w rb rb1) (h' : Touch (own2 c rb1) w1 w2) : Touch (own2 c rb) w w2 :=
 h.trans h' fun k hk ho => by
  rcases ho with rfl | ho
  ·exact .inl rfl
  ·rcases hn k ho with h1 | h1
   ·exact .inr h1
   ·omega
set_option maxHeartbeats 4000000 in
set_option maxRecDepth 100000 in
theorem lays_any (x c : Nat) (w : World) (l : Wal.LS) (d : DS) (m : Nat) (rb : Option Nat) (f : Bool) (g : Nat) (snap : List UInt8) (hl : LogAt w x c l) (h : DiskAt w c d m rb) (hm : m < 5000000000000) (hg : g < 18446744073709551616) (hs : snap.length ≤ 524288) :
  Calls Tryz.prog 88 #[.pointer (some ⟨x, 0, none⟩), .int .i64 (DS.fi f), .int .u64 g, .string ⟨snap.toArray⟩] w fun e w' => Ends (Wal.lays d f g snap).2 e ∧
   ∃ rb', DiskAt w' c (Wal.lays d f g snap).1 (m + 1) rb' ∧ Newer w rb rb' ∧ Touch (own2 c rb) w w' ∧ ((Wal.lays d f g snap).1.dead = true → d.dead = false → rb' = none) := by
 obtain ⟨A, hA⟩ : ∃ A, Sha.big g 8 = A := ⟨_, rfl⟩
 have hAl : A.length = 8 := by rw [← hA]; exact Sha.big_length _ _
 obtain ⟨B, hB⟩ : ∃ B, Wal.frame snap = B := ⟨_, rfl⟩
 have hBl : B.length = 8 + snap.length := by rw [← hB]; exact Wal.frame_length _
 have hH : Wal.head g snap = 83 :: 78 :: 76 :: 49 :: (A ++ B) := by unfold Wal.head; rw [hA, hB]; rfl
 obtain ⟨H, hHH⟩ : ∃ H, Wal.head g snap = H := ⟨_, rfl⟩
 have hHl : H.length ≤ 524308 := by rw [← hHH, Wal.head_length]; omega
 obtain ⟨n, hn⟩ : ∃ n, (d.append (DS.fi f) H).2 = n := ⟨_, rfl⟩
 obtain ⟨c0, _⟩ := hl.cells
 have HA := Lib.hid hA
 have HB := Lib.hid hB
 have HL := Lib.hid hl
 have HD := Lib.hid h
 have HN := Lib.hid hn
 have HAP := Lib.hid (hl.apart h)
 have HHH : Hid (83 :: 78 :: 76 :: 49 :: (A ++ B) = H) := Lib.hid (hH.symm.trans hHH)
 have hap1 := bytes_append [83, 78, 76, 49] A
 have hap2 := bytes_append (83 :: 78 :: 76 :: 49 :: A) B
 clear hA hB hH h hn hl
 go_enter Tryz.func88, Tryz.ntmps88
 go_wp2
 have hS0 : w.drew.cell? ⟨x, 0, none⟩ = some (.pointer (some ⟨c, 0, none⟩)) := c0
 refine wp_region_heldL (S := fun w' => w'.cell? ⟨x, 0, none⟩ = some (.pointer (some ⟨c, 0, none⟩))) (by kernel_rfl) ?_
 refine planned [0, 1, 2, 3, 4, 5, 6, 9] ?_
 iterate 8 (refine planned_take (v := ?_) rfl (by kernel_rfl) (by kernel_rfl) (by kernel_rfl) (fun _ _ _ h => h) ?_ (by assumption) ?_; rotate_left; (focus (first | (refine Or.inr ⟨by rfl, ?_⟩; with_reducible rfl) | (refine Or.inl ⟨by rfl, ?_⟩; (intro w hSw; (try dsimp only at hSw); go_simp); try with_reducible rfl))); try simp only [Act.put, List.setIfInBounds_toArray, List.set_cons_zero, List.set_cons_succ])
 refine planned_end ?_
 refine wpAnyH_oneL (i := 7) rfl (by kernel_rfl) ?_
 intro K hK
 rw [if_pos (by rfl)]
 go_simp
 go_at_call 141
 refine (put_any g 8 _ (by decide) hg).mono ?_
 rw [HA.out]
 rintro e w1 ⟨rfl, b1⟩
 have B1 := Lib.hid b1
 have hS1 := cell_later b1 hS0
 clear b1
 refine hK _ _ hS1 ?_
 clear hK K
 try simp only [Act.put, List.setIfInBounds_toArray, List.set_cons_zero, List.set_cons_succ]
 refine wpAnyH_takeL (i := 8) (v := ?_) rfl (by kernel_rfl) (by kernel_rfl) (by kernel_rfl) (fun _ _ _ h => h) ?_ (by assumption) ?_; rotate_left; focus (first | (refine Or.inr ⟨by rfl, ?_⟩; with_reducible rfl) | (refine Or.inl ⟨by rfl, ?_⟩; (intro w hSw; (try dsimp only at hSw); go_simp); try with_reducible rfl))
 try simp only [Act.put, List.setIfInBounds_toArray, List.set_cons_zero, List.set_cons_succ]
 refine wpAnyH_oneL (i := 10) rfl (by kernel_rfl) ?_
 intro K hK
 rw [if_pos (by rfl)]
 go_simp
 go_at_call 127
 refine (framed_any snap _ (by omega)).mono ?_
 rw [HB.out]
 rintro e w2 ⟨rfl, b2⟩
 have B2 := Lib.hid (bthen B1.out b2)
 have hS2 := cell_later b2 hS1
 clear b2
 refine hK _ _ hS2 ?_
 clear hK K
 try simp only [Act.put, List.setIfInBounds_toArray, List.set_cons_zero, List.set_cons_succ]
 have hlen : ¬ (9223372036854775807 < 12 + (8 + snap.length)) := by omega
 refine wpAnyH_takeL (i := 11) (v := ?_) rfl (by kernel_rfl) (by kernel_rfl) (by kernel_rfl) (fun _ _ _ h => h) ?_ (by assumption) ?_; rotate_left; focus (first | (refine Or.inr ⟨by rfl, ?_⟩; with_reducible rfl) | (refine Or.inl ⟨by rfl, ?_⟩; (intro w hSw; (try dsimp only at hSw); go_simp); try with_reducible rfl))
 try simp only [Act.put, List.setIfInBounds_toArray, List.set_cons_zero, List.set_cons_succ]
 refine wpAnyH_oneL (i := 12) rfl (by kernel_rfl) ?_
 intro K hK
 rw [if_pos (by rfl)]
 go_simp
 go_at_call 126
 try rw [HHH.out]
 refine (append_anyN c _ d m rb (DS.fi f) H (HD.out.below (bthen ((Below.refl _ _).drew) B2.out)) (by omega) hm).mono ?_
 rw [HN.out]
 rintro e w3 ⟨rfl, rb', hd3, hn3, ht3, hf3⟩
 have hS3 := (World.cell?_of_block (a := ⟨x, 0, none⟩) (ht3.block x (World.block_lt_of_cell? _ _ hS2) HAP.out)).trans hS2
 have HD3 := Lib.hid hd3
 have HN3 : Hid (Newer w rb rb') := Lib.hid (fun k hk => (hn3 k hk).imp id (fun h => Nat.le_trans B2.out.size h))
 have HT3 : Hid (Touch (own2 c rb) w w3) := Lib.hid (Touch.trans (Touch.of_below (bthen ((Below.refl _ _).drew) B2.out)) ht3 (fun _ _ h => h))
 have HF3 := Lib.hid hf3
 clear hd3 hn3 ht3 hf3
 refine hK _ _ hS3 ?_
 clear hK K
 try simp only [Act.put, List.setIfInBounds_toArray, List.set_cons_zero, List.set_cons_succ]
 refine wpAnyH_oneL (i := 13) rfl (by kernel_rfl) ?_
 intro K hK
 rw [if_pos (by rfl)]
 go_simp
 go_at_call 97
 by_cases hn0 : n = 0
 ·subst hn0
  refine (must_ok _ _).mono ?_
  rintro e w4 ⟨rfl, rfl⟩
  refine hK _ _ hS3 ?_
  clear hK K
  try simp only [Act.put, List.setIfInBounds_toArray, List.set_cons_zero, List.set_cons_succ]
  refine wpAnyH_done (by kernel_rfl) ?_ _
  obtain ⟨E, hE⟩ : ∃ E, (d.append (DS.fi f) H).1 = E := ⟨_, rfl⟩
  rw [hE] at HD3 HF3
  obtain ⟨q, hq⟩ : ∃ q, E.sync.2 = q := ⟨_, rfl⟩
  have HW : Hid (Wal.lays d f g snap = E.sync) := Lib.hid (by unfold Wal.lays; rw [hHH, if_neg (by rw [HN.out]; decide), hE])
  have HQ := Lib.hid hq
  have HE : Hid (d.dead = false → E.dead = false) := Lib.hid (fun h0 => by
   have h1 := HN.out
   rw [← hE]
   unfold DS.append at h1 ⊢
   rw [if_neg (by simp [h0]), DS.fileNo_of] at h1 ⊢
   simp only at h1 ⊢
   split
   ·exact h0
   ·rename_i h2
    rw [if_neg h2] at h1
    split
    ·rename_i h3; rw [if_pos h3] at h1; cases h1
    ·exact h0)
  clear hHH hq hE hap1 hap2 hlen
  go_wp2_with fail
  refine (sync_anyN c _ E (m + 1) rb' HD3.out).mono ?_
  rw [HQ.out]
  rintro e w4 ⟨rfl, rb2, hd4, hn4, ht4, hf4⟩
  have HP : Hid (∃ rb', DiskAt w4 c E.sync.1 (m + 1) rb' ∧ Newer w rb rb' ∧ Touch (own2 c rb) w w4 ∧ (E.sync.1.dead = true → d.dead = false → rb' = none)) :=
   Lib.hid ⟨rb2, hd4, HN3.out.trans hn4 HT3.out.size, own2_trans HT3.out HN3.out ht4, fun _ h0 => hf4 (HE.out h0)⟩
  clear hd4 hn4 ht4 hf4 HD3 HF3
  go_wp2_with fail
  by_cases hq0 : q = 0
  ·subst hq0
   refine (must_ok _ _).mono ?_
   rintro e w5 ⟨rfl, rfl⟩
   go_wp2
   go_end0
   rw [HW.out, HQ.out]
   exact ⟨.inl ⟨rfl, rfl⟩, HP.out⟩
  ·refine (must_bad _ q hq0 _).mono ?_
   rintro e w5 ⟨rfl, rfl⟩
   refine ⟨rfl, ?_⟩
   rw [HW.out, HQ.out]
   exact ⟨.inr ⟨hq0, rfl⟩, HP.out⟩
 ·have HW : Hid (Wal.lays d f g snap = d.append (DS.fi f) H) := Lib.hid (by unfold Wal.lays; rw [hHH, if_pos (by rw [HN.out]; exact hn0)])
  refine (must_bad _ n hn0 _).mono ?_
  rintro e w4 ⟨rfl, rfl⟩
  refine ⟨rfl, ?_⟩
  rw [HW.out, HN.out]
  exact ⟨.inr ⟨hn0, rfl⟩, rb', HD3.out, HN3.out, HT3.out, HF3.out⟩
end Go.Proofs.YtpjpknndfhablaaGreat
