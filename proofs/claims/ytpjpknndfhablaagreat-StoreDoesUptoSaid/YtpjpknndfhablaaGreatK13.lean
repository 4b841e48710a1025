/- The program's rising: an iterator over a map's pairs in rising order. The program's scan. The program's image. slices.SortFunc at changes, by their keys. Changes as the program finds them: puts and deletes, sorted by their keys. Plain laws. -/
import Derived.RangeFuncNested
import Derived.RangeFuncBound
import Derived.RangeFuncCalls
import Derived.RangeFuncLeaves
import Derived.RangeFuncBox
import Derived.Shelf.Abstract
import Derived.Shelf.AbstractIn
import Derived.Shelf.RegionOpen
import Derived.WalkKit
import Derived.OwnWalkIn
import Derived.TacticsInMore
import Derived.LoopNIn
import Derived.LoopIn
import Derived.Maps.AppendAt
import Derived.RangeFuncWrites
import Derived.Test.YtpjpknndfhablaaGreatK12
namespace Go.Proofs.YtpjpknndfhablaaGreat
open Go.RowKit Go.Shelf Go.Maps Go.Sort
attribute [local go_sem] Oper.semAt_some
/-- A pair of a good row. -/
abbrev GP := { x : Sto.S × Sto.S // Sto.keyOk x.1 = true ∧ Sto.valueOk x.2 = true }
def encP (x : GP) : Array Value := #[.string ⟨x.1.1.toArray⟩, .string ⟨x.1.2.toArray⟩]
/-- What is of these types lies as it lay. -/
def KeepsTy (ts : List TypeId) (W W' : World) : Prop := ∀ (g : Nat) (cs : Array Value) (t : TypeId) (fr : Nat × Nat), t ∈ ts → W.heap[g]? = some (.cells cs t fr) → W'.heap[g]? = some (.cells cs t fr)
theorem KeepsTy.refl (ts : List TypeId) (W : World) : KeepsTy ts W W := fun _ _ _ _ _ h => h
theorem KeepsTy.trans {ts : List TypeId} {A B C : World} (h : KeepsTy ts A B) (k : KeepsTy ts B C) : KeepsTy ts A C := fun g cs t fr ht hg => k g cs t fr ht (h g cs t fr ht hg)
theorem KeepsTy.of_off {ts us : List TypeId} {A B : World} (h : KeepsOff us A B) (hd : ∀ t ∈ ts, t ∉ us) : KeepsTy ts A B := fun _ _ t _ ht hg => h.cells hg (hd t ht)
theorem KeepsTy.of_below {ts : List TypeId} {A B : World} (h : Below A.heap.size A B) : KeepsTy ts A B := fun _ _ _ _ _ hg => stays hg h
theorem KeepsTy.putObj {ts : List TypeId} (W : World) (l : Nat) (o o' : Obj) (h : W.heap[l]? = some o) (hc : o.isCells = false) : KeepsTy ts W (W.putObj l o') := fun g cs t fr _ hg => by
  by_cases e : g = l
  · subst e
    rw [h] at hg
    cases hg
    cases hc
  · exact (World.putObj_heap_other e).trans hg
def risT : List TypeId := [9, 101]
/-- What a round over rising pairs keeps. -/
def KpR (n₀ : Nat) (W W' : World) : Prop := Below n₀ W W' ∧ KeepsTy risT W W'
theorem KpR.t {n₀ : Nat} {A B C : World} (h : KpR n₀ A B) (k : KpR n₀ B C) : KpR n₀ A C := ⟨h.1.trans k.1, h.2.trans k.2⟩
theorem KpR.b {n₀ : Nat} {w : World} (hn : n₀ ≤ w.heap.size) (W : World) (l : Nat) (o o' : Obj) (hl : w.heap.size ≤ l) (h : W.heap[l]? = some o) (hc : o.isCells = false) (hw : o.isWalk = false) : KpR n₀ W (W.putObj l o') :=
  ⟨belowK_b hn W l o o' hl h hc hw, KeepsTy.putObj W l o o' h hc⟩
namespace Sto
theorem lt_list : ∀ {a b : S}, lt a b = true → a < b
  | _, [], h => by simp [lt, Op.bytesLess] at h
  | [], _ :: _, _ => by simp
  | x :: a, y :: b, h => by
    simp only [lt, Op.bytesLess, Bool.or_eq_true, Bool.and_eq_true, decide_eq_true_eq, beq_iff_eq] at h
    rcases h with h | ⟨rfl, h⟩
    · exact List.cons_lt_cons_iff.2 (.inl h)
    · exact List.cons_lt_cons_iff.2 (.inr ⟨rfl, lt_list h⟩)
theorem strKeys_mapOf (l : Pairs) : strKeys (mapOf (H := Unit) l) = l.map (·.1) := by
  simp only [mapOf, strKeys, List.map_map]
  rfl
theorem keys_sorted {l : Pairs} (hr : Rise l) {ss : List (List UInt8)} (h : ss.Perm (strKeys (mapOf (H := Unit) l))) : ss.mergeSort (fun x y => decide (x ≤ y)) = l.map (·.1) := by
  rw [show ss.mergeSort (fun x y => decide (x ≤ y)) = (strKeys (mapOf (H := Unit) l)).mergeSort (fun x y => decide (x ≤ y)) from mergeSort_of_perm h, strKeys_mapOf]
  refine List.mergeSort_of_pairwise ?_
  rw [List.pairwise_map]
  exact hr.imp fun h => by simp only [decide_eq_true_eq]; exact List.le_of_lt (lt_list h)
theorem get_at : ∀ {l : Pairs} {k : Nat} {p : S × S}, Rise l → l[k]? = some p → get l p.1 = some p.2
  | [], _, _, _, h => by simp at h
  | q :: r, 0, p, _, h => by
    simp at h
    subst h
    unfold get
    rw [if_neg (by rw [lt_irrefl]; decide), if_pos rfl]
  | q :: r, k + 1, p, hr, h => by
    have h' : r[k]? = some p := by simpa using h
    have hq : lt q.1 p.1 = true := List.rel_of_pairwise_cons hr (List.mem_of_getElem? h')
    unfold get
    rw [if_pos hq]
    exact get_at (List.Pairwise.of_cons hr) h'
end Sto
theorem rising_any (mb : Option Nat) (w : World) : Calls Tryz.prog 114 #[.map mb] w fun e w' => e = .returned (.func (.func 152) #[] #[.pointer (some ⟨w.heap.size, 0, none⟩)]) ∧ w' = w.alloc (.cells #[.map mb] 101) := by
  go_enter Tryz.func114, Tryz.ntmps114
  go_wp2
  go_ret
  exact ⟨rfl, rfl⟩
theorem sortsIn (m : Nat) : AnyZ.SortsIn Tryz.prog Tryz.sorted_ren Fence.wide m :=
  ⟨fun blk off cap ss W hH hblk hsz => callsIn_wide.2 (AnyM.slices_Sort_string Tryz.sort blk off cap ss W hH hblk hsz),
   fun p cap W => callsIn_wide.2 (AnyM.slices_Sort_string_none Tryz.sort p cap W)⟩
theorem maps_Keys_any (mb : Option Nat) (W : World) : Calls Tryz.prog 154 #[.map mb] W fun e w' => e = .returned (.func (.func 169) #[] #[.pointer (some ⟨W.heap.size, 0, none⟩)]) ∧ w' = W.alloc (.cells #[.map mb] 101) :=
  (callsIn_wide (n := 5)).1 (AnyZ.keys_in Tryz.keys Fence.wide 5 trivial rfl mb W)
set_option maxHeartbeats 1000000 in
theorem sorted_any (b : Nat) (l : Sto.Pairs) (w : World) (hm : MapAt w b l) (hr : Sto.Rise l) (hl : l.length ≤ 8796093022208) :
    Calls Tryz.prog 153 #[.func (.func 169) #[] #[.pointer (some ⟨w.heap.size, 0, none⟩)]] (w.alloc (.cells #[.map (some b)] 101)) fun e w' => ∃ v, e = .returned v ∧
      w'.ownsRow (w.alloc (.cells #[.map (some b)] 101)).heap.size 9 1 v l.length (l.map fun p => encStr p.1) ∧ Below (w.alloc (.cells #[.map (some b)] 101)).heap.size (w.alloc (.cells #[.map (some b)] 101)) w' := by
  have hbl := hm.lt
  have hsz := Sto.mapOf_size (H := Unit) l
  have hseq : SeqGives Fence.wide 2 Tryz.prog 169 #[.pointer (some ⟨w.heap.size, 0, none⟩)] encStr (fun ss => ss.Perm (strKeys (Sto.mapOf (H := Unit) l))) (Maps.size (Sto.mapOf (H := Unit) l)) (w.alloc (.cells #[.map (some b)] 101)) :=
    AnyZ.keys_gives (ρ := Tryz.keys_ren) { Tryz.keys with } Fence.wide _ trivial rfl (by omega) w.heap.size b l.length (Sto.mapOf (H := Unit) l) _ (by simp) (by simp) (by
      obtain ⟨es, clock, hb, Ft, hs, hD⟩ := hm
      exact ⟨es, clock, (Below.heap_alloc _ _ b hbl).trans hb, Ft, hs, hD⟩)
  refine (callsIn_wide (n := 5)).1 ((AnyZ.sorted_in Tryz.sorted Fence.wide 5 trivial trivial trivial trivial rfl (by omega) (sortsIn _) (enters_of Tryz.func168 (by kernel_rfl) rfl) 169 #[.pointer (some ⟨w.heap.size, 0, none⟩)] trivial (enters_of Tryz.func169 (by kernel_rfl) rfl) _ _ (by rw [hsz]; unfold maxLen; omega) (by rw [hsz]; omega) _ hseq).mono ?_)
  rintro e w' ⟨v, ss, rfl, hp, hrow, _, hb⟩
  refine ⟨v, rfl, ?_, hb⟩
  have hk := Sto.keys_sorted hr hp
  have hlen : ss.length = l.length := by
    have := hp.length_eq
    rw [Sto.strKeys_mapOf, List.length_map] at this
    exact this
  have hrow' := hrow
  rw [show (ss.mergeSort (fun x y => decide (x ≤ y))) = l.map (·.1) from hk, hlen, List.map_map] at hrow'
  exact hrow'
/-- A map, or the nil one, that holds these pairs. -/
def MapO (w : World) (mb : Option Nat) (l : Sto.Pairs) : Prop := match mb with | none => l = [] | some b => MapAt w b l
theorem MapO.touch {S : Nat → Prop} {w w' : World} {mb : Option Nat} {l : Sto.Pairs} (h : MapO w mb l) (ht : Touch S w w') (hS : ∀ b, mb = some b → ¬ S b) : MapO w' mb l := by
  cases mb with
  | none => exact h
  | some b => exact MapAt.touch h ht (hS b rfl)
theorem MapO.below {w w' : World} {mb : Option Nat} {l : Sto.Pairs} (h : MapO w mb l) (hb : Below w.heap.size w w') : MapO w' mb l :=
  h.touch (Touch.of_below (S := fun _ => False) hb) (fun _ _ h => h)
theorem MapO.lt {w : World} {mb : Option Nat} {l : Sto.Pairs} (h : MapO w mb l) : ∀ b, mb = some b → b < w.heap.size := by
  rintro b rfl
  exact MapAt.lt h
set_option maxHeartbeats 1000000 in
theorem sortedO_any (mb : Option Nat) (l : Sto.Pairs) (w : World) (hm : MapO w mb l) (hr : Sto.Rise l) (hl : l.length ≤ 8796093022208) :
    Calls Tryz.prog 153 #[.func (.func 169) #[] #[.pointer (some ⟨w.heap.size, 0, none⟩)]] (w.alloc (.cells #[.map mb] 101)) fun e w' => ∃ v, e = .returned v ∧
      w'.ownsRow (w.alloc (.cells #[.map mb] 101)).heap.size 9 1 v l.length (l.map fun p => encStr p.1) ∧ Below (w.alloc (.cells #[.map mb] 101)).heap.size (w.alloc (.cells #[.map mb] 101)) w' := by
  cases mb with
  | some b => exact sorted_any b l w hm hr hl
  | none =>
    have hl0 : l = [] := hm
    subst hl0
    have hseq : SeqGives Fence.wide 2 Tryz.prog 169 #[.pointer (some ⟨w.heap.size, 0, none⟩)] encStr (fun ss : List (List UInt8) => ss = []) 0 (w.alloc (.cells #[.map none] 101)) :=
      AnyZ.keys_gives_nil (ρ := Tryz.keys_ren) { Tryz.keys with } Fence.wide _ trivial rfl w.heap.size _ (by simp) (by simp)
    refine (callsIn_wide (n := 5)).1 ((AnyZ.sorted_in Tryz.sorted Fence.wide 5 trivial trivial trivial trivial rfl (by omega) (sortsIn _) (enters_of Tryz.func168 (by kernel_rfl) rfl) 169 #[.pointer (some ⟨w.heap.size, 0, none⟩)] trivial (enters_of Tryz.func169 (by kernel_rfl) rfl) _ 0 (Nat.zero_le _) (by omega) _ hseq).mono ?_)
    rintro e w' ⟨v, ss, rfl, hp, hrow, _, hb⟩
    have hs0 : ss = [] := hp
    subst hs0
    exact ⟨v, rfl, (by have h2 := hrow; rw [show (([] : List (List UInt8)).mergeSort (fun x y => decide (x ≤ y))) = [] from by simp] at h2; exact h2), hb⟩
theorem MapO.look {w : World} {mb : Option Nat} {l : Sto.Pairs} (h : MapO w mb l) (hr : Sto.Rise l) {k : Nat} {p : Sto.S × Sto.S} (hp : l[k]? = some p) (hk : p.1.length ≤ maxLen) :
    (Instr.lookup 101 (.map mb) (.string ⟨p.1.toArray⟩) false).run Tryz.prog w = .ok (.string ⟨p.2.toArray⟩) w := by
  cases mb with
  | none =>
    have hl0 : l = [] := h
    subst hl0
    simp at hp
  | some b =>
    have := MapAt.look1 h hr p.1 hk
    rw [Sto.get_at hr hp] at this
    exact this
theorem row_slice {w : World} {base : Nat} {v : Value} {ps : Sto.Pairs} (hrow : w.ownsRow base 9 1 v ps.length (ps.map fun p => encStr p.1)) :
    ∃ ao cap, v = .slice ao ps.length cap ∧ ∀ (k : Nat) (p : Sto.S × Sto.S), ps[k]? = some p → ∃ g cur, ao = some ⟨g, 0, none⟩ ∧ w.heap[g]? = some (.cells cur 9 (0, 0)) ∧ cur[k]? = some (.string ⟨p.1.toArray⟩) := by
  rcases hrow.2 with ⟨rfl, h0⟩ | ⟨g, cap, cur, rfl, _, hg, _, _, _, htk⟩
  · exact ⟨none, 0, by rw [h0], fun k p hk => by have := (List.getElem?_eq_some_iff.1 hk).1; omega⟩
  · refine ⟨_, cap, rfl, fun k p hk => ⟨g, cur, rfl, hg, ?_⟩⟩
    have h1 : (ps.map fun p => encStr p.1)[k]? = some (.string ⟨p.1.toArray⟩) := by rw [List.getElem?_map, hk]; rfl
    rw [← htk, List.getElem?_take] at h1
    split at h1
    · simpa using h1
    · cases h1
set_option maxHeartbeats 4000000 in
set_option maxRecDepth 100000 in
theorem rising1_in (m l bx n₀ : Nat) (hm1 : 1 ≤ m) (mb : Option Nat) (ps : Sto.Pairs) (hg : Sto.Good ps) (hlen : ps.length ≤ 4398046511104) (J Jx : List GP → World → Prop) (W : World) (hJ : AbidesFrom W.heap.size J)
    (hY : ∀ pre x W1, J pre W1 → pre.length < ps.length → YieldAt Fence.wide (m - 1) Tryz.prog l (encP x) W1 fun e W' =>
      (e = .returned (.bool true) ∧ J (pre ++ [x]) W' ∧ KpR n₀ W1 W') ∨ (e = .returned (.bool false) ∧ Jx (pre ++ [x]) W'))
    (hbx : W.heap[bx]? = some (.cells #[.map mb] 101 (0, 0))) (hm : MapO W mb ps) (hb : ∀ b, mb = some b → b < n₀) (_hn₀ : n₀ ≤ W.heap.size) (h0 : J [] W) :
    CallsIn Fence.wide m Tryz.prog 152 #[.func (.yield l) #[] #[], .pointer (some ⟨bx, 0, none⟩)] W fun e W' => (∃ v, e = .returned v) ∧
      ((∃ xs : List GP, xs.map (·.1) = ps ∧ J xs W') ∨ (∃ pre : List GP, (∃ k, k ≤ ps.length ∧ pre.map (·.1) = ps.take k) ∧ Jx pre W')) := by
  have hc : W.cell? ⟨bx, 0, none⟩ = some (.map mb) := cell_of hbx rfl
  have HSO := Lib.hid (sortedO_any mb ps W hm hg.rise (by omega))
  have HBX := Lib.hid hbx
  have HM := Lib.hid hm
  have HB := Lib.hid hb
  have HJ0 := Lib.hid h0
  have HG := Lib.hid hg
  clear hbx hm hb h0 hg
  have hf1 : Fence.wide.fn 154 := trivial
  have hf2 : Fence.wide.fn 153 := trivial
  refine callsIn_of_wp Tryz.func152 rfl trivial ?_ rfl
  simp only [Tryz.ntmps152, List.size_toArray, List.length_cons, List.length_nil, Nat.reduceAdd, Nat.reduceSub, Array.replicate_succ, Array.replicate_zero, List.push_toArray, List.append_toArray, List.nil_append, List.cons_append]
  gi_wp2_with (first
    | (gi_at_call 154; refine (callsIn_wide.2 (maps_Keys_any _ _)).mono ?_; rintro e w' ⟨rfl, rfl⟩)
    | (gi_at_call 153; refine (callsIn_wide.2 HSO.out).mono ?_; rintro e w2 ⟨v, rfl, hrow, hb2⟩; obtain ⟨ao, cap, rfl, hcell⟩ := row_slice hrow))
  have hsz2 : W.heap.size ≤ w2.heap.size := Nat.le_trans (by simp) hb2.size
  have hbW : Below W.heap.size W w2 := (balloc W _).trans (hb2.mono (by simp))
  have HBW := Lib.hid hbW
  have HCE := Lib.hid hcell
  have hJ2 : J [] w2 := hJ [] W w2 none HJ0.out ⟨hbW.os, hbW.tape, hbW.output, hbW.size, fun k hk _ => hbW.block k hk⟩ (fun r e => by cases e)
  have HJ2 := Lib.hid hJ2
  clear hJ2 hcell hrow hb2 hbW hJ
  gi_loopw [9] (fun i wr => ∃ (k : Nat) (pre : List GP), i = .int .i64 k ∧ k ≤ ps.length ∧ pre.map (·.1) = ps.take k ∧ J pre wr ∧ KpR n₀ w2 wr) (fun i _ => ps.length - (intOf i).toNat)
  case atStart => exact ⟨0, [], rfl, Nat.zero_le _, by simp, HJ2.out, Below.refl _ _, KeepsTy.refl _ _⟩
  case round =>
    obtain ⟨k, pre, rfl, hk, hpre, hJr, hKr⟩ := hrel
    have HKR := Lib.hid hKr
    have HPR := Lib.hid hpre
    have hbxr : wr.heap[bx]? = some (.cells #[.map mb] 101 (0, 0)) := HKR.out.2 bx _ _ _ (by decide) (stays HBX.out HBW.out)
    have c1 : wr.cell? ⟨bx, 0, none⟩ = some (.map mb) := cell_of hbxr rfl
    have hlp : pre.length = k := by
      have := congrArg List.length hpre
      rw [List.length_map, List.length_take] at this
      omega
    clear hpre hbxr hKr
    by_cases hkl : k < ps.length
    · obtain ⟨p, hp⟩ : ∃ p, ps[k]? = some p := ⟨_, List.getElem?_eq_getElem hkl⟩
      obtain ⟨g, cur, rfl, hg, hcu⟩ := HCE.out k p hp
      have hok := HG.out.ok p (List.mem_of_getElem? hp)
      have c2 : wr.cell? ⟨g, k, none⟩ = some (.string ⟨p.1.toArray⟩) := cell_of (HKR.out.2 g _ _ _ (by decide) hg) hcu
      have hmr : MapO wr mb ps := (HM.out.below HBW.out).touch (S := fun q => n₀ ≤ q) ⟨HKR.out.1.os, HKR.out.1.tape, HKR.out.1.output, HKR.out.1.size, fun q _ h2 => HKR.out.1.block q (Nat.lt_of_not_le h2)⟩ (fun b e => by have := HB.out b e; omega)
      have hlook := hmr.look HG.out.rise hp (by have := (Sto.keyOk_iff.1 hok.1).2; unfold maxLen; omega)
      obtain ⟨fn, tmps, assign, body, hy, hR⟩ := hY pre ⟨p, hok⟩ wr hJr (by omega)
      have HR := Lib.hid hR
      have HP2 : Hid ((pre ++ [(⟨p, hok⟩ : GP)]).map (·.1) = ps.take (k + 1)) := Lib.hid (by
        rw [List.map_append, HPR.out, List.take_add_one, hp]
        rfl)
      dsimp only [encP] at hy
      clear hg hcu hmr hR hp
      gi_wp2
      refine HR.out.mono ?_
      rintro e W3 (⟨rfl, hJ3, hk3⟩ | ⟨rfl, hJx3⟩)
      · gi_wp2
        go_roundw
        case rel => exact ⟨k + 1, _, by go_num, by omega, HP2.out, hJ3, HKR.out.t hk3⟩
        case measure => simp [intOf]; omega
      · gi_wp2
        refine bodyPost_ret (results_none rfl _ _ _) rfl ?_
        exact ⟨⟨_, rfl⟩, .inr ⟨_, ⟨k + 1, by omega, HP2.out⟩, hJx3⟩⟩
    · have hkn : k = ps.length := by omega
      gi_wp2
      go_end0
      exact ⟨⟨_, rfl⟩, .inl ⟨pre, by rw [HPR.out, hkn, List.take_length], hJr⟩⟩
/-- rising hands over all pairs, in rising order; or some of them, where a round has said 'no more'. -/
theorem rising_stops (m bx n₀ : Nat) (hm1 : 1 ≤ m) (mb : Option Nat) (ps : Sto.Pairs) (hg : Sto.Good ps) (hlen : ps.length ≤ 4398046511104) (w : World)
    (hbx : w.heap[bx]? = some (.cells #[.map mb] 101 (0, 0))) (hm : MapO w mb ps) (hb : ∀ b, mb = some b → b < n₀) (hn₀ : n₀ ≤ w.heap.size) :
    SeqStopsK Fence.wide m Tryz.prog 152 #[.pointer (some ⟨bx, 0, none⟩)] encP (KpR n₀) (fun xs => xs.map (·.1) = ps) (fun pre => ∃ k, k ≤ ps.length ∧ pre.map (·.1) = ps.take k) ps.length w := fun l J Jx W hW hJ _ hY h0 =>
  rising1_in m l bx n₀ hm1 mb ps hg hlen J Jx W hJ hY (stays hbx hW) (hm.below hW) hb (Nat.le_trans hn₀ hW.size) h0
end Go.Proofs.YtpjpknndfhablaaGreat
namespace Go.Proofs.YtpjpknndfhablaaGreat
open Go.RowKit Go.Shelf Go.Maps Go.Sort
attribute [local go_sem] Oper.semAt_some
/-- What a scan has got of some pairs. -/
def got (k : Sto.S) (pre : List GP) : Sto.Pairs := (pre.map (·.1)).filter fun p => !Sto.lt p.1 k
theorem got_hit {k : Sto.S} (pre : List GP) {x : GP} (h : Sto.lt x.1.1 k = false) : got k (pre ++ [x]) = got k pre ++ [x.1] := by simp [got, h]
theorem got_miss {k : Sto.S} (pre : List GP) {x : GP} (h : Sto.lt x.1.1 k = true) : got k (pre ++ [x]) = got k pre := by simp [got, h]
theorem scan_all {ps : Sto.Pairs} {k : Sto.S} {n : Nat} {xs : List GP} (hx : xs.map (·.1) = ps) (hl : (got k xs).length ≤ n) : Sto.scan ps k n = got k xs := by
 unfold Sto.scan got at *
 rw [← hx, List.take_of_length_le hl]
theorem scan_part {ps : Sto.Pairs} {k : Sto.S} {n j : Nat} {xs : List GP} (hx : xs.map (·.1) = ps.take j) (hl : (got k xs.dropLast).length = n) (hne : xs ≠ []) : Sto.scan ps k n = got k xs.dropLast := by
 unfold Sto.scan got at *
 have e : ps = (xs.dropLast.map (·.1)) ++ (xs.getLast hne).1 :: ps.drop j := by
  have h1 : xs.map (·.1) = xs.dropLast.map (·.1) ++ [(xs.getLast hne).1] := by
   conv => lhs; rw [← List.dropLast_concat_getLast hne]
   simp
  rw [← List.singleton_append, ← List.append_assoc, ← h1, hx, List.take_append_drop]
 conv => lhs; rw [e]
 rw [List.filter_append, List.take_append, ← hl]
 simp
theorem pclip_any (ao : Option Addr) (n cap : Nat) (w : World) (h : n ≤ cap) (_hc : cap ≤ 9223372036854775807) :
  Calls Tryz.prog 115 #[.slice ao n cap] w fun e w' => e = .returned (.slice ao n n) ∧ w' = w := by
 go_enter Tryz.func115, Tryz.ntmps115
 go_wp2
 go_ret
 exact ⟨rfl, rfl⟩
theorem own_clip {w : World} {base : Nat} {v : Value} {l : Sto.Pairs} (h : w.ownsRow base 97 2 v l.length (pCells l)) : ∃ ao cap, v = .slice ao l.length cap ∧ l.length ≤ cap ∧ cap ≤ 9223372036854775807 ∧ PairsAt w (.slice ao l.length l.length) l ∧ ∀ g, (Value.slice ao l.length l.length).ownBlock = some g → base ≤ g := by
 have hO := OwnF.of_owns h
 rcases hO.2 with ⟨rfl, h0⟩ | ⟨g, cap, rfl, hb, hg, hn, hc, hcell, hx⟩
 ·have hl : l = [] := List.eq_nil_of_length_eq_zero h0
  subst hl
  exact ⟨none, 0, rfl, Nat.le_refl _, by omega, ⟨rfl, .inl ⟨rfl, rfl⟩⟩, fun g hg => (by cases hg)⟩
 ·refine ⟨_, cap, rfl, hn, by unfold maxLen at hc; omega, ⟨hO.1, .inr ⟨g, l.length, rfl, Nat.zero_le _, hg, Nat.le_refl _, by omega, fun j hj => hcell j (by omega), hx⟩⟩, fun g' hg' => ?_⟩
  have e : g = g' := Option.some.inj hg'
  omega
theorem own_clipped {w : World} {base cap : Nat} {ao : Option Addr} {l : Sto.Pairs} (h : w.ownsRow base 97 2 (.slice ao l.length cap) l.length (pCells l)) : PairsAt w (.slice ao l.length l.length) l ∧ ∀ g, (Value.slice ao l.length l.length).ownBlock = some g → base ≤ g := by
 obtain ⟨ao', cap', e, _, _, h1, h2⟩ := own_clip h
 injection e with e1 _ _
 subst e1
 exact ⟨h1, h2⟩
theorem appended_keeps {W w1 : World} {n₀ B : Nat} {v v' : Value} {k : Nat} {xs : List Value} {tmp : Obj} {t e : TypeId} {size : Nat} (hv1 : Boxed w1 B t v) (hrow : W.ownsRow n₀ e size v k xs) (ht : t ∉ risT) (he : e ∉ risT) (hgrow : (W.alloc tmp).grownBy w1 v.ownBlock) :
  KeepsTy risT W (w1.setCell ⟨B, 0, none⟩ v') := by
 refine ((KeepsTy.of_below (balloc W tmp)).trans (KeepsTy.of_off (us := [e]) (KeepsOff.of_touch (typed_own (hrow.alloc tmp) (by simp)) ((touch_of_grown hgrow).mono (fun _ _ h => h))) ?_)).trans (KeepsTy.of_off (us := [t]) (keeps_set hv1 (by simp) v') ?_)
 ·intro x hx hm
  simp at hm
  exact he (hm ▸ hx)
 ·intro x hx hm
  simp at hm
  exact ht (hm ▸ hx)
set_option maxHeartbeats 4000000 in
set_option maxRecDepth 100000 in
theorem scan_any (mb : Option Nat) (ps : Sto.Pairs) (k : Sto.S) (most : Int) (w : World) (hg : Sto.Good ps) (hlen : ps.length ≤ 4398046511104) (hm : MapO w mb ps) (hmost : most ≤ 9223372036854775807) (hmost' : -9223372036854775808 ≤ most) :
  Calls Tryz.prog 59 #[.map mb, .string ⟨k.toArray⟩, .int .i64 most] w fun e w' => ∃ v, e = .returned v ∧ PairsAt w' v (Sto.scan ps k most.toNat) ∧ (∀ g, v.ownBlock = some g → w.heap.size ≤ g) ∧ Below w.heap.size w w' := by
 refine (callsIn_wide (n := 3)).1 ?_
 refine callsIn_of_wp_marks Tryz.func59 rfl trivial ?_ rfl
 simp only [Tryz.ntmps59, List.size_toArray, List.length_cons, List.length_nil, Nat.reduceAdd, Nat.reduceSub, Array.replicate_succ, Array.replicate_zero, List.push_toArray, List.append_toArray, List.nil_append, List.cons_append]
 gi_wp2_with (refine ⟨trivial, ?_⟩; gi_at_call 114; refine (callsIn_wide.2 (rising_any mb _)).mono ?_; rintro e w' ⟨rfl, rfl⟩)
 obtain ⟨B, hBq⟩ : ∃ B, w.heap.size = B := ⟨_, rfl⟩
 have n1 := Boxed.new w 9 (.string ⟨k.toArray⟩)
 have b1 := balloc w (.cells #[.string ⟨k.toArray⟩] 9)
 have s1 : (w.alloc (.cells #[.string ⟨k.toArray⟩] 9)).heap.size = B + 1 := by simp [hBq]
 generalize w.alloc (.cells #[.string ⟨k.toArray⟩] 9) = wa at n1 b1 s1 ⊢
 have n2 := Boxed.new wa 3 (.int .i64 most)
 have b2 := balloc wa (.cells #[.int .i64 most] 3)
 have s2 : (wa.alloc (.cells #[.int .i64 most] 3)).heap.size = B + 1 + 1 := by simp [s1]
 generalize wa.alloc (.cells #[.int .i64 most] 3) = wb at n2 b2 s2 ⊢
 have n3 := Boxed.new wb 42 (.slice none 0 0)
 have b3 := balloc wb (.cells #[.slice none 0 0] 42)
 have s3 : (wb.alloc (.cells #[.slice none 0 0] 42)).heap.size = B + 1 + 1 + 1 := by simp [s2]
 generalize wb.alloc (.cells #[.slice none 0 0] 42) = wc at n3 b3 s3 ⊢
 have n4 := heap_new wc (.cells #[.map mb] 101)
 have b4 := balloc wc (.cells #[.map mb] 101)
 have s4 : (wc.alloc (.cells #[.map mb] 101)).heap.size = B + 1 + 1 + 1 + 1 := by simp [s3]
 generalize wc.alloc (.cells #[.map mb] 101) = W0 at n4 b4 s4 ⊢
 rw [hBq] at n1
 rw [s1] at n2
 rw [s2] at n3
 rw [s3] at n4
 have hBW : Below B w W0 := by rw [← hBq]; exact bthen b1 (bthen b2 (bthen b3 b4))
 have x1 : Boxed W0 B 9 (.string ⟨k.toArray⟩) := stays n1 (bthen b2 (bthen b3 b4))
 have x2 : Boxed W0 (B + 1) 3 (.int .i64 most) := stays n2 (bthen b3 b4)
 have x3 : Boxed W0 (B + 1 + 1) 42 (.slice none 0 0) := stays n3 b4
 have hm0 : MapO W0 mb ps := hm.below (by rw [hBq]; exact hBW)
 have hmlt : ∀ b, mb = some b → b < B := by rw [← hBq]; exact hm.lt
 rw [hBq]
 clear b1 b2 b3 b4 n1 n2 n3 s1 s2 s3 hm
 refine wpIn_rangeFunc_ownG rfl (by omega) (gf := 152) (lb := #[.pointer (some ⟨B + 1 + 1 + 1, 0, none⟩)]) rfl trivial (enters_of Tryz.func152 (by kernel_rfl) rfl)
  (rising_stops (3 - 1) (B + 1 + 1 + 1) B (by omega) mb ps hg hlen W0 n4 hm0 hmlt (by omega)) KpR.t (KpR.b (by omega)) (Below.refl _ _) (fun _ => rfl)
  (fun pre W => (∃ v, Boxed W (B + 1 + 1) 42 v ∧ W.ownsRow B 97 2 v (got k pre).length (pCells (got k pre)) ∧ (got k pre).length ≤ most.toNat) ∧ (Boxed W B 9 (.string ⟨k.toArray⟩) ∧ Boxed W (B + 1) 3 (.int .i64 most)) ∧ Below B w W)
  (fun c pre W => (∃ v, Boxed W (B + 1 + 1) 42 v ∧ W.ownsRow B 97 2 v (got k pre.dropLast).length (pCells (got k pre.dropLast)) ∧ (c = .exit 0 ∧ pre ≠ [] ∧ (got k pre.dropLast).length = most.toNat)) ∧ Below B w W)
  (OwnFrom.and (Own.from (holdsRow_own B (B + 1 + 1) 42 97 2 (fun pre => (got k pre).length) (fun pre => pCells (got k pre)) (fun pre _ => (got k pre).length ≤ most.toNat)) _) (OwnFrom.and (OwnFrom.and (Own.from (boxed_own B 9 (fun _ => .string ⟨k.toArray⟩)) _) (Own.from (boxed_own (B + 1) 3 (fun _ => .int .i64 most)) _)) (ownFrom_below (by omega) (by omega))))
  (fun c => OwnFrom.and (Own.from (holdsRow_own B (B + 1 + 1) 42 97 2 (fun pre => (got k pre.dropLast).length) (fun pre => pCells (got k pre.dropLast)) (fun pre _ => c = .exit 0 ∧ pre ≠ [] ∧ (got k pre.dropLast).length = most.toNat)) _) (ownFrom_below (by omega) (by omega)))
  ⟨⟨_, x3, World.ownsRow_nil _ _ _ _, Nat.zero_le _⟩, ⟨x1, x2⟩, hBW⟩
  (fun x => { tmps := #[.map mb, .string ⟨k.toArray⟩, .int .i64 most, undef, .pointer (some ⟨B, 0, none⟩), .pointer (some ⟨B + 1, 0, none⟩), .slice none 0 0, .pointer (some ⟨B + 1 + 1, 0, none⟩), .string ⟨x.1.1.toArray⟩, .string ⟨x.1.2.toArray⟩, .map mb, .func (.func 152) #[] #[.pointer (some ⟨B + 1 + 1 + 1, 0, none⟩)], .string ⟨x.1.1.toArray⟩, .string ⟨x.1.2.toArray⟩, undef, undef, undef, undef, undef, undef, undef, undef, undef, undef, undef, undef, undef, undef, undef], defers := [] }) ?assign ?body ?done ?stop
 case assign =>
  intro l x W K hK
  dsimp only [encP]
  gi_wp2
  exact hK
 case body =>
  rintro l pre x W ⟨⟨v, hv, hrow, hle⟩, ⟨y1, y2⟩, hBl⟩ hlt
  have hc := hv.cell
  have hc1 := y1.cell
  have hc2 := y2.cell
  obtain ⟨ao, cap, rfl⟩ : ∃ ao cap, v = .slice ao (got k pre).length cap := by
   rcases hrow.2 with ⟨rfl, h0⟩ | ⟨g, cap, cur, rfl, _⟩
   ·exact ⟨none, 0, by rw [h0]⟩
   ·exact ⟨_, cap, rfl⟩
  have hlg : (got k pre).length ≤ pre.length := by
   unfold got
   exact Nat.le_trans (List.length_filter_le _ _) (by simp)
  have HROW := Lib.hid hrow
  have HV := Lib.hid hv
  have HBL := Lib.hid hBl
  have HY1 := Lib.hid y1
  have HY2 := Lib.hid y2
  clear hrow hv hBl y1 y2 n4 x1 x2 x3 hBW hm0 hmlt hg
  by_cases hfull : most ≤ ((got k pre).length : Int)
  ·gi_wp2
   exact ⟨KeepsFrom.refl _ _, ⟨_, HV.out, by rw [List.dropLast_concat]; exact HROW.out, rfl, by simp, by rw [List.dropLast_concat]; omega⟩, HBL.out⟩
  ·cases hk : Sto.lt x.1.1 k with
   | true =>
    have hkl : Op.bytesLess x.1.1 k = true := hk
    gi_wp2
    exact ⟨KeepsFrom.refl _ _, ⟨Below.refl _ _, KeepsTy.refl _ _⟩, ⟨_, HV.out, by rw [got_miss pre hk]; exact HROW.out, by rw [got_miss pre hk]; exact hle⟩, ⟨HY1.out, HY2.out⟩, HBL.out⟩
   | false =>
    have hkl : Op.bytesLess x.1.1 k = false := hk
    have hv := HV.out
    have hrow := HROW.out
    have hBsz : B ≤ W.heap.size := by have := HBL.out.size; omega
    obtain ⟨i0, hi, hz0, hz1, hz2⟩ := info_parts pairInfo
    have HI := Lib.hid hi
    have HI0 := Lib.hid hz0
    have HI1 := Lib.hid hz1
    have HI2 := Lib.hid hz2
    clear hi hz0 hz1 hz2
    gi_wp2_with (gi_at_builtin; refine wpListIn_append_own _ rfl _ _ 42 rfl B 97 i0 (.agg #[.string ⟨#[]⟩, .string ⟨#[]⟩]) 2 32 Tryz.underlying42 HI.out HI0.out HI1.out HI2.out rfl (by decide) _ _ _ rfl (hrow.alloc _) ⟨W.heap.size, 0, none⟩ 1 1 [.string ⟨x.1.1.toArray⟩, .string ⟨x.1.2.toArray⟩] rfl rfl (fun j u hu => by rw [addr_add, Nat.zero_add]; exact cell_of (heap_new W _) (by simpa using hu)) (by simp [Value.oneCell']) (by unfold maxLen; omega) (by omega) (by simp; omega) ?_; intro v' w1 hown' hgrow _; obtain ⟨g', cap', rfl⟩ := ownsRow_succ hown'; have hkt := appended_keeps (v' := .slice (some ⟨g', 0, none⟩) ((got k pre).length + 1) cap') ((hv.alloc _).kept hgrow (hv.not_row (by decide) hrow)) hrow (by decide) (by decide) hgrow; obtain ⟨hv1, hv2, hr2, hk2, hb2⟩ := hv.appended (by decide) hrow hBsz (by omega) hown' hgrow; have hc1 := hv1.cell; have hf1 := hv1.frozen; have hz1 := ((HY1.out.alloc _).kept hgrow (HY1.out.not_row (by decide) hrow)).other (B' := B + 1 + 1) (by omega) (.slice (some ⟨g', 0, none⟩) ((got k pre).length + 1) cap'); have hz2 := ((HY2.out.alloc _).kept hgrow (HY2.out.not_row (by decide) hrow)).other (B' := B + 1 + 1) (by omega) (.slice (some ⟨g', 0, none⟩) ((got k pre).length + 1) cap'); have HF := Lib.hid (And.intro hv2 (And.intro hr2 (And.intro hk2 (And.intro hb2 (And.intro hkt (And.intro hz1 hz2)))))); clear hv2 hr2 hk2 hb2 hkt hz1 hz2 hown' hgrow)
    obtain ⟨hv2, hr2, hk2, hb2, hkt, hz1, hz2⟩ := HF.out
    exact ⟨hk2.from _, ⟨hb2, hkt⟩, ⟨_, hv2, by rw [got_hit pre hk]; simpa [pCells_append, pCells] using hr2, by rw [got_hit pre hk]; simp; omega⟩, ⟨hz1, hz2⟩, HBL.out.trans hb2⟩
 case done =>
  rintro D ys W hD hx ⟨⟨v, hv, hrow, hle⟩, _, hB⟩ hK
  have hc := hv.cell
  obtain ⟨ao, cap, rfl, hn, hcap, hpa, hnew⟩ := own_clip hrow
  have HROW := Lib.hid hrow
  have HB := Lib.hid hB
  have HS := Lib.hid (scan_all hx hle)
  clear hpa hnew hB hrow hv n4 x1 x2 x3 hm0 hmlt hg hx
  gi_wp2_with (refine ⟨trivial, ?_⟩; gi_at_call 115; refine (callsIn_wide.2 (pclip_any _ _ _ _ hn hcap)).mono ?_; rintro e w' ⟨rfl, rfl⟩)
  refine ⟨by simp, .inl ⟨_, _, rfl, run_takeDeferred hK, ?_⟩⟩
  obtain ⟨hpa, hnew⟩ := own_clipped (ownsRow_putObj HROW.out (.deferred none) hK rfl)
  refine ⟨_, results_tmp rfl _ _ _, _, rfl, ?_, ?_, ?_⟩
  ·rw [HS.out]; exact hpa
  ·rw [hBq]; exact hnew
  ·rw [hBq]; exact HB.out.trans (belowK_b (w := w) (by omega) _ D _ _ (by omega) hK rfl rfl)
 case stop =>
  rintro D c pre W hD ⟨j, hj, hx⟩ ⟨⟨v, hv, hrow, rfl, hne, hle⟩, hB⟩ hK
  have hc := hv.cell
  obtain ⟨ao, cap, rfl, hn, hcap, hpa, hnew⟩ := own_clip hrow
  have HROW := Lib.hid hrow
  have HB := Lib.hid hB
  have HS := Lib.hid (scan_part hx hle hne)
  clear hle hne hj
  clear hpa hnew hB hrow hv n4 x1 x2 x3 hm0 hmlt hg hx
  gi_wp2_with (refine ⟨trivial, ?_⟩; gi_at_call 115; refine (callsIn_wide.2 (pclip_any _ _ _ _ hn hcap)).mono ?_; rintro e w' ⟨rfl, rfl⟩)
  refine ⟨by simp, .inl ⟨_, _, rfl, run_takeDeferred hK, ?_⟩⟩
  obtain ⟨hpa, hnew⟩ := own_clipped (ownsRow_putObj HROW.out (.deferred none) hK rfl)
  refine ⟨_, results_tmp rfl _ _ _, _, rfl, ?_, ?_, ?_⟩
  ·rw [HS.out]; exact hpa
  ·rw [hBq]; exact hnew
  ·rw [hBq]; exact HB.out.trans (belowK_b (w := w) (by omega) _ D _ _ (by omega) hK rfl rfl)
end Go.Proofs.YtpjpknndfhablaaGreat
namespace Go.Proofs.YtpjpknndfhablaaGreat
open Go.RowKit Go.Shelf Go.Maps Go.Sort
attribute [local go_sem] Oper.semAt_some
/-- Pairs as puts. -/
def puts (pre : List GP) : List Sto.Ch := pre.map fun x => ⟨true, x.1.1, x.1.2⟩
theorem puts_all {ps : Sto.Pairs} {xs : List GP} (hx : xs.map (·.1) = ps) : puts xs = Sto.changes [] ps := by
 have h : ∀ l : Sto.Pairs, Sto.changes [] l = l.map fun q => ⟨true, q.1, q.2⟩ := by
  intro l
  induction l with
  | nil => simp [Sto.changes]
  | cons q r ih => rw [Sto.changes, ih]; rfl
 rw [h, ← hx, List.map_map]
 rfl
theorem runs_empty {p mb : Nat} {lv tv dv : Value} {n : Int} {w : World} (hp : w.heap[p]? = some (stBlock lv mb n tv dv)) (hm : MapAt w mb []) :
  Calls Tryz.prog 117 #[.pointer (some ⟨p, 0, none⟩)] w fun e w' => e = .returned (.string ⟨#[]⟩) ∧ w' = w := by
 obtain ⟨q1, _, _⟩ := st_cells hp
 have hlen0 : ∀ ty, (Builtin.len_ #[101] ty #[.map (some mb)]).run Tryz.prog w = .ok (.int .i64 0) w := hm.len
 clear hp hm
 go_enter Tryz.func117, Tryz.ntmps117
 go_wp2
 go_ret
 exact ⟨rfl, rfl⟩
set_option maxHeartbeats 4000000 in
set_option maxRecDepth 100000 in
theorem image_any (p mb : Nat) (lv tv dv : Value) (n : Int) (ps : Sto.Pairs) (w : World) (hp : w.heap[p]? = some (stBlock lv mb n tv dv)) (hm : MapAt w mb ps) (hg : Sto.Good ps) (hf : Sto.fits ps = true) :
  Calls Tryz.prog 117 #[.pointer (some ⟨p, 0, none⟩)] w fun e w' => e = .returned (.string ⟨(Sto.image ps).toArray⟩) ∧ Below w.heap.size w w' := by
 by_cases h0 : ps = []
 ·subst h0
  refine (runs_empty hp hm).mono ?_
  rintro e w' ⟨rfl, rfl⟩
  exact ⟨rfl, Below.refl _ _⟩
 have HIM : Hid (Sto.image ps = Sto.encode (Sto.changes [] ps) 4) := Lib.hid (by unfold Sto.image; rw [if_neg h0])
 have hil := Sto.image_length ps hf
 rw [HIM.out] at hil
 have hfit : ps.length ≤ 2048 := by
  unfold Sto.fits at hf
  simp at hf
  exact hf.1
 obtain ⟨q1, _, _⟩ := st_cells hp
 have hlt : p < w.heap.size := heap_lt hp
 have hlen0 : ∀ ty, (Builtin.len_ #[101] ty #[.map (some mb)]).run Tryz.prog w = .ok (.int .i64 ps.length) w := hm.len
 have hz : ((ps.length : Int) == 0) = false := beq_eq_false_iff_ne.2 (by
  have : ps.length ≠ 0 := fun e => h0 (List.eq_nil_of_length_eq_zero e)
  omega)
 have q1' : (w.alloc (.cells #[.slice none 0 0] 111)).cell? ⟨p, 1, none⟩ = some (.map (some mb)) := cell_later (balloc w _) q1
 have HMW := Lib.hid hm
 have HG := Lib.hid hg
 clear hm hg hp h0 hf
 refine (callsIn_wide (n := 3)).1 ?_
 refine callsIn_of_wp_marks Tryz.func117 rfl trivial ?_ rfl
 simp only [Tryz.ntmps117, List.size_toArray, List.length_cons, List.length_nil, Nat.reduceAdd, Nat.reduceSub, Array.replicate_succ, Array.replicate_zero, List.push_toArray, List.append_toArray, List.nil_append, List.cons_append]
 gi_wp2_with (refine ⟨trivial, ?_⟩; gi_at_call 114; refine (callsIn_wide.2 (rising_any (some mb) _)).mono ?_; rintro e w' ⟨rfl, rfl⟩)
 obtain ⟨B, hBq⟩ : ∃ B, w.heap.size = B := ⟨_, rfl⟩
 have n3 := Boxed.new w 111 (.slice none 0 0)
 have b3 := balloc w (.cells #[.slice none 0 0] 111)
 have s3 : (w.alloc (.cells #[.slice none 0 0] 111)).heap.size = B + 1 := by simp [hBq]
 clear q1'
 generalize w.alloc (.cells #[.slice none 0 0] 111) = wc at n3 b3 s3 ⊢
 have n4 := heap_new wc (.cells #[.map (some mb)] 101)
 have b4 := balloc wc (.cells #[.map (some mb)] 101)
 have s4 : (wc.alloc (.cells #[.map (some mb)] 101)).heap.size = B + 1 + 1 := by simp [s3]
 generalize wc.alloc (.cells #[.map (some mb)] 101) = W0 at n4 b4 s4 ⊢
 rw [hBq] at n3
 rw [s3] at n4
 have hBW : Below B w W0 := by rw [← hBq]; exact bthen b3 b4
 have x3 : Boxed W0 B 111 (.slice none 0 0) := stays n3 b4
 have hm0 : MapO W0 (some mb) ps := HMW.out.below (by rw [hBq]; exact hBW)
 have hmlt : ∀ b, some mb = some b → b < B := by
  rintro b e
  cases e
  rw [← hBq]; exact HMW.out.lt
 rw [hBq]
 clear b3 b4 n3 s3 hlen0 q1
 refine wpIn_rangeFunc_ownG rfl (by omega) (gf := 152) (lb := #[.pointer (some ⟨B + 1, 0, none⟩)]) rfl trivial (enters_of Tryz.func152 (by kernel_rfl) rfl)
  (rising_stops (3 - 1) (B + 1) B (by omega) (some mb) ps HG.out (by omega) W0 n4 hm0 hmlt (by omega)) KpR.t (KpR.b (by omega)) (Below.refl _ _) (fun _ => rfl)
  (fun pre W => (∃ v, Boxed W B 111 v ∧ W.ownsRow B 116 3 v (puts pre).length (cCells (puts pre)) ∧ True) ∧ Below B w W)
  (fun c pre W => False)
  (OwnFrom.and (Own.from (holdsRow_own B B 111 116 3 (fun pre => (puts pre).length) (fun pre => cCells (puts pre)) (fun _ _ => True)) _) (ownFrom_below (by omega) (by omega)))
  (fun _ _ _ _ _ hs _ _ => hs)
  ⟨⟨_, x3, World.ownsRow_nil _ _ _ _, trivial⟩, hBW⟩
  (fun x => { tmps := #[.pointer (some ⟨p, 0, none⟩), undef, .string ⟨#[]⟩, .pointer (some ⟨B, 0, none⟩), .string ⟨x.1.1.toArray⟩, .string ⟨x.1.2.toArray⟩, .pointer (some ⟨p, 0, none⟩), .pointer (some ⟨p, 0, none⟩), .pointer (some ⟨p, 1, none⟩), .map (some mb), .int .i64 ps.length, .bool false, .pointer (some ⟨p, 0, none⟩), .pointer (some ⟨p, 0, none⟩), .pointer (some ⟨p, 1, none⟩), .map (some mb), .func (.func 152) #[] #[.pointer (some ⟨B + 1, 0, none⟩)], .string ⟨x.1.1.toArray⟩, .string ⟨x.1.2.toArray⟩, undef, undef, undef, undef, undef, undef, undef, undef], defers := [] }) ?assign ?body ?done ?stop
 case assign =>
  intro l x W K hK
  dsimp only [encP]
  gi_wp2
  exact hK
 case body =>
  rintro l pre x W ⟨⟨v, hv, hrow, _⟩, hBl⟩ hlt
  have hc := hv.cell
  have hlg : (puts pre).length ≤ pre.length := by simp [puts]
  have HBL := Lib.hid hBl
  have hBsz : B ≤ W.heap.size := by have := hBl.size; omega
  clear hBl n4 x3 hBW hm0 hmlt
  obtain ⟨i0, hi, hz0, hz1, hz2⟩ := info_parts chInfo
  have HI := Lib.hid hi
  have HI0 := Lib.hid hz0
  have HI1 := Lib.hid hz1
  have HI2 := Lib.hid hz2
  clear hi hz0 hz1 hz2
  gi_wp2_with (gi_at_builtin; refine wpListIn_append_own _ rfl _ _ 111 rfl B 116 i0 (.agg #[.bool false, .string ⟨#[]⟩, .string ⟨#[]⟩]) 3 40 Tryz.underlying111 HI.out HI0.out HI1.out HI2.out rfl (by decide) _ _ _ rfl (hrow.alloc _) ⟨W.heap.size, 0, none⟩ 1 1 [.bool true, .string ⟨x.1.1.toArray⟩, .string ⟨x.1.2.toArray⟩] rfl rfl (fun j u hu => by rw [addr_add, Nat.zero_add]; exact cell_of (heap_new W _) (by simpa using hu)) (by simp [Value.oneCell']) (by unfold maxLen; omega) (by omega) (by simp; omega) ?_; intro v' w1 hown' hgrow _; obtain ⟨g', cap', rfl⟩ := ownsRow_succ hown'; have hkt := appended_keeps (v' := .slice (some ⟨g', 0, none⟩) ((puts pre).length + 1) cap') ((hv.alloc _).kept hgrow (hv.not_row (by decide) hrow)) hrow (by decide) (by decide) hgrow; obtain ⟨hv1, hv2, hr2, hk2, hb2⟩ := hv.appended (by decide) hrow hBsz (by omega) hown' hgrow; have hc1 := hv1.cell; have hf1 := hv1.frozen; have HF := Lib.hid (And.intro hv2 (And.intro hr2 (And.intro hk2 (And.intro hb2 hkt)))); clear hv2 hr2 hk2 hb2 hkt hown' hgrow)
  obtain ⟨hv2, hr2, hk2, hb2, hkt⟩ := HF.out
  have e1 : puts (pre ++ [x]) = puts pre ++ [⟨true, x.1.1, x.1.2⟩] := by simp [puts]
  exact ⟨hk2.from _, ⟨hb2, hkt⟩, ⟨_, hv2, by rw [e1]; simpa [cCells_append, cCells] using hr2, trivial⟩, HBL.out.trans hb2⟩
 case done =>
  rintro D ys W hD hx ⟨⟨v, hv, hrow, _⟩, hB⟩ hK
  have hc := hv.cell
  have hpe := puts_all hx
  have HB := Lib.hid hB
  have hen := encode11_any v (puts ys) 4 W (OwnF.of_owns hrow).zero (fun c hc => by rw [hpe] at hc; exact Sto.changes_fine Sto.Good.nil HG.out c hc) (by omega) (by rw [hpe]; omega) (by
   have : (puts ys).length = ps.length := by rw [← hx]; simp [puts]
   omega)
  rw [hpe] at hen
  have HEN := Lib.hid hen
  have HK := Lib.hid hK
  clear hB hrow hv n4 x3 hm0 hmlt hx hpe hen hK
  gi_wp2_with (refine ⟨trivial, ?_⟩; gi_at_call 66; refine (callsIn_wide.2 HEN.out).mono ?_; rintro e w3 ⟨rfl, hb3⟩)
  have hK3 := stays HK.out hb3
  refine ⟨by simp, .inl ⟨_, _, rfl, run_takeDeferred hK3, ?_⟩⟩
  refine ⟨_, results_tmp rfl _ _ _, ?_, ?_⟩
  ·rw [HIM.out]; rfl
  ·rw [hBq]; exact (HB.out.trans (hb3.mono (by have := HB.out.size; omega))).trans (belowK_b (w := w) (by omega) _ D _ _ (by omega) hK3 rfl rfl)
 case stop =>
  rintro D c pre W _ _ h _
  exact h.elim
end Go.Proofs.YtpjpknndfhablaaGreat
namespace Go.Proofs.YtpjpknndfhablaaGreat
open Go.RowKit Go.Shelf Go.Lib Go.Sort
instance : Inhabited Sto.Ch := ⟨⟨false, [], []⟩⟩
/-- A change's three cells. -/
def encC (c : Sto.Ch) : List Value := [.bool c.put, .string ⟨c.key.toArray⟩, .string ⟨c.value.toArray⟩]
def cmpC (x y : Sto.Ch) : Int := Lib.compareBytes x.key y.key
theorem compare_lt : ∀ a b : Sto.S, decide (Lib.compareBytes a b < 0) = Sto.lt a b
 | [], [] => rfl
 | [], _ :: _ => rfl
 | _ :: _, [] => rfl
 | x :: a, y :: b => by
  have ih := compare_lt a b
  simp only [Sto.lt] at ih
  unfold Lib.compareBytes
  by_cases h1 : x < y
  ·simp [h1, Sto.lt, Op.bytesLess]
  ·by_cases h2 : y < x
   ·have hne : ¬ x = y := fun e => by rw [e] at h2; exact absurd h2 (UInt8.lt_irrefl y)
    simp [h1, h2, hne, Sto.lt, Op.bytesLess]
   ·have e : x = y := UInt8.le_antisymm (UInt8.not_lt.1 h2) (UInt8.not_lt.1 h1)
    subst e
    rw [if_neg h1, if_neg h2, ih]
    simp [Sto.lt, Op.bytesLess]
theorem ltOf_cmpC (x y : Sto.Ch) : ltOf cmpC x y = Sto.lt x.key y.key := compare_lt _ _
theorem swoC : SWO (ltOf cmpC) where
 irrefl x := by rw [ltOf_cmpC]; exact Sto.lt_irrefl _
 trans x y z h1 h2 := by rw [ltOf_cmpC] at *; exact Sto.lt_trans h1 h2
 ntrans x y z h1 h2 := by
  rw [ltOf_cmpC] at *
  cases h : Sto.lt x.key z.key with
  | false => rfl
  | true =>
   rcases Sto.lt_total x.key y.key with h3 | h3 | h3
   ·rw [h3] at h1; cases h1
   ·rw [h3] at h; rw [h] at h2; cases h2
   ·have := Sto.lt_trans h3 h
    rw [this] at h2; cases h2
set_option maxHeartbeats 1000000 in
theorem cmp_any (x y : Sto.Ch) (W : World) : Calls Tryz.prog 120 #[.agg #[.bool x.put, .string ⟨x.key.toArray⟩, .string ⟨x.value.toArray⟩], .agg #[.bool y.put, .string ⟨y.key.toArray⟩, .string ⟨y.value.toArray⟩]] W fun e w' => e = .returned (.int .i64 (cmpC x y)) ∧ ∃ q os', w' = grow (W.drewN q) os' := by
 have hcon := fun W' => Tryz.strings_Compare ⟨x.key.toArray⟩ ⟨y.key.toArray⟩ W'
 obtain ⟨r, hr⟩ : ∃ r, cmpC x y = r := ⟨_, rfl⟩
 have hr' : Lib.compareBytes x.key y.key = r := hr
 simp only [hr'] at hcon
 rw [hr]
 have HC := Lib.hid hcon
 clear hcon hr hr'
 go_enter Tryz.func120, Tryz.ntmps120
 go_wp2_with (go_at_call 121; refine (HC.out _).mono ?_; rintro e w' ⟨rfl, rfl⟩)
 go_ret
 exact ⟨rfl, 0, _, by rw [alloc_eq_grow, alloc_eq_grow, grow_grow]; rfl⟩
theorem cmpLaysC (blk off size : Nat) (w : World) : CmpLays Tryz.prog 120 #[] encC 3 cmpC blk off size w :=
 fun _ _ _ _ x y => cmp_any x y _
theorem cCells_flat (l : List Sto.Ch) {t : Nat} (ht : t < l.length * 3) : (cCells l)[t]? = some ((flatK encC 3 l.toArray)[t]!) := by
 rw [get_flatK _ _ _ t (by simpa using ht)]
 have hq : t / 3 < l.length := by omega
 obtain ⟨q, hqe⟩ : ∃ q, t / 3 = q := ⟨_, rfl⟩
 obtain ⟨r, hre⟩ : ∃ r, t % 3 = r := ⟨_, rfl⟩
 have hm := Nat.div_add_mod t 3
 rw [hqe, hre] at hm
 rw [hqe] at hq
 have hr : r < 3 := by omega
 have e : l.toArray[q]! = l[q] := by simp [hq]
 rw [hqe, hre, e]
 obtain ⟨x, hx⟩ : ∃ x, l[q] = x := ⟨_, rfl⟩
 have hx' : l[q]? = some x := by rw [← hx]; exact List.getElem?_eq_getElem hq
 rw [hx]
 obtain ⟨h0, h1, h2⟩ := cCells_at hx'
 rcases (show r = 0 ∨ r = 1 ∨ r = 2 by omega) with rfl | rfl | rfl
 ·rw [show t = q * 3 by omega]; exact h0
 ·rw [show t = q * 3 + 1 by omega]; exact h1
 ·rw [show t = q * 3 + 2 by omega]; exact h2
/-- The slice holds the changes, in some order, rising by their keys. -/
def Sorted (w w' : World) (v : Value) (c : List Sto.Ch) : Prop := ∃ c', c'.Perm c ∧ c'.Pairwise (fun x y => Sto.lt y.key x.key = false) ∧ ChsAt w' v c' ∧ Touch (fun k => v.ownBlock = some k) w w'
theorem sort_any (v : Value) (base : Nat) (c : List Sto.Ch) (w : World) (h : OwnF w base 3 v c.length (cCells c)) (hl : c.length ≤ 4398046511104) :
  Calls Tryz.prog 119 #[v, .func (.func 120) #[] #[]] w fun e w' => e = .returned (.tuple #[]) ∧ Sorted w w' v c := by
 rcases h.2 with ⟨rfl, h0⟩ | ⟨g, cap, rfl, hb, hg, hn, hc, hcell, hx⟩
 ·have hc0 : c = [] := List.eq_nil_of_length_eq_zero h0
  subst hc0
  refine (AnyF.slices_SortFunc_none Tryz.sortf none 0 _ w).mono ?_
  rintro e w' ⟨rfl, rfl⟩
  exact ⟨rfl, [], List.Perm.refl _, List.Pairwise.nil, ChsAt.nil _, Touch.refl _ _⟩
 ·have hH : HoldsK encC 3 w g 0 c.toArray := fun j hj => by
   rw [size_flatK] at hj
   have hj' : j < c.length * 3 := by simpa using hj
   have hjc : j < cap * 3 := by
    have : c.length * 3 ≤ cap * 3 := Nat.mul_le_mul_right _ hn
    omega
   rw [Nat.zero_add]
   exact ⟨hx j _ (cCells_flat c hj'), (hcell j hjc).2⟩
  have hcon := AnyQ.slices_SortFunc Tryz.sortf 3 Tryz.isAgg116 Tryz.sizeOf116 encC (fun _ => rfl) (fun x v hv => by simp [encC] at hv; rcases hv with rfl | rfl | rfl <;> rfl) cmpC swoC 120 #[] g 0 cap c.toArray w (enters_of Tryz.func120 (by kernel_rfl) rfl) (cmpLaysC _ _ _ _) hH hg (by simp; omega)
  have hcon' : Calls Tryz.prog 119 #[.slice (some ⟨g, 0, none⟩) c.length cap, .func (.func 120) #[] #[]] w _ := hcon
  refine hcon'.mono ?_
  rintro e w' ⟨rfl, d', n, os, ⟨hs, _, hp⟩, hso, rfl⟩
  have hs' : d'.size = c.length := by simpa using hs
  have hgr : ∀ k, k < w.heap.size → k ≠ g → (sortWorldK encC 3 w g 0 n d' os).heap[k]? = w.heap[k]? := fun k hk hne => by
   unfold sortWorldK
   rw [heap_grow_old _ _ (by simpa [putRowK] using hk)]
   have : g ≠ k := fun e => hne e.symm
   simp [putRowK, putRow, mapBlock, Sort.ahead, Array.getElem?_modify, this]
  have hsz : w.heap.size ≤ (sortWorldK encC 3 w g 0 n d' os).heap.size := by simp [sortWorldK, grow, putRowK]
  have hblk : (sortWorldK encC 3 w g 0 n d' os).heap[g]? = (putRowK encC 3 (Sort.ahead w n) g 0 d').heap[g]? := by
   unfold sortWorldK
   exact heap_grow_old _ _ (by simpa [putRowK] using hg)
  have hcl : ∀ j, (sortWorldK encC 3 w g 0 n d' os).cell? ⟨g, j, none⟩ = (putRowK encC 3 (Sort.ahead w n) g 0 d').cell? ⟨g, j, none⟩ := fun j => World.cell?_of_block (a := ⟨g, j, none⟩) hblk
  have hfr : ∀ j, (sortWorldK encC 3 w g 0 n d' os).frozen? ⟨g, j, none⟩ = w.frozen? ⟨g, j, none⟩ := fun j => by
   rw [World.frozen?_of_block (a := ⟨g, j, none⟩) hblk]
   show (putRow id (Sort.ahead w n) g 0 (flatK encC 3 d')).frozen? _ = _
   rw [Go.Sort.frozen?_putRow]
   rfl
  have hH' : HoldsK encC 3 (putRowK encC 3 (Sort.ahead w n) g 0 d') g 0 d' := holdsK_putRowK encC 3 (Sort.ahead w n) g 0 c.toArray d' hH hs
  refine ⟨rfl, d'.toList, ?_, ?_, ?_, ⟨rfl, rfl, rfl, hsz, fun k hk hS => hgr k hk (fun e => hS (by rw [e]; rfl))⟩⟩
  ·have e1 : (d'.extract 0 c.toArray.size).toList = d'.toList := by rw [← hs]; simp
   have e2 : (c.toArray.extract 0 c.toArray.size).toList = c := by simp
   rw [e1, e2] at hp
   exact hp
  ·rw [List.pairwise_iff_getElem]
   intro i j hi hj hij
   have := hso i j (Nat.zero_le _) hij (by rw [← hs]; simpa using hj)
   rw [ltOf_cmpC] at this
   have hi' : i < d'.size := by simpa using hi
   have hj' : j < d'.size := by simpa using hj
   rw [getElem!_pos d' i hi', getElem!_pos d' j hj'] at this
   simpa using this
  ·have hlen : d'.toList.length = c.length := by simpa using hs'
   refine ⟨cCells_length _, .inr ⟨g, cap, by rw [hlen], Nat.zero_le _, Nat.lt_of_lt_of_le hg hsz, by rw [hlen]; exact hn, hc, fun j hj => ⟨?_, by rw [hfr]; exact (hcell j hj).2⟩, fun j u hu => ?_⟩⟩
   ·rw [hcl]
    by_cases hjc : j < d'.size * 3
    ·have := (hH' j (by rw [size_flatK]; exact hjc)).1
     rw [Nat.zero_add] at this
     rw [this]; rfl
    ·show ((putRow id (Sort.ahead w n) g 0 (flatK encC 3 d')).cell? _).isSome = true
     rw [Go.Sort.cell?_putRow_other id _ g 0 _ ⟨g, j, none⟩ (.inr (.inr (by rw [size_flatK]; simp; omega)))]
     exact (hcell j hj).1
   ·have hj : j < d'.toList.length * 3 := by
     have := (List.getElem?_eq_some_iff.1 hu).1
     rw [cCells_length] at this
     exact this
    have hj2 : j < d'.size * 3 := by simpa using hj
    rw [cCells_flat d'.toList hj] at hu
    rw [hcl]
    have := (hH' j (by rw [size_flatK]; exact hj2)).1
    rw [Nat.zero_add] at this
    rw [this]
    simpa using hu
end Go.Proofs.YtpjpknndfhablaaGreat
namespace Go.Proofs.YtpjpknndfhablaaGreat
namespace Sto
def isPut (a : Pairs) (q : S × S) : Bool := decide (get a q.1 ≠ some q.2)
def isDel (b : Pairs) (p : S × S) : Bool := !here b p.1
def putsOf (a b : Pairs) : List Ch := (b.filter (isPut a)).map fun q => ⟨true, q.1, q.2⟩
def delsOf (a b : Pairs) : List Ch := (a.filter (isDel b)).map fun p => ⟨false, p.1, []⟩
theorem get_above {k : S} : ∀ {l : Pairs}, (∀ x ∈ l, lt k x.1 = true) → get l k = none
 | [], _ => rfl
 | p :: r, h => by
  have h1 := h p (by simp)
  unfold get
  rw [if_neg (by rw [lt_asymm h1]; decide), if_neg (fun e => lt_ne h1 e.symm)]
theorem rise_tail {p : S × S} {r : Pairs} (h : Rise (p :: r)) : ∀ x ∈ r, lt p.1 x.1 = true := fun _ hx => List.rel_of_pairwise_cons h hx
theorem rise_of {p : S × S} {r : Pairs} (h : Rise (p :: r)) : Rise r := List.Pairwise.of_cons h
theorem get_behind {p : S × S} {r : Pairs} {k : S} (h : lt p.1 k = true) : get (p :: r) k = get r k := by simp [get, h]
theorem get_here {p : S × S} {r : Pairs} : get (p :: r) p.1 = some p.2 := by unfold get; rw [if_neg (by rw [lt_irrefl]; decide), if_pos rfl]
theorem isPut_past {p q : S × S} {a : Pairs} (h : lt p.1 q.1 = true) : isPut (p :: a) q = isPut a q := by unfold isPut; rw [get_behind h]
theorem isDel_past {p q : S × S} {b : Pairs} (h : lt q.1 p.1 = true) : isDel (q :: b) p = isDel b p := by unfold isDel here; rw [get_behind h]
theorem putsOf_past {p : S × S} {a b : Pairs} (h : ∀ x ∈ b, lt p.1 x.1 = true) : putsOf (p :: a) b = putsOf a b := by
 unfold putsOf
 rw [List.filter_congr (fun x hx => isPut_past (h x hx))]
theorem delsOf_past {q : S × S} {a b : Pairs} (h : ∀ x ∈ a, lt q.1 x.1 = true) : delsOf a (q :: b) = delsOf a b := by
 unfold delsOf
 rw [List.filter_congr (fun x hx => isDel_past (h x hx))]
theorem changes_perm : ∀ (a b : Pairs), Rise a → Rise b → (putsOf a b ++ delsOf a b).Perm (changes a b)
 | [], [], _, _ => by rw [changes]; exact List.Perm.refl _
 | [], q :: b, ha, hb => by
  rw [changes]
  have ih := changes_perm [] b ha (rise_of hb)
  have e1 : putsOf [] (q :: b) = ⟨true, q.1, q.2⟩ :: putsOf [] b := by simp [putsOf, isPut, get]
  have e2 : delsOf [] (q :: b) = delsOf [] b := rfl
  rw [e1, e2]
  exact List.Perm.cons _ ih
 | p :: a, [], ha, hb => by
  rw [changes]
  have ih := changes_perm a [] (rise_of ha) hb
  have e1 : putsOf (p :: a) [] = putsOf a [] := rfl
  have e2 : delsOf (p :: a) [] = ⟨false, p.1, []⟩ :: delsOf a [] := by simp [delsOf, isDel, here, get]
  rw [e1, e2]
  exact (List.perm_middle).trans (List.Perm.cons _ ih)
 | p :: a, q :: b, ha, hb => by
  rw [changes]
  by_cases h1 : lt p.1 q.1 = true
  ·rw [if_pos h1]
   have ih := changes_perm a (q :: b) (rise_of ha) hb
   have hall : ∀ x ∈ q :: b, lt p.1 x.1 = true := fun x hx => by
    rcases List.mem_cons.1 hx with rfl | hx
    ·exact h1
    ·exact lt_trans h1 (rise_tail hb x hx)
   have e1 : putsOf (p :: a) (q :: b) = putsOf a (q :: b) := putsOf_past hall
   have e2 : delsOf (p :: a) (q :: b) = ⟨false, p.1, []⟩ :: delsOf a (q :: b) := by
    have : isDel (q :: b) p = true := by unfold isDel here; rw [get_above hall]; rfl
    simp only [delsOf, List.filter_cons, this, if_true, List.map_cons]
   rw [e1, e2]
   exact (List.perm_middle).trans (List.Perm.cons _ ih)
  ·rw [if_neg h1]
   by_cases h2 : lt q.1 p.1 = true
   ·rw [if_pos h2]
    have ih := changes_perm (p :: a) b ha (rise_of hb)
    have hall : ∀ x ∈ p :: a, lt q.1 x.1 = true := fun x hx => by
     rcases List.mem_cons.1 hx with rfl | hx
     ·exact h2
     ·exact lt_trans h2 (rise_tail ha x hx)
    have e1 : putsOf (p :: a) (q :: b) = ⟨true, q.1, q.2⟩ :: putsOf (p :: a) b := by
     have : isPut (p :: a) q = true := by unfold isPut; rw [get_above hall]; simp
     simp only [putsOf, List.filter_cons, this, if_true, List.map_cons]
    have e2 : delsOf (p :: a) (q :: b) = delsOf (p :: a) b := delsOf_past hall
    rw [e1, e2]
    exact List.Perm.cons _ ih
   ·rw [if_neg h2]
    have hk : p.1 = q.1 := by
     rcases lt_total p.1 q.1 with h | h | h
     ·exact absurd h h1
     ·exact h
     ·exact absurd h h2
    have ih := changes_perm a b (rise_of ha) (rise_of hb)
    have t1 : ∀ x ∈ b, lt p.1 x.1 = true := fun x hx => by rw [hk]; exact rise_tail hb x hx
    have t2 : ∀ x ∈ a, lt q.1 x.1 = true := fun x hx => by rw [← hk]; exact rise_tail ha x hx
    have e2 : delsOf (p :: a) (q :: b) = delsOf a b := by
     have h0 : isDel (q :: b) p = false := by unfold isDel here; rw [hk, get_here]; rfl
     have : delsOf (p :: a) (q :: b) = delsOf a (q :: b) := by
      simp only [delsOf, List.filter_cons, h0]
      rfl
     rw [this, delsOf_past t2]
    by_cases hv : p.2 = q.2
    ·rw [if_pos hv]
     have e1 : putsOf (p :: a) (q :: b) = putsOf a b := by
      have h0 : isPut (p :: a) q = false := by unfold isPut; rw [← hk, get_here, hv]; simp
      have : putsOf (p :: a) (q :: b) = putsOf (p :: a) b := by
       simp only [putsOf, List.filter_cons, h0]
       rfl
      rw [this, putsOf_past t1]
     rw [e1, e2]
     exact ih
    ·rw [if_neg hv]
     have e1 : putsOf (p :: a) (q :: b) = ⟨true, q.1, q.2⟩ :: putsOf a b := by
      have h0 : isPut (p :: a) q = true := by
       unfold isPut
       rw [← hk, get_here]
       simp only [ne_eq, Option.some.injEq, decide_eq_true_eq]
       exact hv
      have : putsOf (p :: a) (q :: b) = ⟨true, q.1, q.2⟩ :: putsOf (p :: a) b := by simp only [putsOf, List.filter_cons, h0, if_true, List.map_cons]
      rw [this, putsOf_past t1]
     rw [e1, e2]
     exact List.Perm.cons _ ih
termination_by a b => a.length + b.length
theorem riseC_inj : ∀ {l : List Ch}, RiseC l → ∀ x ∈ l, ∀ y ∈ l, x.key = y.key → x = y
 | [], _, x, hx, _, _, _ => by cases hx
 | c :: r, h, x, hx, y, hy, e => by
  have ht : ∀ z ∈ r, lt c.key z.key = true := fun z hz => List.rel_of_pairwise_cons h hz
  rcases List.mem_cons.1 hx with hx1 | hx1
  ·rcases List.mem_cons.1 hy with hy1 | hy1
   ·rw [hx1, hy1]
   ·rw [hx1] at e; exact absurd e (lt_ne (ht y hy1))
  ·rcases List.mem_cons.1 hy with hy1 | hy1
   ·rw [hy1] at e; exact absurd e.symm (lt_ne (ht x hx1))
   ·exact riseC_inj (List.Pairwise.of_cons h) x hx1 y hy1 e
theorem sorted_changes {a b : Pairs} (ha : Rise a) (hb : Rise b) {c' : List Ch} (hp : c'.Perm (putsOf a b ++ delsOf a b)) (hs : c'.Pairwise (fun x y => lt y.key x.key = false)) : c' = changes a b := by
 have hp2 := hp.trans (changes_perm a b ha hb)
 have hr := changes_rise a b ha hb
 refine List.Perm.eq_of_pairwise (le := fun x y : Ch => lt y.key x.key = false) (fun x y hx hy h1 h2 => ?_) hs (hr.imp fun h => lt_asymm h) hp2
 refine riseC_inj hr x (hp2.mem_iff.1 hx) y hy ?_
 rcases lt_total x.key y.key with h | h | h
 ·rw [h] at h2; cases h2
 ·exact h
 ·rw [h] at h1; cases h1
end Sto
end Go.Proofs.YtpjpknndfhablaaGreat
