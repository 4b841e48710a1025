/- How a disk of the document's (seneschalref09) lies in memory, over the same plain state. Walks of the document's disk: what only reads, and small writes. A row of the call's own of which some cell behind its end may be frozen (what a conversion []byte(s) lays): read and appended to cell by cell. The walk of the document's After: both files, as k unsafe bytes leave them. Walks of the document's disk: Files, Read, die, Crash, Sync, Cut, New. Walks of the document's disk: Cut. -/
import Derived.ArgAppend
import Derived.Deep.Upon
import Derived.Deep.MidRow
import Derived.Laws.BytesArg
import Derived.Laws.IdiomStrings
import Derived.Test.YtpjpknndfhablaaGreatK1
import Derived.Test.YtpjpknndfhablaaGreatK2
namespace Go.Proofs.YtpjpknndfhablaaGreat
open Go.RowKit

def uCells : List (Bool × UInt8) → List Value
 | [] => []
 | (f, x) :: u => .int .i64 (DS.fi f) :: .int .u8 x.toNat :: uCells u
theorem uCells_length (u : List (Bool × UInt8)) : (uCells u).length = u.length * 2 := by
 induction u with
 | nil => rfl
 | cons x u ih => obtain ⟨f, s⟩ := x; simp [uCells, ih]; omega
theorem uCells_append (u v : List (Bool × UInt8)) : uCells (u ++ v) = uCells u ++ uCells v := by
 induction u with
 | nil => rfl
 | cons x u ih => obtain ⟨f, t⟩ := x; simp [uCells, ih]
theorem uCells_at : ∀ {u : List (Bool × UInt8)} {j : Nat} {f : Bool} {x : UInt8}, u[j]? = some (f, x) →
  (uCells u)[j * 2]? = some (.int .i64 (DS.fi f)) ∧ (uCells u)[j * 2 + 1]? = some (.int .u8 x.toNat)
 | [], j, f, s, h => by simp at h
 | (g, t) :: u, 0, f, s, h => by simp at h; obtain ⟨rfl, rfl⟩ := h; simp [uCells]
 | (g, t) :: u, j + 1, f, s, h => by
  have := uCells_at (u := u) (j := j) (f := f) (x := s) (by simpa using h)
  rw [show (j + 1) * 2 = j * 2 + 1 + 1 by omega]
  simpa [uCells] using this
theorem uCells_one (u : List (Bool × UInt8)) : ∀ v ∈ uCells u, v.oneCell' = true := by
 induction u with
 | nil => intro v hv; cases hv
 | cons x u ih =>
  obtain ⟨f, s⟩ := x
  intro v hv
  simp only [uCells, List.mem_cons] at hv
  rcases hv with rfl | rfl | hv
  ·rfl
  ·rfl
  ·exact ih v hv

def refBlock (d : DS) (us : Value) : Obj :=
 .cells #[.string ⟨d.a.toArray⟩, .string ⟨d.b.toArray⟩, us, .int .i64 d.armed, .int .i64 d.keep, .bool d.dead] 92 (0, 0)

/-- Block b is the document's disk in state d; its unsafe bytes stand in the slice us. -/
structure RefU (w : World) (b : Nat) (d : DS) (us : Value) : Prop where
 blk : w.heap[b]? = some (refBlock d us)
 own : w.ownsRow 0 177 2 us d.u.length (uCells d.u)
def RefAt (w : World) (b : Nat) (d : DS) (ub : Option Nat) : Prop := d.Ok ∧ ∃ us, RefU w b d us ∧ us.ownBlock = ub

theorem RefU.lt {w : World} {b : Nat} {d : DS} {us : Value} (h : RefU w b d us) : b < w.heap.size := heap_lt h.blk
theorem RefU.slice {w : World} {b : Nat} {d : DS} {us : Value} (h : RefU w b d us) :
  ∃ ao cap, us = .slice ao d.u.length cap ∧ d.u.length ≤ 9223372036854775807 ∧ ∀ j f x, d.u[j]? = some (f, x) → ∃ g, ao = some ⟨g, 0, none⟩ ∧ g < w.heap.size ∧
   w.cell? ⟨g, j * 2, none⟩ = some (.int .i64 (DS.fi f)) ∧ w.cell? ⟨g, j * 2 + 1, none⟩ = some (.int .u8 x.toNat) := by
 rcases h.own.2 with ⟨rfl, h0⟩ | ⟨g, cap, cur, rfl, _, hg, hn, hc, hcs, ht⟩
 ·refine ⟨none, 0, by rw [h0], by omega, fun j f s hj => ?_⟩
  have : d.u = [] := List.eq_nil_of_length_eq_zero h0
  rw [this] at hj; simp at hj
 ·refine ⟨_, cap, rfl, by unfold maxLen at hc; omega, fun j f s hj => ⟨g, rfl, heap_lt hg, ?_, ?_⟩⟩
  ·have := (uCells_at hj).1
   rw [← ht, List.getElem?_take] at this
   split at this
   ·exact cell_of hg (by simpa using this)
   ·cases this
  ·have := (uCells_at hj).2
   rw [← ht, List.getElem?_take] at this
   split at this
   ·exact cell_of hg (by simpa using this)
   ·cases this
theorem RefU.cells {w : World} {b : Nat} {d : DS} {us : Value} (h : RefU w b d us) :
  w.cell? ⟨b, 0, none⟩ = some (.string ⟨d.a.toArray⟩) ∧ w.cell? ⟨b, 1, none⟩ = some (.string ⟨d.b.toArray⟩) ∧ w.cell? ⟨b, 2, none⟩ = some us ∧
  w.cell? ⟨b, 3, none⟩ = some (.int .i64 d.armed) ∧ w.cell? ⟨b, 4, none⟩ = some (.int .i64 d.keep) ∧ w.cell? ⟨b, 5, none⟩ = some (.bool d.dead) ∧ (∀ i, w.frozen? ⟨b, i, none⟩ = false) ∧ b < w.heap.size :=
 ⟨cell_of h.blk rfl, cell_of h.blk rfl, cell_of h.blk rfl, cell_of h.blk rfl, cell_of h.blk rfl, cell_of h.blk rfl, free_of h.blk, h.lt⟩
theorem RefU.own_block {w : World} {b : Nat} {d : DS} {us : Value} (h : RefU w b d us) : us.ownBlock ≠ some b := by
 intro hb
 rcases h.own.2 with ⟨rfl, _⟩ | ⟨g, cap, cur, rfl, _, hg, _⟩
 ·simp [Value.ownBlock] at hb
 ·simp only [Value.ownBlock, Option.some.injEq] at hb
  subst hb
  have := h.blk; rw [hg] at this; simp [refBlock] at this
theorem RefU.touch {S : Nat → Prop} {w w' : World} {b : Nat} {d : DS} {us : Value} (h : RefU w b d us) (ht : Touch S w w') (hb : ¬ S b) (hr : ∀ k, us.ownBlock = some k → ¬ S k) : RefU w' b d us :=
 ⟨(ht.block b h.lt hb).trans h.blk, own_touch h.own ht hr⟩
theorem RefU.below {w w' : World} {b : Nat} {d : DS} {us : Value} (h : RefU w b d us) (hb : Below w.heap.size w w') : RefU w' b d us :=
 h.touch (S := fun _ => False) (.of_below hb) (fun h => h) (fun _ _ h => h)
theorem RefU.drew {w : World} {b : Nat} {d : DS} {us : Value} (h : RefU w b d us) : RefU w.drew b d us := ⟨h.blk, h.own⟩
theorem RefAt.lt {w : World} {b : Nat} {d : DS} {ub : Option Nat} (h : RefAt w b d ub) : b < w.heap.size := by
 obtain ⟨_, us, h, _⟩ := h; exact h.lt
theorem RefAt.touch {S : Nat → Prop} {w w' : World} {b : Nat} {d : DS} {ub : Option Nat} (h : RefAt w b d ub) (ht : Touch S w w') (hS : ∀ k, own2 b ub k → ¬ S k) : RefAt w' b d ub := by
 obtain ⟨ok, us, h, rfl⟩ := h
 exact ⟨ok, us, h.touch ht (hS b (.inl rfl)) (fun k hk => hS k (.inr hk)), rfl⟩
theorem RefAt.below {w w' : World} {b : Nat} {d : DS} {ub : Option Nat} (h : RefAt w b d ub) (hb : Below w.heap.size w w') : RefAt w' b d ub :=
 h.touch (S := fun _ => False) (.of_below hb) (fun _ _ h => h)
end Go.Proofs.YtpjpknndfhablaaGreat
namespace Go.Proofs.YtpjpknndfhablaaGreat
open Go.RowKit

theorem DS.of_take_succ {u : List (Bool × UInt8)} {j : Nat} {f : Bool} {x : UInt8} (h : u[j]? = some (f, x)) (q : Bool) : DS.of q (u.take (j + 1)) = DS.of q (u.take j) ++ if f = q then [x] else [] := by
 rw [List.take_add_one, DS.of_append, h]
 congr 1
 by_cases e : f = q <;> simp [DS.of, e]

set_option maxHeartbeats 1000000 in
theorem unsafe_any (b : Nat) (w : World) (d : DS) (us : Value) (q : Bool) (h : RefU w b d us) (hok : d.Ok) :
  Calls Tryz.prog 142 #[.pointer (some ⟨b, 0, none⟩), .int .i64 (DS.fi q)] w fun e w' => e = .returned (.int .i64 (DS.of q d.u).length) ∧ w = w' := by
 obtain ⟨c0, c1, c2, c3, c4, c5, cf, hlt⟩ := h.cells
 obtain ⟨ao, cap, rfl, hr, hcell⟩ := h.slice
 have HC := Lib.hid hcell
 have hul := hok.u_len
 clear hcell h c0 c1 c3 c4 c5 cf
 go_enter Tryz.func142, Tryz.ntmps142
 go_wp2
 go_loop [5, 6] (fun n i => ∃ (j m : Nat), n = .int .i64 m ∧ i = .int .i64 j ∧ j ≤ d.u.length ∧ m ≤ j ∧ m = (DS.of q (d.u.take j)).length) (fun _ i => d.u.length - (intOf i).toNat)
 case atStart => exact ⟨0, 0, rfl, rfl, by omega, by omega, by simp [DS.of]⟩
 case round =>
  obtain ⟨j, m, rfl, rfl, hj, hmj, hm⟩ := hrel
  have HM := Lib.hid hm
  clear hm
  by_cases hlt : j < d.u.length
  ·obtain ⟨⟨f, x⟩, hs⟩ : ∃ x, d.u[j]? = some x := ⟨_, List.getElem?_eq_getElem hlt⟩
   obtain ⟨g, rfl, hg, ca, cb⟩ := HC.out j f x hs
   have HS := Lib.hid hs
   clear hs
   cases f
   all_goals cases q
   all_goals simp only [DS.fi, Bool.false_eq_true, if_true, if_false] at ca
   all_goals go_wp2
   all_goals go_round
   all_goals first
    | (simp [intOf]; omega)
    | exact ⟨j + 1, m + 1, by go_num, by go_num, by omega, by omega, by rw [DS.of_take_succ HS.out, if_pos rfl, List.length_append, ← HM.out]; rfl⟩
    | exact ⟨j + 1, m, by go_num, by go_num, by omega, by omega, by rw [DS.of_take_succ HS.out, if_neg (by decide), List.append_nil, ← HM.out]⟩
  ·obtain rfl : j = d.u.length := by omega
   have HX : Hid (m = (DS.of q d.u).length) := by rw [HM.out, List.take_length]; exact rfl
   go_wp2
   go_ret
   exact ⟨ret_int (by rw [HX.out]), rfl⟩

set_option maxHeartbeats 1000000 in
theorem rsize_any (b : Nat) (w : World) (d : DS) (us : Value) (f : Int) (h : RefU w b d us) (hok : d.Ok) :
  Calls Tryz.prog 89 #[.pointer (some ⟨b, 0, none⟩), .int .i64 f] w fun e w' => e = .returned (.int .i64 (d.sizeI f)) ∧ w = w' := by
 by_cases hf : f = 0 ∨ f = 1
 ·obtain ⟨q, rfl⟩ := DS.fi_of hf
  obtain ⟨c0, c1, c2, c3, c4, c5, cf, hlt⟩ := h.cells
  have H := Lib.hid h
  have hbl := d.base_len q hok
  have hq : (d.base q).length ≤ 1048576 := by omega
  have hq2 : (DS.of q d.u).length ≤ 1048576 := by omega
  have hcq : w.cell? ⟨b, q.toNat, none⟩ = some (.string ⟨(d.base q).toArray⟩) := by
   cases q
   ·exact c0
   ·exact c1
  have HX : Hid (d.sizeI (DS.fi q) = ((d.base q).length : Int) + ((DS.of q d.u).length : Int)) := DS.sizeI_of d q
  clear h c2 c3 c4 c5 hf
  cases q
  all_goals simp only [DS.fi, Bool.false_eq_true, if_true, if_false, Bool.toNat_true, Bool.toNat_false] at hcq HX ⊢
  ·clear c0
   have e0 : Hid (d.base false = d.a) := rfl
   go_enter Tryz.func89, Tryz.ntmps89
   go_wp2_with (first | (go_at_call 142; go_must (refine (unsafe_any b _ d us false H.out hok).mono ?_; rintro e w' ⟨rfl, rfl⟩)))
   go_ret
   exact ⟨ret_int (by rw [HX.out]), rfl⟩
  ·clear c1
   go_enter Tryz.func89, Tryz.ntmps89
   go_wp2_with (first | (go_at_call 142; go_must (refine (unsafe_any b _ d us true H.out hok).mono ?_; rintro e w' ⟨rfl, rfl⟩)))
   go_ret
   exact ⟨ret_int (by rw [HX.out]), rfl⟩
 ·have hf' : (f != 0) = true ∧ (f != 1) = true := by constructor <;> (rw [bne_iff_ne]; omega)
  have h2 : (f == 0) = false ∧ (f == 1) = false := by constructor <;> (rw [beq_eq_false_iff_ne]; omega)
  obtain ⟨h0, h1⟩ := hf'
  obtain ⟨h2, h3⟩ := h2
  have HX : Hid (d.sizeI f = -1) := by unfold DS.sizeI; rw [DS.fileNo_none hf]; exact rfl
  clear hf h
  go_enter Tryz.func89, Tryz.ntmps89
  go_wp2
  go_ret
  exact ⟨ret_int (by rw [HX.out]), rfl⟩

set_option maxHeartbeats 1000000 in
theorem rgoes_any (b : Nat) (w : World) (d : DS) (us : Value) (h : RefU w b d us) (hok : d.Ok) :
  Calls Tryz.prog 143 #[.pointer (some ⟨b, 0, none⟩)] w fun e w' => e = .returned (.bool d.goes) ∧ RefU w' b d.tick us ∧ Touch (· = b) w w' := by
 obtain ⟨c0, c1, c2, c3, c4, c5, cf, hlt⟩ := h.cells
 have H := Lib.hid h
 have ha := hok.armed
 clear h c0 c1 c2 c4 c5 hok
 by_cases h0 : d.armed = 0
 ·have HX := Lib.hid (DS.goes_zero h0)
  have hz : ¬ (0 : Int) < d.armed := by omega
  clear h0
  go_enter Tryz.func143, Tryz.ntmps143
  go_wp2
  go_ret
  exact ⟨ret_bool (by rw [HX.out.1]), by rw [HX.out.2]; exact H.out, Touch.refl _ _⟩
 ·have hp : 0 < d.armed := by omega
  have hz : (0 : Int) < d.armed := by omega
  have x3 := World.cell?_setCell_same w ⟨b, 3, none⟩ (.int .i64 ((d.armed : Int) - 1)) c3
  clear h0
  go_enter Tryz.func143, Tryz.ntmps143
  go_wp2
  go_ret
  refine ⟨ret_bool ?_, ⟨?_, ?_⟩, (Touch.refl _ _).setCell _ (fun _ => rfl)⟩
  ·exact DS.goes_pos hp
  ·rw [heap_set _ H.out.blk, refBlock, DS.tick_cast hp]; simp [DS.tick]
  ·exact own_touch H.out.own ((Touch.refl (· = b) w).setCell _ (fun _ => rfl)) (fun k hk => fun e => H.out.own_block (by rw [hk, e]))

set_option maxHeartbeats 1000000 in
theorem rrevive_any (b : Nat) (w : World) (d : DS) (ub : Option Nat) (h : RefAt w b d ub) :
  Calls Tryz.prog 81 #[.pointer (some ⟨b, 0, none⟩)] w fun e w' => e = .returned (.tuple #[]) ∧ RefAt w' b d.revive ub ∧ Touch (· = b) w w' := by
 obtain ⟨hok, us, h, rfl⟩ := h
 obtain ⟨c0, c1, c2, c3, c4, c5, cf, hlt⟩ := h.cells
 have H := Lib.hid h
 clear h c0 c1 c2 c4
 go_enter Tryz.func81, Tryz.ntmps81
 go_wp2
 go_end0
 have ht := ((Touch.refl (· = b) w).setCell (a := ⟨b, 5, none⟩) (.bool false) (fun _ => rfl)).setCell (a := ⟨b, 3, none⟩) (.int .i64 0) (fun _ => rfl)
 refine ⟨rfl, ⟨hok.revive, us, ⟨?_, ?_⟩, rfl⟩, ht⟩
 ·rw [heap_set _ (heap_set _ H.out.blk)]; simp [DS.revive, refBlock]
 ·exact own_touch H.out.own ht (fun k hk => fun e => H.out.own_block (by rw [hk, e]))

set_option maxHeartbeats 1000000 in
theorem rarm_any (b : Nat) (w : World) (d : DS) (ub : Option Nat) (n k : Int) (h : RefAt w b d ub) (hn : n ≤ 9223372036854775807) (hk : k ≤ 9223372036854775807) :
  Calls Tryz.prog 79 #[.pointer (some ⟨b, 0, none⟩), .int .i64 n, .int .i64 k] w fun e w' => e = .returned (.int .i64 (d.arm n k).2) ∧ RefAt w' b (d.arm n k).1 ub ∧ Touch (· = b) w w' := by
 have hok' := h.1.arm hn hk
 obtain ⟨hok, us, h, rfl⟩ := h
 obtain ⟨c0, c1, c2, c3, c4, c5, cf, hlt⟩ := h.cells
 have H := Lib.hid h
 clear h c0 c1 c2
 cases hd : d.dead
 ·rw [hd] at c5
  by_cases h0 : n < 0 ∨ k < 0
  ·have HX : Hid (d.arm n k = (d, 1)) := by unfold DS.arm; rw [if_neg (by simp [hd]), if_pos h0]; exact rfl
   clear hd
   go_enter Tryz.func79, Tryz.ntmps79
   rcases h0 with h0 | h0
   all_goals go_wp2
   all_goals go_ret
   all_goals exact ⟨ret_int (by rw [HX.out]), by rw [HX.out]; exact ⟨hok, us, H.out, rfl⟩, Touch.refl _ _⟩
  ·have HX : Hid (d.arm n k = ({ d with armed := n.toNat, keep := k.toNat }, 0)) := by unfold DS.arm; rw [if_neg (by simp [hd]), if_neg h0]; exact rfl
   have hn0 : 0 ≤ n := by omega
   have hk0 : 0 ≤ k := by omega
   clear hd h0
   go_enter Tryz.func79, Tryz.ntmps79
   go_wp2
   go_ret
   have ht := ((Touch.refl (· = b) w).setCell (a := ⟨b, 3, none⟩) (.int .i64 n) (fun _ => rfl)).setCell (a := ⟨b, 4, none⟩) (.int .i64 k) (fun _ => rfl)
   refine ⟨ret_int (by rw [HX.out]), ?_, ht⟩
   rw [HX.out] at hok' ⊢
   refine ⟨hok', us, ⟨?_, ?_⟩, rfl⟩
   ·rw [heap_set _ (heap_set _ H.out.blk)]; simp [refBlock, Int.toNat_of_nonneg hn0, Int.toNat_of_nonneg hk0]
   ·exact own_touch H.out.own ht (fun k hk => fun e => H.out.own_block (by rw [hk, e]))
 ·rw [hd] at c5
  have HX : Hid (d.arm n k = (d, 2)) := by unfold DS.arm; rw [if_pos hd]; exact rfl
  clear hd
  go_enter Tryz.func79, Tryz.ntmps79
  go_wp2
  go_ret
  exact ⟨ret_int (by rw [HX.out]), by rw [HX.out]; exact ⟨hok, us, H.out, rfl⟩, Touch.refl _ _⟩

set_option maxHeartbeats 1000000 in
theorem rcopy_any (b : Nat) (w : World) (d : DS) (ub : Option Nat) (h : RefAt w b d ub) :
  Calls Tryz.prog 13 #[.pointer (some ⟨b, 0, none⟩)] w fun e w' => ∃ c, e = .returned (.pointer (some ⟨c, 0, none⟩)) ∧ w.heap.size ≤ c ∧ RefAt w' c d ub ∧ Below w.heap.size w w' := by
 obtain ⟨hok, us, h, rfl⟩ := h
 obtain ⟨c0, c1, c2, c3, c4, c5, cf, hlt⟩ := h.cells
 have H := Lib.hid h
 rcases h.own.2 with ⟨rfl, h0⟩ | ⟨g, cap, cur, rfl, _⟩
 all_goals clear h
 all_goals go_enter Tryz.func13, Tryz.ntmps13
 all_goals go_wp2
 all_goals go_ret
 all_goals exact ⟨w.heap.size, rfl, Nat.le_refl _, ⟨hok, _, ⟨heap_new w _, own_touch H.out.own (Touch.of_below (S := fun _ => False) (balloc w _)) (fun _ _ h => h)⟩, rfl⟩, balloc w _⟩
end Go.Proofs.YtpjpknndfhablaaGreat
namespace Go.Proofs.YtpjpknndfhablaaGreat
open Go.RowKit

def OwnF (w : World) (base size : Nat) (v : Value) (n : Nat) (xs : List Value) : Prop :=
 xs.length = n * size ∧ ((v = .slice none 0 0 ∧ n = 0) ∨ ∃ g cap, v = .slice (some ⟨g, 0, none⟩) n cap ∧ base ≤ g ∧ g < w.heap.size ∧ n ≤ cap ∧ cap ≤ maxLen ∧
  (∀ j, j < cap * size → (w.cell? ⟨g, j, none⟩).isSome = true ∧ w.frozen? ⟨g, j, none⟩ = false) ∧ ∀ j u, xs[j]? = some u → w.cell? ⟨g, j, none⟩ = some u)

theorem OwnF.of_owns {w : World} {base e size : Nat} {v : Value} {n : Nat} {xs : List Value} (h : w.ownsRow base e size v n xs) : OwnF w base size v n xs := by
 refine ⟨h.1, ?_⟩
 rcases h.2 with h0 | ⟨g, cap, cur, rfl, hb, hg, hn, hc, hs, ht⟩
 ·exact .inl h0
 ·refine .inr ⟨g, cap, rfl, hb, heap_lt hg, hn, hc, fun j hj => ⟨?_, free_of hg j⟩, fun j u hu => ?_⟩
  ·rw [cell_of (i := j) hg (v := cur[j]'(by omega)) (by simp)]; rfl
  ·have := h.cells (g := g) rfl j u hu
   rwa [addr_add, Nat.zero_add] at this
theorem OwnF.lt {w : World} {base size : Nat} {v : Value} {n : Nat} {xs : List Value} (h : OwnF w base size v n xs) : ∀ k, v.ownBlock = some k → base ≤ k ∧ k < w.heap.size := by
 intro k hk
 rcases h.2 with ⟨rfl, _⟩ | ⟨g, cap, rfl, hb, hg, _⟩
 ·simp [Value.ownBlock] at hk
 ·simp [Value.ownBlock] at hk; subst hk; exact ⟨hb, hg⟩
theorem OwnF.touch {S : Nat → Prop} {w w' : World} {base size : Nat} {v : Value} {n : Nat} {xs : List Value} (h : OwnF w base size v n xs) (ht : Touch S w w') (hS : ∀ k, v.ownBlock = some k → ¬ S k) : OwnF w' base size v n xs := by
 refine ⟨h.1, ?_⟩
 rcases h.2 with h0 | ⟨g, cap, rfl, hb, hg, hn, hc, hcell, hx⟩
 ·exact .inl h0
 ·have hk := ht.block g hg (hS g rfl)
  refine .inr ⟨g, cap, rfl, hb, Nat.lt_of_lt_of_le hg ht.size, hn, hc, fun j hj => ?_, fun j u hu => ?_⟩
  ·rw [World.cell?_of_block (a := ⟨g, j, none⟩) hk, World.frozen?_of_block (a := ⟨g, j, none⟩) hk]; exact hcell j hj
  ·rw [World.cell?_of_block (a := ⟨g, j, none⟩) hk]; exact hx j u hu
theorem OwnF.slice {w : World} {base size : Nat} {v : Value} {n : Nat} {xs : List Value} (h : OwnF w base size v n xs) : ∃ ao cap, v = .slice ao n cap ∧ n ≤ cap ∧ cap ≤ 9223372036854775807 := by
 rcases h.2 with ⟨rfl, rfl⟩ | ⟨g, cap, rfl, _, _, hn, hc, _⟩
 ·exact ⟨none, 0, rfl, Nat.le_refl _, by omega⟩
 ·exact ⟨_, cap, rfl, hn, by unfold maxLen at hc; omega⟩

section
variable {P : Program} (w : World)
theorem grown_setCells (g : Nat) : ∀ (vs : List Value) (o : Nat) (w : World), w.grownBy (w.setCells g o vs) (some g)
 | [], o, w => ⟨rfl, rfl, rfl, Nat.le_refl _, fun _ _ _ => rfl⟩
 | v :: vs, o, w => by
  have h := grown_setCells g vs (o + 1) (w.setCell ⟨g, o, none⟩ v)
  have hs := h.size
  rw [World.size_setCell] at hs
  exact ⟨h.os, h.tape, h.output, hs, fun k hk hne => (h.block k (by rw [World.size_setCell]; exact hk) hne).trans (heap_set_ne v (fun e => hne (by rw [e])))⟩
theorem size_setCells (g o : Nat) (vs : List Value) : w.heap.size ≤ (w.setCells g o vs).heap.size := (grown_setCells g vs o w).size

theorem run_append_ownF (base : Nat) (t ty e : TypeId) (i : TypeInfo) (z : Value) (size bytes : Nat) (ht : P.underlying t = some (.slice e)) (hi : P.info? e = some i) (hz : i.zero = some z)
  (hsize : i.size = size) (hby : i.bytes = bytes) (hzs : z.cells.size = size) (hsz : 0 < size)
  (v : Value) (n : Nat) (xs : List Value) (hown : OwnF w base size v n xs)
  (a : Addr) (m c : Nat) (news : List Value) (hl : news.length = m * size) (hnews : ∀ j u, news[j]? = some u → w.cell? (a.add j) = some u) (h1 : ∀ u ∈ news, u.oneCell' = true)
  (_hm : 0 < m) (h63 : n + m ≤ maxLen) (hbytes : (n + m) * bytes ≤ 140737488355328) (hbase : base ≤ w.heap.size) :
  ∃ v' w', (Builtin.append_ #[t, t] ty #[v, .slice (some a) m c]).run P w = .ok v' w' ∧ OwnF w' base size v' (n + m) (xs ++ news) ∧ w.grownBy w' v.ownBlock ∧
   (v'.ownBlock = v.ownBlock ∨ v'.ownBlock = some w.heap.size) := by
 have h63' : ((n + m : Nat) : Int) ≤ 9223372036854775807 := by unfold maxLen at h63; omega
 rcases hown.2 with ⟨rfl, rfl⟩ | ⟨g, cap, rfl, hbg, hg, hnc, hcm, hcell, hx⟩
 ·have hx : xs = [] := List.eq_nil_of_length_eq_zero (by simpa using hown.1)
  subst hx
  obtain ⟨v', w', hr, ho, hgr, hb⟩ := run_append_own2 (P := P) w base t ty e i z size bytes ht hi hz hsize hby hzs hsz (.slice none 0 0) 0 [] (World.ownsRow_nil _ _ _ _) a m c news hl hnews h1 h63 hbytes hbase
  exact ⟨v', w', hr, OwnF.of_owns ho, hgr, hb⟩
 ·have hlen : (xs ++ news).length = (n + m) * size := by rw [List.length_append, hown.1, hl, Nat.add_mul]
  by_cases hroom : n + m ≤ cap
  ·have hfit : ∀ j, j < news.length → n * size + j < cap * size := fun j hj => by
    have : (n + m) * size ≤ cap * size := Nat.mul_le_mul_right _ hroom
    rw [Nat.add_mul] at this
    omega
   have hr := run_append_room_cells (P := P) w t ty e i ht hi g 0 n cap a m c news (by rw [hsize]; exact hl) hnews h1 hroom
    (fun j hj => by rw [hsize, Nat.zero_add]; exact (hcell _ (hfit j hj)).1) (fun j hj => by rw [hsize, Nat.zero_add]; exact (hcell _ (hfit j hj)).2)
   rw [hsize, Nat.zero_add] at hr
   refine ⟨_, _, hr, ⟨hlen, .inr ⟨g, cap, rfl, hbg, Nat.lt_of_lt_of_le hg (size_setCells w g _ _), hroom, hcm, fun j hj => ⟨?_, ?_⟩, fun j u hu => ?_⟩⟩, grown_setCells g _ _ w, .inl rfl⟩
   ·exact World.isSome_setCells g _ _ w _ (hcell j hj).1
   ·rw [World.frozen?_setCells]; exact (hcell j hj).2
   ·rcases Nat.lt_or_ge j xs.length with h | h
    ·rw [World.cell?_setCells_out g _ _ _ _ (fun _ _ => .inl (by rw [← hown.1]; exact h))]
     rw [List.getElem?_append_left h] at hu
     exact hx j u hu
    ·rw [List.getElem?_append_right h] at hu
     have hjl : j - xs.length < news.length := (List.getElem?_eq_some_iff.1 hu).1
     have := World.cell?_setCells_in g news (n * size) w (fun k hk => (hcell _ (hfit k hk)).1) (j - xs.length) hjl
     rw [← hown.1, show xs.length + (j - xs.length) = j by omega] at this
     rw [← hown.1, this]
     rw [List.getElem?_eq_getElem hjl] at hu
     exact hu
  ·have hr := run_append_grow (P := P) w t ty e i z ht hi hz ⟨g, 0, none⟩ n cap xs (by rw [hsize]; exact hown.1) (fun j u hu => by rw [addr_add, Nat.zero_add]; exact hx j u hu) a m c news (by rw [hsize]; exact hl) hnews (by omega) h63' (growslice_fits (by omega) (by rw [hby]; exact hbytes))
   have hge := grownCap_ge w (n + m) cap e
   have hcm' : grownCap w (n + m) cap e ≤ maxLen := grownCap_le_maxLen w (n + m) cap e h63
   have hnew := heap_new w.drew (.cells (xs.toArray ++ news.toArray ++ Builtin.zeroCells z.cells (grownCap w (n + m) cap e - (n + m))) e)
   have ho : (w.drew.alloc (.cells (xs.toArray ++ news.toArray ++ Builtin.zeroCells z.cells (grownCap w (n + m) cap e - (n + m))) e)).ownsRow base e size (.slice (some ⟨w.heap.size, 0, none⟩) (n + m) (grownCap w (n + m) cap e)) (n + m) (xs ++ news) := by
    refine ⟨hlen, .inr ⟨w.heap.size, _, _, rfl, hbase, hnew, hge, hcm', ?_, ?_⟩⟩
    ·simp only [Array.size_append, List.size_toArray, size_zeroCells, hzs, hown.1, hl, ← Nat.add_mul]
     congr 1
     omega
    ·simp only [Array.toList_append, List.append_assoc]
     rw [← List.append_assoc, ← hlen]
     exact List.take_left
   exact ⟨_, _, hr, OwnF.of_owns ho, ⟨rfl, rfl, rfl, by simp, fun k hk _ => heap_alloc (w := w.drew) _ hk⟩, .inr rfl⟩

theorem wpList_append_ownF {ops : Array Oper} {rest : List Oper} {o : Oper} {a : Act} {Q : Exit → Act → World → Prop} (hgd : o.guard = none) (s x : Operand) (t : TypeId)
  (ho : o.op = .call { callee := .builtin .append, args := #[s, x], argTypes := #[t, t] })
  (base : Nat) (e : TypeId) (size bytes : Nat) (z : Value) (hinfo : (P.info? e).map (fun i => (i.zero, i.size, i.bytes)) = some (some z, size, bytes)) (ht : P.underlying t = some (.slice e)) (hzs : z.cells.size = size) (hsz : 0 < size)
  (v : Value) (n : Nat) (xs : List Value) (hs : a.eval s = v) (hown : OwnF w base size v n xs)
  (ad : Addr) (m c : Nat) (news : List Value) (hx : a.eval x = .slice (some ad) m c) (hl : news.length = m * size) (hnews : ∀ j u, news[j]? = some u → w.cell? (ad.add j) = some u) (h1 : ∀ u ∈ news, u.oneCell' = true)
  (hm : 0 < m) (h63 : n + m ≤ maxLen) (hbytes : (n + m) * bytes ≤ 140737488355328) (hbase : base ≤ w.heap.size)
  (h : ∀ v' w', OwnF w' base size v' (n + m) (xs ++ news) → w.grownBy w' v.ownBlock → (v'.ownBlock = v.ownBlock ∨ v'.ownBlock = some w.heap.size) → wpList P ops Q rest (a.put o.dst v') w') : wpList P ops Q (o :: rest) a w := by
 refine wpList_plain hgd fun K hK => ?_
 obtain ⟨i, hi, hz, hsize, hby⟩ := info_parts hinfo
 obtain ⟨v', w', hr, h2, h3, h4⟩ := run_append_ownF (P := P) w base t o.type e i z size bytes ht hi hz hsize hby hzs hsz v n xs hown ad m c news hl hnews h1 hm h63 hbytes hbase
 unfold Oper.wp execOp
 simp only [ho, resolve, invoke, builtin, Sem.run_bind, Sem.run_pure, Result.andThen_ok, List.map_toArray, List.map_cons, List.map_nil, hs, hx, hr]
 exact hK _ _ (h v' w' h2 h3 h4)

/-- The bytes of a text, as cells. -/
def bytesOf (l : List UInt8) : List Value := l.map fun x => .int .u8 x.toNat
theorem bytesOf_length (l : List UInt8) : (bytesOf l).length = l.length * 1 := by simp [bytesOf]
theorem bytesOf_append (l m : List UInt8) : bytesOf (l ++ m) = bytesOf l ++ bytesOf m := by simp [bytesOf]
theorem strOfNums_bytes (l : List UInt8) : strOfNums (l.map fun x => (x.toNat : Int)) = ⟨l.toArray⟩ := by
 apply ByteArray.ext
 simp [strOfNums, Function.comp_def]
/-- string(b) of an owned row of bytes. -/
theorem run_string_of_ownF {src e : TypeId} (hs : P.underlying src = some (.slice e)) (he : P.underlying e = some (.int .u8)) {base : Nat} {v : Value} {l : List UInt8} (h : OwnF w base 1 v l.length (bytesOf l)) :
  ∀ dst, P.underlying dst = some .string → (convert src dst v).run P w = .ok (.string ⟨l.toArray⟩) w := by
 intro dst hd
 rcases h.2 with ⟨rfl, h0⟩ | ⟨g, cap, rfl, _, _, _, _, _, hx⟩
 ·have : l = [] := List.eq_nil_of_length_eq_zero h0
  subst this
  exact run_convert_bytes_nil w src e hs he 0 0 dst hd
 ·rw [← strOfNums_bytes]
  refine run_convert_bytes_arg w src e hs he g 0 l.length cap _ (by simp) (fun i hi => ?_) dst hd
  have := hx i (.int .u8 (l[i].toNat)) (by simp [bytesOf, hi])
  rw [Nat.zero_add, this]; simp [hi]
/-- What []byte(s) lays. -/
theorem ownF_bytes (base : Nat) (e : TypeId) (l : List UInt8) (hb : base ≤ w.heap.size) (hl : l.length ≤ maxLen) :
  OwnF (w.drew.alloc (.cells (bytesRow ⟨l.toArray⟩ (grownCap w l.length 0 e)) e ((bytesRow ⟨l.toArray⟩ (grownCap w l.length 0 e)).size, (bytesRow ⟨l.toArray⟩ (grownCap w l.length 0 e)).size + 1))) base 1 (.slice (some ⟨w.heap.size, 0, none⟩) l.length (grownCap w l.length 0 e)) l.length (bytesOf l) := by
 have hnew := heap_new w.drew (.cells (bytesRow ⟨l.toArray⟩ (grownCap w l.length 0 e)) e ((bytesRow ⟨l.toArray⟩ (grownCap w l.length 0 e)).size, (bytesRow ⟨l.toArray⟩ (grownCap w l.length 0 e)).size + 1))
 have hge := grownCap_ge w l.length 0 e
 have hcm := grownCap_le_maxLen w l.length 0 e hl
 generalize grownCap w l.length 0 e = cap at hnew hge hcm ⊢
 rw [World.size_drew] at hnew
 have hsz : (bytesRow ⟨l.toArray⟩ cap).size = cap := by simp [bytesRow, ByteArray.size]; omega
 rw [hsz] at hnew ⊢
 refine ⟨bytesOf_length l, .inr ⟨w.heap.size, cap, rfl, hb, by simp, hge, hcm, fun j hj => ⟨?_, ?_⟩, fun j u hu => ?_⟩⟩
 ·rw [cell_of (w := w.drew.alloc _) (i := j) hnew (v := (bytesRow ⟨l.toArray⟩ cap)[j]'(by omega)) (by simp)]; rfl
 ·have hnew' : (w.drew.alloc (.cells (bytesRow ⟨l.toArray⟩ cap) e (cap, cap + 1))).heap[w.heap.size]? = some (.cells (bytesRow ⟨l.toArray⟩ cap) e (cap, cap + 1)) := hnew
  simp only [World.frozen?, hnew']
  simp; omega
 ·refine cell_of (w := w.drew.alloc _) hnew ?_
  have hjl : j < l.length := by have := (List.getElem?_eq_some_iff.1 hu).1; simpa [bytesOf] using this
  rw [bytesRow_at ⟨l.toArray⟩ cap j (by simpa using hjl)]
  simp [bytesOf, hjl] at hu ⊢
  exact hu

theorem wp_convert_bytes {o : Oper} {a : Act} {K : Act → World → Prop} {Q : Exit → Act → World → Prop} (src dst e : TypeId) (x : Operand) (ho : o.op = .convert src dst x)
  (hs : P.underlying src = some .string) (hd : P.underlying dst = some (.slice e)) (he : P.underlying e = some (.int .u8)) (l : List UInt8) (hx : a.eval x = .string ⟨l.toArray⟩) (hl : l.length ≤ maxLen)
  (base : Nat) (hb : base ≤ w.heap.size)
  (h : ∀ v' w', OwnF w' base 1 v' l.length (bytesOf l) → Below w.heap.size w w' → v'.ownBlock = some w.heap.size → K (a.put o.dst v') w') : o.wp P a w K Q := by
 have hr := run_bytes_of_string (P := P) w src dst e ⟨l.toArray⟩ hs hd he
 unfold Oper.wp execOp
 simp only [ho, hx, Sem.run_bind, Sem.run_pure, hr, Result.andThen_ok]
 exact h _ _ (ownF_bytes w base e l hb hl) (bthen ((Below.refl _ w).drew) (balloc w.drew _)) rfl

theorem wp_convert_string {o : Oper} {a : Act} {K : Act → World → Prop} {Q : Exit → Act → World → Prop} (src dst e : TypeId) (x : Operand) (ho : o.op = .convert src dst x)
  (hs : P.underlying src = some (.slice e)) (he : P.underlying e = some (.int .u8)) (hd : P.underlying dst = some .string) {base : Nat} {v : Value} {l : List UInt8} (hx : a.eval x = v) (hv : OwnF w base 1 v l.length (bytesOf l))
  (h : K (a.put o.dst (.string ⟨l.toArray⟩)) w) : o.wp P a w K Q := by
 have hr := run_string_of_ownF (P := P) w hs he hv dst hd
 unfold Oper.wp execOp
 simp only [ho, hx, Sem.run_bind, Sem.run_pure, hr, Result.andThen_ok]
 exact h

theorem wpList_convert_string {ops : Array Oper} {rest : List Oper} {o : Oper} {a : Act} {Q : Exit → Act → World → Prop} (hgd : o.guard = none) (src dst e : TypeId) (x : Operand) (ho : o.op = .convert src dst x)
  (hs : P.underlying src = some (.slice e)) (he : P.underlying e = some (.int .u8)) (hd : P.underlying dst = some .string) {base : Nat} {v : Value} {l : List UInt8} (hx : a.eval x = v) (hv : OwnF w base 1 v l.length (bytesOf l))
  (h : wpList P ops Q rest (a.put o.dst (.string ⟨l.toArray⟩)) w) : wpList P ops Q (o :: rest) a w :=
 wpList_plain hgd fun _ hK => wp_convert_string w src dst e x ho hs he hd hx hv (hK _ _ h)
theorem wpList_convert_bytes {ops : Array Oper} {rest : List Oper} {o : Oper} {a : Act} {Q : Exit → Act → World → Prop} (hgd : o.guard = none) (src dst e : TypeId) (x : Operand) (ho : o.op = .convert src dst x)
  (hs : P.underlying src = some .string) (hd : P.underlying dst = some (.slice e)) (he : P.underlying e = some (.int .u8)) (l : List UInt8) (hx : a.eval x = .string ⟨l.toArray⟩) (hl : l.length ≤ maxLen)
  (base : Nat) (hb : base ≤ w.heap.size)
  (h : ∀ v' w', OwnF w' base 1 v' l.length (bytesOf l) → Below w.heap.size w w' → v'.ownBlock = some w.heap.size → wpList P ops Q rest (a.put o.dst v') w') : wpList P ops Q (o :: rest) a w :=
 wpList_plain hgd fun _ hK => wp_convert_bytes w src dst e x ho hs hd he l hx hl base hb (fun v' w' a b c => hK _ _ (h v' w' a b c))
end
end Go.Proofs.YtpjpknndfhablaaGreat
namespace Go.Proofs.YtpjpknndfhablaaGreat
open Go.RowKit

theorem Tryz.byteInfo : (Tryz.prog.info? 5).map (fun i => (i.zero, i.size, i.bytes)) = some (some (.int .u8 0), 1, 1) := by kernel_rfl

/-- What the loop of After knows of both rows. -/
structure Rows2 (w wr : World) (d : DS) (k : Int) (j : Nat) (va vb : Value) : Prop where
 a : OwnF wr w.heap.size 1 va (d.base false ++ DS.of false (d.u.take j)).length (bytesOf (d.base false ++ DS.of false (d.u.take j)))
 b : OwnF wr w.heap.size 1 vb (d.base true ++ DS.of true (d.u.take j)).length (bytesOf (d.base true ++ DS.of true (d.u.take j)))
 apart : ∀ g, va.ownBlock = some g → vb.ownBlock ≠ some g
 below : Below w.heap.size w wr

theorem Rows2.len {w wr : World} {d : DS} {k : Int} {j : Nat} {va vb : Value} (_ : Rows2 w wr d k j va vb) (hok : d.Ok) (f : Bool) : (d.base f ++ DS.of f (d.u.take j)).length ≤ 1048576 := by
 have h1 := d.base_len f hok
 have h2 := DS.of_take_length_le f d.u j
 rw [List.length_append]; omega
theorem Rows2.same_b {w wr : World} {d : DS} {k : Int} {j : Nat} {va vb : Value} (h : Rows2 w wr d k j va vb) {x : UInt8} (hu : d.u[j]? = some (false, x)) {w0 w1 : World} {v' : Value} (h0 : Below wr.heap.size wr w0)
  (ho : OwnF w1 w.heap.size 1 v' ((d.base false ++ DS.of false (d.u.take j)).length + 1) (bytesOf (d.base false ++ DS.of false (d.u.take j)) ++ [.int .u8 x.toNat]))
  (hg : w0.grownBy w1 va.ownBlock) (hb : v'.ownBlock = va.ownBlock ∨ v'.ownBlock = some w0.heap.size) : Rows2 w w1 d k (j + 1) v' vb := by
 have e1 : d.base false ++ DS.of false (d.u.take (j + 1)) = (d.base false ++ DS.of false (d.u.take j)) ++ [x] := by rw [DS.of_take_succ hu]; simp
 have e2 : d.base true ++ DS.of true (d.u.take (j + 1)) = d.base true ++ DS.of true (d.u.take j) := by rw [DS.of_take_succ hu]; simp
 have ht := Touch.trans (Touch.of_below (S := fun k => va.ownBlock = some k) h0) (touch_of_grown hg) (fun _ _ h => h)
 refine ⟨?_, ?_, ?_, ?_⟩
 ·rw [e1, bytesOf_append, List.length_append]; exact ho
 ·rw [e2]; exact h.b.touch ht (fun k hk hk' => h.apart k hk' hk)
 ·intro g e e'
  rcases hb with hb | hb
  ·exact h.apart g (hb.symm.trans e) e'
  ·have := (h.b.lt g e').2
   have h3 := Option.some.inj (hb.symm.trans e)
   have := h0.size; omega
 ·exact (Touch.trans (Touch.of_below (S := fun k => va.ownBlock = some k) h.below) ht (fun _ _ h => h)).below (Nat.le_refl _) (fun k hk hs => by have := (h.a.lt k hs).1; omega)
theorem Rows2.same_a {w wr : World} {d : DS} {k : Int} {j : Nat} {va vb : Value} (h : Rows2 w wr d k j va vb) {x : UInt8} (hu : d.u[j]? = some (true, x)) {w0 w1 : World} {v' : Value} (h0 : Below wr.heap.size wr w0)
  (ho : OwnF w1 w.heap.size 1 v' ((d.base true ++ DS.of true (d.u.take j)).length + 1) (bytesOf (d.base true ++ DS.of true (d.u.take j)) ++ [.int .u8 x.toNat]))
  (hg : w0.grownBy w1 vb.ownBlock) (hb : v'.ownBlock = vb.ownBlock ∨ v'.ownBlock = some w0.heap.size) : Rows2 w w1 d k (j + 1) va v' := by
 have e1 : d.base true ++ DS.of true (d.u.take (j + 1)) = (d.base true ++ DS.of true (d.u.take j)) ++ [x] := by rw [DS.of_take_succ hu]; simp
 have e2 : d.base false ++ DS.of false (d.u.take (j + 1)) = d.base false ++ DS.of false (d.u.take j) := by rw [DS.of_take_succ hu]; simp
 have ht := Touch.trans (Touch.of_below (S := fun k => vb.ownBlock = some k) h0) (touch_of_grown hg) (fun _ _ h => h)
 refine ⟨?_, ?_, ?_, ?_⟩
 ·rw [e2]; exact h.a.touch ht (fun k hk hk' => h.apart k hk hk')
 ·rw [e1, bytesOf_append, List.length_append]; exact ho
 ·intro g e e'
  rcases hb with hb | hb
  ·exact h.apart g e (hb.symm.trans e')
  ·have := (h.a.lt g e).2
   have h3 := Option.some.inj (hb.symm.trans e')
   have := h0.size; omega
 ·exact (Touch.trans (Touch.of_below (S := fun k => vb.ownBlock = some k) h.below) ht (fun _ _ h => h)).below (Nat.le_refl _) (fun k hk hs => by have := (h.b.lt k hs).1; omega)
theorem take_end {α : Type} {u : List α} {k : Int} {j : Nat} (hj : j ≤ u.length) (hjk : 0 < j → (j : Int) ≤ k) (he : j = u.length ∨ k ≤ j) : u.take j = u.take k.toNat := by
 rcases he with rfl | he
 ·rw [List.take_length]
  rcases Nat.eq_zero_or_pos u.length with h | h
  ·have : u = [] := List.eq_nil_of_length_eq_zero h
   subst this; simp
  ·rw [List.take_of_length_le (by have := hjk h; omega)]
 ·rcases Nat.eq_zero_or_pos j with rfl | h
  ·rw [show k.toNat = 0 by omega]
  ·have := hjk h
   rw [show k.toNat = j by omega]

set_option maxHeartbeats 2000000 in
set_option maxRecDepth 100000 in
theorem rafter_any (b : Nat) (w : World) (d : DS) (us : Value) (k : Int) (h : RefU w b d us) (hok : d.Ok) (h1 : k ≤ 9223372036854775807) :
  Calls Tryz.prog 58 #[.pointer (some ⟨b, 0, none⟩), .int .i64 k] w fun e w' => ∃ g, e = .returned (.slice (some ⟨g, 0, none⟩) 2 2) ∧ w.heap.size ≤ g ∧ Two w' g (d.left k.toNat false) (d.left k.toNat true) ∧ Below w.heap.size w w' := by
 obtain ⟨c0, c1, c2, c3, c4, c5, cf, hlt⟩ := h.cells
 obtain ⟨ao, cap, rfl, hr, hcell⟩ := h.slice
 have HC := Lib.hid hcell
 have hul := hok.u_len
 clear hcell h c3 c4 c5 cf
 go_enter Tryz.func58, Tryz.ntmps58
 go_wp2
 have hS0 : w.drew.cell? ⟨b, 0, none⟩ = some (.string ⟨d.a.toArray⟩) ∧ w.drew.cell? ⟨b, 1, none⟩ = some (.string ⟨d.b.toArray⟩) := ⟨c0, c1⟩
 refine wp_region_heldL (S := fun w' => w'.cell? ⟨b, 0, none⟩ = some (.string ⟨d.a.toArray⟩) ∧ w'.cell? ⟨b, 1, none⟩ = some (.string ⟨d.b.toArray⟩)) (by kernel_rfl) ?_
 refine wpAnyH_takeL (i := 0) (v := ?_) rfl (by kernel_rfl) (by kernel_rfl) (by kernel_rfl) (fun _ _ _ h => h) ?_ (by assumption) ?_; rotate_left; focus (first | (refine Or.inr ⟨by rfl, ?_⟩; with_reducible rfl) | (refine Or.inl ⟨by rfl, ?_⟩; (intro w hSw; (try dsimp only at hSw); go_simp); try with_reducible rfl))
 simp only [Act.put, List.setIfInBounds_toArray, List.set_cons_zero, List.set_cons_succ]
 refine wpAnyH_takeL (i := 1) (v := ?_) rfl (by kernel_rfl) (by kernel_rfl) (by kernel_rfl) (fun _ _ _ h => h) ?_ (by assumption) ?_; rotate_left; focus (first | (refine Or.inr ⟨by rfl, ?_⟩; with_reducible rfl) | (refine Or.inl ⟨by rfl, ?_⟩; (intro w hSw; (try dsimp only at hSw); go_simp); try with_reducible rfl))
 simp only [Act.put, List.setIfInBounds_toArray, List.set_cons_zero, List.set_cons_succ]
 refine wpAnyH_takeL (i := 2) (v := ?_) rfl (by kernel_rfl) (by kernel_rfl) (by kernel_rfl) (fun _ _ _ h => h) ?_ (by assumption) ?_; rotate_left; focus (first | (refine Or.inr ⟨by rfl, ?_⟩; with_reducible rfl) | (refine Or.inl ⟨by rfl, ?_⟩; (intro w hSw; (try dsimp only at hSw); go_simp); try with_reducible rfl))
 simp only [Act.put, List.setIfInBounds_toArray, List.set_cons_zero, List.set_cons_succ]
 refine wpAnyH_takeL (i := 3) (v := ?_) rfl (by kernel_rfl) (by kernel_rfl) (by kernel_rfl) (fun _ _ _ h => h) ?_ (by assumption) ?_; rotate_left; focus (first | (refine Or.inr ⟨by rfl, ?_⟩; with_reducible rfl) | (refine Or.inl ⟨by rfl, ?_⟩; (intro w hSw; (try dsimp only at hSw); go_simp); try with_reducible rfl))
 simp only [Act.put, List.setIfInBounds_toArray, List.set_cons_zero, List.set_cons_succ]
 refine wpAnyH_takeL (i := 5) (v := ?_) rfl (by kernel_rfl) (by kernel_rfl) (by kernel_rfl) (fun _ _ _ h => h) ?_ (by assumption) ?_; rotate_left; focus (first | (refine Or.inr ⟨by rfl, ?_⟩; with_reducible rfl) | (refine Or.inl ⟨by rfl, ?_⟩; (intro w hSw; (try dsimp only at hSw); go_simp); try with_reducible rfl))
 simp only [Act.put, List.setIfInBounds_toArray, List.set_cons_zero, List.set_cons_succ]
 refine wpAnyH_takeL (i := 6) (v := ?_) rfl (by kernel_rfl) (by kernel_rfl) (by kernel_rfl) (fun _ _ _ h => h) ?_ (by assumption) ?_; rotate_left; focus (first | (refine Or.inr ⟨by rfl, ?_⟩; with_reducible rfl) | (refine Or.inl ⟨by rfl, ?_⟩; (intro w hSw; (try dsimp only at hSw); go_simp); try with_reducible rfl))
 simp only [Act.put, List.setIfInBounds_toArray, List.set_cons_zero, List.set_cons_succ]
 refine wpAnyH_takeL (i := 7) (v := ?_) rfl (by kernel_rfl) (by kernel_rfl) (by kernel_rfl) (fun _ _ _ h => h) ?_ (by assumption) ?_; rotate_left; focus (first | (refine Or.inr ⟨by rfl, ?_⟩; with_reducible rfl) | (refine Or.inl ⟨by rfl, ?_⟩; (intro w hSw; (try dsimp only at hSw); go_simp); try with_reducible rfl))
 simp only [Act.put, List.setIfInBounds_toArray, List.set_cons_zero, List.set_cons_succ]
 refine wpAnyH_takeL (i := 8) (v := ?_) rfl (by kernel_rfl) (by kernel_rfl) (by kernel_rfl) (fun _ _ _ h => h) ?_ (by assumption) ?_; rotate_left; focus (first | (refine Or.inr ⟨by rfl, ?_⟩; with_reducible rfl) | (refine Or.inl ⟨by rfl, ?_⟩; (intro w hSw; (try dsimp only at hSw); go_simp); try with_reducible rfl))
 simp only [Act.put, List.setIfInBounds_toArray, List.set_cons_zero, List.set_cons_succ]
 refine wpAnyH_all (rs := [4, 9]) (by kernel_rfl) (by simp) (fun i hi => ?_)
 have hi' : i = 4 ∨ i = 9 := by simpa using hi
 clear hi
 have BA : d.a.length ≤ 1048576 := by have := d.base_len false hok; have h : (d.base false) = d.a := rfl; rw [h] at this; omega
 have BB : d.b.length ≤ 1048576 := by have := d.base_len true hok; have h : (d.base true) = d.b := rfl; rw [h] at this; omega
 rcases hi' with rfl | rfl
 focus
  refine wpOp_stepL rfl (fun K hK => ?_)
  rw [if_pos (by rfl)]
  refine wp_convert_bytes _ 9 175 5 (.tmp 11) rfl Tryz.underlying9 Tryz.underlying175 Tryz.underlying5 d.a rfl (by unfold maxLen; omega) w.heap.size (Nat.le_refl _) ?_
  intro va w1 h1 hb1 hk1
  have hbw := bthen (Below.refl _ w).drew hb1
  have hS1 : w1.cell? ⟨b, 0, none⟩ = some (.string ⟨d.a.toArray⟩) ∧ w1.cell? ⟨b, 1, none⟩ = some (.string ⟨d.b.toArray⟩) := ⟨cell_later hbw c0, cell_later hbw c1⟩
  refine hK _ _ ⟨hS1, ?_⟩
  clear hK K
  simp only [Act.put, List.setIfInBounds_toArray, List.set_cons_zero, List.set_cons_succ]
  refine wpAnyH_takeL (i := 10) (v := ?_) rfl (by kernel_rfl) (by kernel_rfl) (by kernel_rfl) (fun _ _ _ h => h) ?_ (by assumption) ?_; rotate_left; focus (first | (refine Or.inr ⟨by rfl, ?_⟩; with_reducible rfl) | (refine Or.inl ⟨by rfl, ?_⟩; (intro w hSw; (try dsimp only at hSw); go_simp); try with_reducible rfl))
  simp only [Act.put, List.setIfInBounds_toArray, List.set_cons_zero, List.set_cons_succ]
  refine wpAnyH_oneL (i := 9) rfl (by kernel_rfl) ?_
  intro K hK
  rw [if_pos (by rfl)]
  refine wp_convert_bytes _ 9 175 5 (.tmp 16) rfl Tryz.underlying9 Tryz.underlying175 Tryz.underlying5 d.b rfl (by unfold maxLen; omega) w.heap.size hbw.size ?_
  intro vb W h2 hb2 hk2
  have hbw2 := bthen hbw hb2
  have hS2 : W.cell? ⟨b, 0, none⟩ = some (.string ⟨d.a.toArray⟩) ∧ W.cell? ⟨b, 1, none⟩ = some (.string ⟨d.b.toArray⟩) := ⟨cell_later hbw2 c0, cell_later hbw2 c1⟩
  refine hK _ _ hS2 ?_
  clear hK K
  simp only [Act.put, List.setIfInBounds_toArray, List.set_cons_zero, List.set_cons_succ]
  have h1' := h1.touch (S := fun _ => False) (.of_below hb2) (fun _ _ h => h)
  obtain ⟨ova, cva, rfl, _, _⟩ := h1.slice
  obtain ⟨ovb, cvb, rfl, _, _⟩ := h2.slice
  refine wpAnyH_takeL (i := 11) (v := ?_) rfl (by kernel_rfl) (by kernel_rfl) (by kernel_rfl) (fun _ _ _ h => h) ?_ (by assumption) ?_; rotate_left; focus (first | (refine Or.inr ⟨by rfl, ?_⟩; with_reducible rfl) | (refine Or.inl ⟨by rfl, ?_⟩; (intro w hSw; (try dsimp only at hSw); go_simp); try with_reducible rfl))
  simp only [Act.put, List.setIfInBounds_toArray, List.set_cons_zero, List.set_cons_succ]
  refine wpAnyH_done (by kernel_rfl) ?_ _
  have HR2 : Hid (Rows2 w W d k 0 (.slice ova d.a.length cva) (.slice ovb d.b.length cvb)) := ⟨by simpa [DS.base, DS.of] using h1', by simpa [DS.base, DS.of] using h2, fun g e e' => by
   have h3 := (h1.lt _ hk1).2
   have h4 := Option.some.inj (hk1.symm.trans e)
   have h5 := Option.some.inj (hk2.symm.trans e')
   omega, hbw2⟩
  clear hS1 hS2 h1 h2 h1' hb1 hb2 hk1 hk2 hbw
  have HBW := Lib.hid hbw2
  clear hbw2
 rotate_left
 focus
  refine wpOp_stepL rfl (fun K hK => ?_)
  rw [if_pos (by rfl)]
  refine wp_convert_bytes _ 9 175 5 (.tmp 16) rfl Tryz.underlying9 Tryz.underlying175 Tryz.underlying5 d.b rfl (by unfold maxLen; omega) w.heap.size (Nat.le_refl _) ?_
  intro vb w1 h1 hb1 hk1
  have hbw := bthen (Below.refl _ w).drew hb1
  have hS1 : w1.cell? ⟨b, 0, none⟩ = some (.string ⟨d.a.toArray⟩) ∧ w1.cell? ⟨b, 1, none⟩ = some (.string ⟨d.b.toArray⟩) := ⟨cell_later hbw c0, cell_later hbw c1⟩
  refine hK _ _ ⟨hS1, ?_⟩
  clear hK K
  refine wpAnyH_oneL (i := 4) rfl (by kernel_rfl) ?_
  intro K hK
  rw [if_pos (by rfl)]
  refine wp_convert_bytes _ 9 175 5 (.tmp 11) rfl Tryz.underlying9 Tryz.underlying175 Tryz.underlying5 d.a rfl (by unfold maxLen; omega) w.heap.size hbw.size ?_
  intro va W h2 hb2 hk2
  have hbw2 := bthen hbw hb2
  have hS2 : W.cell? ⟨b, 0, none⟩ = some (.string ⟨d.a.toArray⟩) ∧ W.cell? ⟨b, 1, none⟩ = some (.string ⟨d.b.toArray⟩) := ⟨cell_later hbw2 c0, cell_later hbw2 c1⟩
  refine hK _ _ hS2 ?_
  clear hK K
  simp only [Act.put, List.setIfInBounds_toArray, List.set_cons_zero, List.set_cons_succ]
  have h1' := h1.touch (S := fun _ => False) (.of_below hb2) (fun _ _ h => h)
  obtain ⟨ovb, cvb, rfl, _, _⟩ := h1.slice
  obtain ⟨ova, cva, rfl, _, _⟩ := h2.slice
  refine wpAnyH_takeL (i := 10) (v := ?_) rfl (by kernel_rfl) (by kernel_rfl) (by kernel_rfl) (fun _ _ _ h => h) ?_ (by assumption) ?_; rotate_left; focus (first | (refine Or.inr ⟨by rfl, ?_⟩; with_reducible rfl) | (refine Or.inl ⟨by rfl, ?_⟩; (intro w hSw; (try dsimp only at hSw); go_simp); try with_reducible rfl))
  simp only [Act.put, List.setIfInBounds_toArray, List.set_cons_zero, List.set_cons_succ]
  refine wpAnyH_takeL (i := 11) (v := ?_) rfl (by kernel_rfl) (by kernel_rfl) (by kernel_rfl) (fun _ _ _ h => h) ?_ (by assumption) ?_; rotate_left; focus (first | (refine Or.inr ⟨by rfl, ?_⟩; with_reducible rfl) | (refine Or.inl ⟨by rfl, ?_⟩; (intro w hSw; (try dsimp only at hSw); go_simp); try with_reducible rfl))
  simp only [Act.put, List.setIfInBounds_toArray, List.set_cons_zero, List.set_cons_succ]
  refine wpAnyH_done (by kernel_rfl) ?_ _
  have HR2 : Hid (Rows2 w W d k 0 (.slice ova d.a.length cva) (.slice ovb d.b.length cvb)) := ⟨by simpa [DS.base, DS.of] using h2, by simpa [DS.base, DS.of] using h1', fun g e e' => by
   have h3 := (h1.lt _ hk1).2
   have h4 := Option.some.inj (hk1.symm.trans e')
   have h5 := Option.some.inj (hk2.symm.trans e)
   omega, hbw2⟩
  clear hS1 hS2 h1 h2 h1' hb1 hb2 hk1 hk2 hbw
  have HBW := Lib.hid hbw2
  clear hbw2
 all_goals
  go_wp2
  go_loopw [5, 6, 7] (fun va vb i wr => ∃ j : Nat, i = .int .i64 j ∧ j ≤ d.u.length ∧ (0 < j → (j : Int) ≤ k) ∧ Rows2 w wr d k j va vb) (fun _ _ i _ => d.u.length - (intOf i).toNat)
  case atStart => exact ⟨0, rfl, by omega, by omega, HR2.out⟩
  case round =>
   obtain ⟨j, rfl, hj, hjk, hrows⟩ := hrel
   have la := hrows.len hok false
   have lb := hrows.len hok true
   have HR := Lib.hid hrows
   have hsz := hrows.below.size
   have c2' := cell_later hrows.below c2
   clear hrows
   by_cases hc : j < d.u.length ∧ (j : Int) < k
   ·obtain ⟨hlt, hlk⟩ := hc
    obtain ⟨⟨f, x⟩, hs⟩ : ∃ x, d.u[j]? = some x := ⟨_, List.getElem?_eq_getElem hlt⟩
    obtain ⟨g, rfl, hg, ca, cb⟩ := HC.out j f x hs
    have HS := Lib.hid hs
    have ca' := cell_later HR.out.below ca
    have cb' := cell_later HR.out.below cb
    have hg' : g < wr.heap.size := Nat.lt_of_lt_of_le hg hsz
    clear hs ca cb
    cases f
    all_goals simp only [DS.fi, Bool.false_eq_true, if_true, if_false] at ca'
    ·go_wp2_with (first | (at_builtin; go_must (refine wpList_append_ownF _ rfl (.tmp 41) (.tmp 50) 175 rfl w.heap.size 5 1 1 _ Tryz.byteInfo Tryz.underlying175 rfl (by decide) _ _ _ rfl (HR.out.a.touch (S := fun _ => False) (.of_below (balloc wr _)) (fun _ _ h => h)) ⟨wr.heap.size, 0, none⟩ 1 1 [.int .u8 x.toNat] rfl rfl (fun i u hi => by rw [addr_add, Nat.zero_add]; exact cell_of (heap_new wr _) (by simpa using hi)) (by intro u hu; simp at hu; subst hu; rfl) (by decide) (by unfold maxLen; omega) (by omega) (by simp; omega) ?_; intro v' w1 ho hgr hb; have HS' := Lib.hid (HR.out.same_b HS.out (balloc wr _) ho hgr hb); clear ho hgr hb)))
     go_roundw
     case rel => exact ⟨j + 1, by go_num, by omega, by omega, HS'.out⟩
     case measure => simp [intOf]; omega
    ·go_wp2_with (first | (at_builtin; go_must (refine wpList_append_ownF _ rfl (.tmp 52) (.tmp 61) 175 rfl w.heap.size 5 1 1 _ Tryz.byteInfo Tryz.underlying175 rfl (by decide) _ _ _ rfl (HR.out.b.touch (S := fun _ => False) (.of_below (balloc wr _)) (fun _ _ h => h)) ⟨wr.heap.size, 0, none⟩ 1 1 [.int .u8 x.toNat] rfl rfl (fun i u hi => by rw [addr_add, Nat.zero_add]; exact cell_of (heap_new wr _) (by simpa using hi)) (by intro u hu; simp at hu; subst hu; rfl) (by decide) (by unfold maxLen; omega) (by omega) (by simp; omega) ?_; intro v' w1 ho hgr hb; have HS' := Lib.hid (HR.out.same_a HS.out (balloc wr _) ho hgr hb); clear ho hgr hb)))
     go_roundw
     case rel => exact ⟨j + 1, by go_num, by omega, by omega, HS'.out⟩
     case measure => simp [intOf]; omega
   ·have he : j = d.u.length ∨ k ≤ j := by omega
    have HE := Lib.hid (take_end hj hjk he)
    have he' : d.u.length ≤ j ∨ k ≤ j := by omega
    clear hc he
    rcases he' with he | he
    all_goals go_wp2_with (first
      | (with_reducible refine wpList_convert_string _ rfl 175 9 5 (.tmp 63) rfl Tryz.underlying175 Tryz.underlying5 Tryz.underlying9 rfl HR.out.a ?_)
      | (with_reducible refine wpList_convert_string _ rfl 175 9 5 (.tmp 65) rfl Tryz.underlying175 Tryz.underlying5 Tryz.underlying9 rfl HR.out.b ?_))
    all_goals go_ret
    all_goals refine ⟨_, rfl, hsz, ⟨_, heap_new wr _, ?_, ?_⟩, bthen HR.out.below (balloc wr _)⟩
    all_goals rw [DS.left, ← HE.out]; rfl
end Go.Proofs.YtpjpknndfhablaaGreat
namespace Go.Proofs.YtpjpknndfhablaaGreat
open Go.RowKit

theorem Two.cells {w : World} {g : Nat} {s t : List UInt8} (h : Two w g s t) : w.cell? ⟨g, 0, none⟩ = some (.string ⟨s.toArray⟩) ∧ w.cell? ⟨g, 1, none⟩ = some (.string ⟨t.toArray⟩) ∧ g < w.heap.size := by
 obtain ⟨cur, hg, h0, h1⟩ := h
 exact ⟨cell_of hg h0, cell_of hg h1, heap_lt hg⟩
theorem Two.below {w w' : World} {g : Nat} {s t : List UInt8} (h : Two w g s t) (hb : Below w.heap.size w w') : Two w' g s t := by
 obtain ⟨cur, hg, h0, h1⟩ := h
 exact ⟨cur, stays hg hb, h0, h1⟩
theorem Two.touch {S : Nat → Prop} {w w' : World} {g : Nat} {s t : List UInt8} (h : Two w g s t) (hb : Touch S w w') (hS : ¬ S g) : Two w' g s t := by
 obtain ⟨cur, hg, h0, h1⟩ := h
 exact ⟨cur, (hb.block g (heap_lt hg) hS).trans hg, h0, h1⟩

set_option maxHeartbeats 1000000 in
theorem rfiles_any (b : Nat) (w : World) (d : DS) (us : Value) (h : RefU w b d us) (hok : d.Ok) :
  Calls Tryz.prog 18 #[.pointer (some ⟨b, 0, none⟩)] w fun e w' => ∃ g, e = .returned (.slice (some ⟨g, 0, none⟩) 2 2) ∧ w.heap.size ≤ g ∧ Two w' g (d.file false) (d.file true) ∧ Below w.heap.size w w' := by
 obtain ⟨c0, c1, c2, c3, c4, c5, cf, hlt⟩ := h.cells
 obtain ⟨ao, cap, rfl, hr, hcell⟩ := h.slice
 have H := Lib.hid h
 have hul := hok.u_len
 clear h hcell c0 c1 c3 c4 c5 cf
 go_enter Tryz.func18, Tryz.ntmps18
 go_wp2_with fail
 refine (rafter_any b w d _ d.u.length H.out hok (by omega)).mono ?_
 rintro e w1 ⟨g, rfl, hg, ht, hb⟩
 have HT := Lib.hid ht
 have HB := Lib.hid hb
 have HG := Lib.hid hg
 clear ht hb hg
 go_wp2
 go_ret
 exact ⟨g, rfl, HG.out, by have := HT.out; simpa [DS.left_all] using this, HB.out⟩

set_option maxHeartbeats 1000000 in
theorem rdie_any (b : Nat) (w : World) (d : DS) (us : Value) (k : Int) (h : RefU w b d us) (hok : d.Ok) (h1 : k ≤ 9223372036854775807) :
  Calls Tryz.prog 132 #[.pointer (some ⟨b, 0, none⟩), .int .i64 k] w fun e w' => e = .returned (.tuple #[]) ∧ RefU w' b (d.die k.toNat) (.slice none 0 0) ∧ Touch (· = b) w w' := by
 have H := Lib.hid h
 clear h
 go_enter Tryz.func132, Tryz.ntmps132
 go_wp2_with fail
 refine (rafter_any b w d us k H.out hok h1).mono ?_
 rintro e w1 ⟨g, rfl, hg, ht, hb⟩
 have h1 := H.out.below hb
 obtain ⟨c0, c1, c2, c3, c4, c5, cf, hlt⟩ := h1.cells
 obtain ⟨x0, x1, xl⟩ := ht.cells
 have hne : b < g := Nat.lt_of_lt_of_le H.out.lt hg
 have H1 := Lib.hid h1
 have HB := Lib.hid hb
 clear h1 hb ht hg
 go_wp2
 go_end0
 refine ⟨rfl, ⟨?_, ?_⟩, ?_⟩
 ·rw [heap_set _ (heap_set _ (heap_set _ (heap_set _ (heap_set _ H1.out.blk))))]; simp [refBlock, DS.die]
 ·exact World.ownsRow_nil _ _ _ _
 ·refine Touch.setCell (Touch.setCell (Touch.setCell (Touch.setCell (Touch.setCell (Touch.of_below HB.out) _ ?_) _ ?_) _ ?_) _ ?_) _ ?_
  all_goals exact fun _ => rfl

set_option maxHeartbeats 1000000 in
theorem rcrash_any (b : Nat) (w : World) (d : DS) (ub : Option Nat) (k : Int) (h : RefAt w b d ub) (hk : k ≤ 9223372036854775807) :
  Calls Tryz.prog 80 #[.pointer (some ⟨b, 0, none⟩), .int .i64 k] w fun e w' => e = .returned (.int .i64 (d.crash k).2) ∧
   ∃ ub', RefAt w' b (d.crash k).1 ub' ∧ Newer w ub ub' ∧ Touch (· = b) w w' := by
 have hok' := h.1.crash k
 obtain ⟨hok, us, h, rfl⟩ := h
 obtain ⟨c0, c1, c2, c3, c4, c5, cf, hlt⟩ := h.cells
 have H := Lib.hid h
 clear h c0 c1 c2
 cases hd : d.dead
 ·rw [hd] at c5
  by_cases h0 : k < 0
  ·have HX : Hid (d.crash k = (d, 1)) := by unfold DS.crash; rw [if_neg (by simp [hd]), if_pos h0]; exact rfl
   clear hd
   go_enter Tryz.func80, Tryz.ntmps80
   go_wp2
   go_ret
   exact ⟨ret_int (by rw [HX.out]), us.ownBlock, by rw [HX.out]; exact ⟨hok, us, H.out, rfl⟩, Newer.refl _ _, Touch.refl _ _⟩
  ·have HX : Hid (d.crash k = (d.die k.toNat, 0)) := by unfold DS.crash; rw [if_neg (by simp [hd]), if_neg h0]; exact rfl
   have hk0 : 0 ≤ k := by omega
   clear hd h0
   go_enter Tryz.func80, Tryz.ntmps80
   go_wp2_with fail
   refine (rdie_any b w d us k H.out hok hk).mono ?_
   rintro e w1 ⟨rfl, hr, ht⟩
   have HR := Lib.hid hr
   have HT := Lib.hid ht
   clear hr ht
   go_wp2
   go_ret
   refine ⟨ret_int (by rw [HX.out]), none, ?_, Newer.none _ _, HT.out⟩
   rw [HX.out] at hok' ⊢
   exact ⟨hok', _, HR.out, rfl⟩
 ·rw [hd] at c5
  have HX : Hid (d.crash k = (d, 2)) := by unfold DS.crash; rw [if_pos hd]; exact rfl
  clear hd
  go_enter Tryz.func80, Tryz.ntmps80
  go_wp2
  go_ret
  exact ⟨ret_int (by rw [HX.out]), us.ownBlock, by rw [HX.out]; exact ⟨hok, us, H.out, rfl⟩, Newer.refl _ _, Touch.refl _ _⟩

set_option maxHeartbeats 1000000 in
theorem rsync_any (b : Nat) (w : World) (d : DS) (ub : Option Nat) (h : RefAt w b d ub) :
  Calls Tryz.prog 93 #[.pointer (some ⟨b, 0, none⟩)] w fun e w' => e = .returned (.int .i64 d.sync.2) ∧
   ∃ ub', RefAt w' b d.sync.1 ub' ∧ Newer w ub ub' ∧ Touch (· = b) w w' := by
 have hok' := h.1.sync
 obtain ⟨hok, us, h, rfl⟩ := h
 obtain ⟨c0, c1, c2, c3, c4, c5, cf, hlt⟩ := h.cells
 have H := Lib.hid h
 clear h c0 c1 c2 c3 c4
 cases hd : d.dead
 ·rw [hd] at c5
  go_enter Tryz.func93, Tryz.ntmps93
  cases hg : d.goes
  ·have HX : Hid (d.sync = (d.tick.saved, 0)) := by unfold DS.sync; rw [if_neg (by simp [hd]), if_neg (by simp [hg])]; exact rfl
   clear hd
   go_wp2_with fail
   refine (rgoes_any b w d us H.out hok).mono ?_
   rintro e w1 ⟨rfl, hr, ht⟩
   rw [hg]
   have HR := Lib.hid hr
   have HT := Lib.hid ht
   clear hr ht hg
   go_wp2_with fail
   refine (rfiles_any b w1 d.tick us HR.out hok.tick).mono ?_
   rintro e w2 ⟨g, rfl, hg, ht, hb⟩
   have h2 := HR.out.below hb
   obtain ⟨c0, c1, c2, c3, c4, c5, cf, hlt⟩ := h2.cells
   obtain ⟨x0, x1, xl⟩ := ht.cells
   have hne : b < g := Nat.lt_of_lt_of_le HR.out.lt hg
   have H2 := Lib.hid h2
   have HB := Lib.hid hb
   clear h2 hb c3 c4 ht hg
   go_wp2
   go_ret
   refine ⟨ret_int (by rw [HX.out]), none, ?_, Newer.none _ _, ?_⟩
   ·rw [HX.out] at hok' ⊢
    refine ⟨hok', .slice none 0 0, ⟨?_, World.ownsRow_nil _ _ _ _⟩, rfl⟩
    rw [heap_set _ (heap_set _ (heap_set _ H2.out.blk))]; simp [refBlock, DS.saved]
   ·refine Touch.setCell (Touch.setCell (Touch.setCell (Touch.trans HT.out (Touch.of_below (S := fun _ => False) HB.out) (fun _ _ h => h.elim)) _ ?_) _ ?_) _ ?_
    all_goals exact fun _ => rfl
  ·have HX : Hid (d.sync = (d.tick.die d.keep, 2)) := by unfold DS.sync; rw [if_neg (by simp [hd]), if_pos hg]; exact rfl
   have hkp := hok.keep
   clear hd
   go_wp2_with fail
   refine (rgoes_any b w d us H.out hok).mono ?_
   rintro e w1 ⟨rfl, hr, ht⟩
   rw [hg]
   obtain ⟨c0, c1, c2, c3, c4, c5, cf, hlt⟩ := hr.cells
   have HR := Lib.hid hr
   have HT := Lib.hid ht
   clear hr ht hg c0 c1 c2 c3
   go_wp2_with fail
   refine (rdie_any b w1 d.tick us d.keep HR.out hok.tick (by omega)).mono ?_
   rintro e w2 ⟨rfl, hr2, ht2⟩
   have HR2 := Lib.hid hr2
   have HT2 := Lib.hid ht2
   clear hr2 ht2 c4 c5 cf
   go_wp2
   go_ret
   refine ⟨ret_int (by rw [HX.out]), none, ?_, Newer.none _ _, Touch.trans HT.out HT2.out (fun k _ h => h)⟩
   rw [HX.out] at hok' ⊢
   exact ⟨hok', _, HR2.out, rfl⟩
 ·rw [hd] at c5
  have HX : Hid (d.sync = (d, 2)) := by unfold DS.sync; rw [if_pos hd]; exact rfl
  clear hd
  go_enter Tryz.func93, Tryz.ntmps93
  go_wp2
  go_ret
  exact ⟨ret_int (by rw [HX.out]), us.ownBlock, by rw [HX.out]; exact ⟨hok, us, H.out, rfl⟩, Newer.refl _ _, Touch.refl _ _⟩
end Go.Proofs.YtpjpknndfhablaaGreat
namespace Go.Proofs.YtpjpknndfhablaaGreat
open Go.RowKit

set_option maxHeartbeats 2000000 in
theorem rcut_any (b : Nat) (w : World) (d : DS) (ub : Option Nat) (f n : Int) (h : RefAt w b d ub) :
  Calls Tryz.prog 104 #[.pointer (some ⟨b, 0, none⟩), .int .i64 f, .int .i64 n] w fun e w' => e = .returned (.int .i64 (d.cut f n).2) ∧
   ∃ ub', RefAt w' b (d.cut f n).1 ub' ∧ Newer w ub ub' ∧ Touch (· = b) w w' := by
 have hok' := h.1.cut f n
 obtain ⟨hok, us, h, rfl⟩ := h
 obtain ⟨c0, c1, c2, c3, c4, c5, cf, hlt⟩ := h.cells
 have H := Lib.hid h
 clear h c0 c1 c2 c3 c4
 cases hd : d.dead
 ·rw [hd] at c5
  by_cases hf : f = 0 ∨ f = 1
  ·obtain ⟨q, rfl⟩ := DS.fi_of hf
   have hz : d.sizeI (DS.fi q) = (d.size q : Int) := by simp [DS.sizeI, DS.fileNo_of]
   have HZ := Lib.hid hz
   have hbl := hok.base_len' q
   have hu := hok.u_len
   have hofl : (DS.of q d.u).length ≤ d.size q := by rw [DS.size, DS.file, List.length_append]; omega
   have hsz : d.size q = (d.base q).length + (DS.of q d.u).length := by rw [DS.size, DS.file, List.length_append]
   have HSZ := Lib.hid hsz
   have hof : (DS.of q d.u ≠ []) ↔ 0 < (DS.of q d.u).length := List.length_pos_iff.symm
   clear hf hz hsz
   by_cases hc : n < 0 ∨ n > d.size q ∨ DS.of q d.u ≠ []
   ·have HX : Hid (d.cut (DS.fi q) n = (d, 92)) := by unfold DS.cut; rw [if_neg (by simp [hd]), DS.fileNo_of]; simp only []; rw [if_pos hc]; exact rfl
    rw [hof] at hc
    have hc' : n < 0 ∨ (0 ≤ n ∧ (d.size q : Int) < n) ∨ (0 ≤ n ∧ n ≤ d.size q ∧ (0 : Int) < ((DS.of q d.u).length : Int)) := by omega
    clear hd hc hof
    cases q
    ·simp only [DS.fi, Bool.false_eq_true, if_false] at HX HZ ⊢
     have HX' := Lib.hid HX
     have HZ' := Lib.hid HZ
     clear HX HZ
     rcases hc' with hc | ⟨hc0, hc⟩ | ⟨hc0, hc1, hc⟩
     all_goals go_enter Tryz.func104, Tryz.ntmps104
     all_goals go_wp2_with (first
      | (go_at_call 89; go_must (refine (rsize_any b w d us _ H.out hok).mono ?_; rw [HZ'.out.out]; rintro e w' ⟨rfl, rfl⟩))
      | (go_at_call 142; go_must (refine (unsafe_any b w d us false H.out hok).mono ?_; rintro e w' ⟨rfl, rfl⟩)))
     all_goals go_ret
     all_goals exact ⟨ret_int (by rw [HX'.out.out]), us.ownBlock, by rw [HX'.out.out]; exact ⟨hok, us, H.out, rfl⟩, Newer.refl _ _, Touch.refl _ _⟩
    ·simp only [DS.fi, if_true] at HX HZ ⊢
     have HX' := Lib.hid HX
     have HZ' := Lib.hid HZ
     clear HX HZ
     rcases hc' with hc | ⟨hc0, hc⟩ | ⟨hc0, hc1, hc⟩
     all_goals go_enter Tryz.func104, Tryz.ntmps104
     all_goals go_wp2_with (first
      | (go_at_call 89; go_must (refine (rsize_any b w d us _ H.out hok).mono ?_; rw [HZ'.out.out]; rintro e w' ⟨rfl, rfl⟩))
      | (go_at_call 142; go_must (refine (unsafe_any b w d us true H.out hok).mono ?_; rintro e w' ⟨rfl, rfl⟩)))
     all_goals go_ret
     all_goals exact ⟨ret_int (by rw [HX'.out.out]), us.ownBlock, by rw [HX'.out.out]; exact ⟨hok, us, H.out, rfl⟩, Newer.refl _ _, Touch.refl _ _⟩
   ·have hof' : DS.of q d.u = [] := by
     by_cases h : DS.of q d.u = []
     ·exact h
     ·exact absurd (Or.inr (Or.inr h)) hc
    have HOF : Hid (((DS.of q d.u).length : Int) = 0) := by rw [hof']; exact rfl
    have hn0 : 0 ≤ n := by omega
    have hns : n ≤ d.size q := by omega
    have hn1 : n ≤ (d.base q).length := by
     have : d.size q = (d.base q).length := by rw [DS.size, DS.file, hof', List.append_nil]
     omega
    have hkp := hok.keep
    have HC := Lib.hid hc
    have HD := Lib.hid hd
    clear hd hc hof hof' hofl
    cases q
    ·simp only [DS.fi, Bool.false_eq_true, if_false] at HZ HC hok' ⊢
     have HZ' := Lib.hid HZ
     clear HZ
     cases hg : d.goes
     ·have HX : Hid (d.cut 0 n = (d.tick.short false n.toNat, 0)) := by
       have : DS.fileNo 0 = some false := rfl
       unfold DS.cut; rw [if_neg (by simp [HD.out]), this]; simp only []; rw [if_neg HC.out, if_neg (by simp [hg])]; exact rfl
      have hn1' : n ≤ (d.tick.a.length : Int) := hn1
      have HG := Lib.hid hg
      clear hg
      go_enter Tryz.func104, Tryz.ntmps104
      go_wp2_with (first
       | (go_at_call 89; go_must (refine (rsize_any b w d us _ H.out hok).mono ?_; rw [HZ'.out.out]; rintro e w' ⟨rfl, rfl⟩))
       | (go_at_call 142; go_must (refine (unsafe_any b w d us false H.out hok).mono ?_; rw [HOF.out]; rintro e w' ⟨rfl, rfl⟩))
       | (go_at_call 143; go_must (refine (rgoes_any b w d us H.out hok).mono ?_; rw [HG.out]; rintro e w5 ⟨rfl, hr5, ht5⟩; have HR5 := Lib.hid hr5; have HT5 := Lib.hid ht5; obtain ⟨c0', c1', c2', c3', c4', c5'', cf', hlt'⟩ := hr5.cells; clear hr5 ht5 c2' c3' c4' c5'')))
      go_ret
      refine ⟨ret_int (by rw [HX.out]), us.ownBlock, ?_, Newer.refl _ _, HT5.out.setCell _ (fun _ => rfl)⟩
      rw [HX.out] at hok' ⊢
      refine ⟨hok', us, ⟨?_, ?_⟩, rfl⟩
      ·rw [heap_set _ HR5.out.blk, bytes_extract]; simp [refBlock, DS.short]
      ·exact own_touch HR5.out.own ((Touch.refl (· = b) w5).setCell _ (fun _ => rfl)) (fun k hk => fun e => HR5.out.own_block (by rw [hk, e]))
     ·have HX : Hid (d.cut 0 n = (d.tick.die d.keep, 2)) := by
       have : DS.fileNo 0 = some false := rfl
       unfold DS.cut; rw [if_neg (by simp [HD.out]), this]; simp only []; rw [if_neg HC.out, if_pos hg]; exact rfl
      have HG := Lib.hid hg
      clear hg
      go_enter Tryz.func104, Tryz.ntmps104
      go_wp2_with (first
       | (go_at_call 89; go_must (refine (rsize_any b w d us _ H.out hok).mono ?_; rw [HZ'.out.out]; rintro e w' ⟨rfl, rfl⟩))
       | (go_at_call 142; go_must (refine (unsafe_any b w d us false H.out hok).mono ?_; rw [HOF.out]; rintro e w' ⟨rfl, rfl⟩))
       | (go_at_call 143; go_must (refine (rgoes_any b w d us H.out hok).mono ?_; rw [HG.out]; rintro e w5 ⟨rfl, hr5, ht5⟩; have HR5 := Lib.hid hr5; have HT5 := Lib.hid ht5; obtain ⟨_, _, _, _, c4', _, _, hlt'⟩ := hr5.cells; have x4' : w5.cell? ⟨b, 4, none⟩ = some (.int .i64 d.keep) := c4'; clear c4' hr5 ht5))
       | (go_at_call 132; go_must (refine (rdie_any b w5 d.tick us d.keep HR5.out hok.tick (by omega)).mono ?_; rintro e w2 ⟨rfl, hr2, ht2⟩; have HR2 := Lib.hid hr2; have HT2 := Lib.hid ht2; clear hr2 ht2)))
      go_ret
      refine ⟨ret_int (by rw [HX.out]), none, ?_, Newer.none _ _, Touch.trans HT5.out HT2.out (fun k _ h => h)⟩
      rw [HX.out] at hok' ⊢
      exact ⟨hok', _, HR2.out, rfl⟩
    ·simp only [DS.fi, if_true] at HZ HC hok' ⊢
     have HZ' := Lib.hid HZ
     clear HZ
     cases hg : d.goes
     ·have HX : Hid (d.cut 1 n = (d.tick.short true n.toNat, 0)) := by
       have : DS.fileNo 1 = some true := rfl
       unfold DS.cut; rw [if_neg (by simp [HD.out]), this]; simp only []; rw [if_neg HC.out, if_neg (by simp [hg])]; exact rfl
      have hn1' : n ≤ (d.tick.b.length : Int) := hn1
      have HG := Lib.hid hg
      clear hg
      go_enter Tryz.func104, Tryz.ntmps104
      go_wp2_with (first
       | (go_at_call 89; go_must (refine (rsize_any b w d us _ H.out hok).mono ?_; rw [HZ'.out.out]; rintro e w' ⟨rfl, rfl⟩))
       | (go_at_call 142; go_must (refine (unsafe_any b w d us true H.out hok).mono ?_; rw [HOF.out]; rintro e w' ⟨rfl, rfl⟩))
       | (go_at_call 143; go_must (refine (rgoes_any b w d us H.out hok).mono ?_; rw [HG.out]; rintro e w5 ⟨rfl, hr5, ht5⟩; have HR5 := Lib.hid hr5; have HT5 := Lib.hid ht5; obtain ⟨c0', c1', c2', c3', c4', c5'', cf', hlt'⟩ := hr5.cells; clear hr5 ht5 c2' c3' c4' c5'')))
      go_ret
      refine ⟨ret_int (by rw [HX.out]), us.ownBlock, ?_, Newer.refl _ _, HT5.out.setCell _ (fun _ => rfl)⟩
      rw [HX.out] at hok' ⊢
      refine ⟨hok', us, ⟨?_, ?_⟩, rfl⟩
      ·rw [heap_set _ HR5.out.blk, bytes_extract]; simp [refBlock, DS.short]
      ·exact own_touch HR5.out.own ((Touch.refl (· = b) w5).setCell _ (fun _ => rfl)) (fun k hk => fun e => HR5.out.own_block (by rw [hk, e]))
     ·have HX : Hid (d.cut 1 n = (d.tick.die d.keep, 2)) := by
       have : DS.fileNo 1 = some true := rfl
       unfold DS.cut; rw [if_neg (by simp [HD.out]), this]; simp only []; rw [if_neg HC.out, if_pos hg]; exact rfl
      have HG := Lib.hid hg
      clear hg
      go_enter Tryz.func104, Tryz.ntmps104
      go_wp2_with (first
       | (go_at_call 89; go_must (refine (rsize_any b w d us _ H.out hok).mono ?_; rw [HZ'.out.out]; rintro e w' ⟨rfl, rfl⟩))
       | (go_at_call 142; go_must (refine (unsafe_any b w d us true H.out hok).mono ?_; rw [HOF.out]; rintro e w' ⟨rfl, rfl⟩))
       | (go_at_call 143; go_must (refine (rgoes_any b w d us H.out hok).mono ?_; rw [HG.out]; rintro e w5 ⟨rfl, hr5, ht5⟩; have HR5 := Lib.hid hr5; have HT5 := Lib.hid ht5; obtain ⟨_, _, _, _, c4', _, _, hlt'⟩ := hr5.cells; have x4' : w5.cell? ⟨b, 4, none⟩ = some (.int .i64 d.keep) := c4'; clear c4' hr5 ht5))
       | (go_at_call 132; go_must (refine (rdie_any b w5 d.tick us d.keep HR5.out hok.tick (by omega)).mono ?_; rintro e w2 ⟨rfl, hr2, ht2⟩; have HR2 := Lib.hid hr2; have HT2 := Lib.hid ht2; clear hr2 ht2)))
      go_ret
      refine ⟨ret_int (by rw [HX.out]), none, ?_, Newer.none _ _, Touch.trans HT5.out HT2.out (fun k _ h => h)⟩
      rw [HX.out] at hok' ⊢
      exact ⟨hok', _, HR2.out, rfl⟩
  ·have hf' : (f != 0) = true ∧ (f != 1) = true := by constructor <;> (rw [bne_iff_ne]; omega)
   have h2 : (f == 0) = false ∧ (f == 1) = false := by constructor <;> (rw [beq_eq_false_iff_ne]; omega)
   obtain ⟨h0, h1⟩ := hf'
   obtain ⟨h2, h3⟩ := h2
   have HX : Hid (d.cut f n = (d, 90)) := by unfold DS.cut; rw [if_neg (by simp [hd]), DS.fileNo_none hf]; exact rfl
   clear hf hd
   go_enter Tryz.func104, Tryz.ntmps104
   go_wp2
   go_ret
   exact ⟨ret_int (by rw [HX.out]), us.ownBlock, by rw [HX.out]; exact ⟨hok, us, H.out, rfl⟩, Newer.refl _ _, Touch.refl _ _⟩
 ·rw [hd] at c5
  have HX : Hid (d.cut f n = (d, 2)) := by unfold DS.cut; rw [if_pos hd]; exact rfl
  clear hd
  go_enter Tryz.func104, Tryz.ntmps104
  go_wp2
  go_ret
  exact ⟨ret_int (by rw [HX.out]), us.ownBlock, by rw [HX.out]; exact ⟨hok, us, H.out, rfl⟩, Newer.refl _ _, Touch.refl _ _⟩
end Go.Proofs.YtpjpknndfhablaaGreat
