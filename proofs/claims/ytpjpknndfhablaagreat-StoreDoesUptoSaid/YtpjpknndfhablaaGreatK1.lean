/- Small lemmas on worlds and lists, used by all later texts. No program in sight. The disk of chapter 09 as plain Lean: what each call does to two files, unsafe bytes, what is armed. No program in sight. How a disk of the program lies in memory. The walk of (*Disk).left: what is left of the files behind k unsafe bytes. Walks of (*Disk).Waiting, all, Size: they only read. Walks of the disk's small methods that write: goes, dies, Revive, Arm, Crash, Dead. append on a row of the call's own, once more: besides what the library's law leaves, the block of the new slice is the old one's or a new one. -/
import Derived.WalkKit
import Derived.WalkSpells
import Derived.WalkLawsBesides
import Derived.Lib.Hide
import Derived.Test.YtpjpknndfhablaaGreatRows
import Derived.Handy
import Derived.RegionTactic
import Derived.BigRegion
namespace Go.Proofs.YtpjpknndfhablaaGreat
open Go.RowKit

/-- Of the blocks that were there only those in S may have turned. -/
structure Touch (S : Nat → Prop) (w w' : World) : Prop where
 os : w'.os = w.os
 tape : w'.tape = w.tape
 output : w'.output = w.output
 size : w.heap.size ≤ w'.heap.size
 block : ∀ k, k < w.heap.size → ¬ S k → w'.heap[k]? = w.heap[k]?

theorem Touch.refl (S : Nat → Prop) (w : World) : Touch S w w := ⟨rfl, rfl, rfl, Nat.le_refl _, fun _ _ _ => rfl⟩
theorem Touch.trans {S T : Nat → Prop} {w w1 w2 : World} (h : Touch S w w1) (h' : Touch T w1 w2) (hT : ∀ k, k < w.heap.size → T k → S k) : Touch S w w2 :=
 ⟨h'.os.trans h.os, h'.tape.trans h.tape, h'.output.trans h.output, Nat.le_trans h.size h'.size,
  fun k hk hS => (h'.block k (Nat.lt_of_lt_of_le hk h.size) (fun ht => hS (hT k hk ht))).trans (h.block k hk hS)⟩
theorem Touch.mono {S T : Nat → Prop} {w w' : World} (h : Touch S w w') (hT : ∀ k, k < w.heap.size → S k → T k) : Touch T w w' :=
 ⟨h.os, h.tape, h.output, h.size, fun k hk hS => h.block k hk (fun hs => hS (hT k hk hs))⟩
theorem Touch.of_below {S : Nat → Prop} {w w' : World} (h : Below w.heap.size w w') : Touch S w w' :=
 ⟨h.os, h.tape, h.output, h.size, fun k hk _ => h.block k hk⟩
theorem Touch.below {S : Nat → Prop} {B : Nat} {w w' : World} (h : Touch S w w') (hB : B ≤ w.heap.size) (hS : ∀ k, k < B → ¬ S k) : Below B w w' :=
 ⟨h.os, h.tape, h.output, h.size, fun k hk => h.block k (Nat.lt_of_lt_of_le hk hB) (hS k hk)⟩
theorem Touch.alloc {S : Nat → Prop} {w w' : World} (h : Touch S w w') (o : Obj) : Touch S w (w'.alloc o) :=
 h.trans (T := fun _ => False) (Touch.of_below ((Below.refl _ _).alloc (Nat.le_refl _) _)) (fun _ _ h => h.elim)
theorem Touch.drew {S : Nat → Prop} {w w' : World} (h : Touch S w w') : Touch S w w'.drew := ⟨h.os, h.tape, h.output, h.size, h.block⟩
theorem Touch.setCell {S : Nat → Prop} {w w' : World} (h : Touch S w w') {a : Addr} (v : Value) (ha : a.block < w.heap.size → S a.block) : Touch S w (w'.setCell a v) :=
 ⟨h.os, h.tape, h.output, by simpa using h.size, fun k hk hS => (Below.heap_setCell _ _ _ _ (fun e => hS (by subst e; exact ha hk))).trans (h.block k hk hS)⟩

theorem heap_lt {w : World} {b : Nat} {o : Obj} (h : w.heap[b]? = some o) : b < w.heap.size := (Array.getElem?_eq_some_iff.1 h).1
theorem cell_of {w : World} {b i : Nat} {c : Array Value} {t : TypeId} {fr : Nat × Nat} {v : Value} (h : w.heap[b]? = some (.cells c t fr)) (hi : c[i]? = some v) : w.cell? ⟨b, i, none⟩ = some v := by
 simp [World.cell?, h, hi]
theorem free_of {w : World} {b : Nat} {c : Array Value} {t : TypeId} (h : w.heap[b]? = some (.cells c t (0, 0))) (i : Nat) : w.frozen? ⟨b, i, none⟩ = false := by
 simp [World.frozen?, h]
theorem heap_set {w : World} {b i : Nat} {c : Array Value} {t : TypeId} {fr : Nat × Nat} (v : Value) (h : w.heap[b]? = some (.cells c t fr)) : (w.setCell ⟨b, i, none⟩ v).heap[b]? = some (.cells (c.setIfInBounds i v) t fr) := by
 simp [World.setCell, Array.getElem?_modify, h]
theorem heap_set_ne {w : World} {b i k : Nat} (v : Value) (h : k ≠ b) : (w.setCell ⟨b, i, none⟩ v).heap[k]? = w.heap[k]? := Below.heap_setCell _ _ _ _ h
theorem heap_alloc {w : World} {k : Nat} (o : Obj) (h : k < w.heap.size) : (w.alloc o).heap[k]? = w.heap[k]? := Below.heap_alloc _ _ _ h
theorem heap_new (w : World) (o : Obj) : (w.alloc o).heap[w.heap.size]? = some o := heap_alloc_new w o
theorem heap_drew (w : World) (k : Nat) : w.drew.heap[k]? = w.heap[k]? := rfl

theorem ret_int {k : IntKind} {a b : Int} (h : a = b) : Ending.returned (.int k a) = .returned (.int k b) := by rw [h]
theorem ret_bool {a b : Bool} (h : a = b) : Ending.returned (.bool a) = .returned (.bool b) := by rw [h]

theorem bytes_extract (s : List UInt8) (n : Nat) : (⟨s.toArray⟩ : ByteArray).extract 0 n = ⟨(s.take n).toArray⟩ := by
 apply ByteArray.ext; simp [ByteArray.data_extract]
theorem bytes_append (s t : List UInt8) : (⟨s.toArray⟩ : ByteArray) ++ ⟨t.toArray⟩ = ⟨(s ++ t).toArray⟩ := by
 apply ByteArray.ext; simp [ByteArray.data_append]
theorem bthen {w w1 w2 : World} (h : Below w.heap.size w w1) (h' : Below w1.heap.size w1 w2) : Below w.heap.size w w2 := h.trans (h'.mono h.size)
theorem balloc (w : World) (o : Obj) : Below w.heap.size w (w.alloc o) := (Below.refl _ _).alloc (Nat.le_refl _) o
theorem cells1 {w : World} {b : Nat} {t : TypeId} {x : Value} (h : w.heap[b]? = some (.cells #[x] t (0, 0))) : w.cell? ⟨b, 0, none⟩ = some x ∧ (∀ i, w.frozen? ⟨b, i, none⟩ = false) ∧ b < w.heap.size :=
 ⟨cell_of h rfl, free_of h, heap_lt h⟩
theorem cells2 {w : World} {b : Nat} {t : TypeId} {x y : Value} (h : w.heap[b]? = some (.cells #[x, y] t (0, 0))) : w.cell? ⟨b, 0, none⟩ = some x ∧ w.cell? ⟨b, 1, none⟩ = some y ∧ (∀ i, w.frozen? ⟨b, i, none⟩ = false) ∧ b < w.heap.size :=
 ⟨cell_of h rfl, cell_of h rfl, free_of h, heap_lt h⟩
/-- A block that was there is there in every later world that has turned nothing old. -/
theorem stays {w w' : World} {b : Nat} {o : Obj} (h : w.heap[b]? = some o) (hb : Below w.heap.size w w') : w'.heap[b]? = some o := (hb.block b (heap_lt h)).trans h

theorem addr_add (b off j : Nat) : (⟨b, off, none⟩ : Addr).add j = ⟨b, off + j, none⟩ := by unfold Addr.add; split <;> simp_all
theorem addr_block (a : Addr) (j : Nat) : (a.add j).block = a.block := by unfold Addr.add; split <;> rfl

theorem ret_two {a b c d : Value} (h : a = c) (h' : b = d) : Ending.returned (.tuple #[a, b]) = .returned (.tuple #[c, d]) := by rw [h, h']
theorem val_int {k : IntKind} {a b : Int} (h : a = b) : Value.int k a = .int k b := by rw [h]

end Go.Proofs.YtpjpknndfhablaaGreat
namespace Go.Proofs.YtpjpknndfhablaaGreat

/-- The state of a disk: safe bytes of both files; unsafe ones, in order (false: file 0); what is armed; what is kept; is the power gone? -/
structure DS where
 a : List UInt8 := []
 b : List UInt8 := []
 u : List (Bool × UInt8) := []
 armed : Nat := 0
 keep : Nat := 0
 dead : Bool := false

namespace DS
def fi (f : Bool) : Int := if f then 1 else 0
def of (f : Bool) (u : List (Bool × UInt8)) : List UInt8 := (u.filter (·.1 == f)).map (·.2)
def base (d : DS) (f : Bool) : List UInt8 := if f then d.b else d.a
def left (d : DS) (k : Nat) (f : Bool) : List UInt8 := d.base f ++ of f (d.u.take k)
def file (d : DS) (f : Bool) : List UInt8 := d.base f ++ of f d.u
def size (d : DS) (f : Bool) : Nat := (d.file f).length
def die (d : DS) (k : Nat) : DS := { a := d.left k false, b := d.left k true, u := [], armed := 0, keep := d.keep, dead := true }
/-- A change is counted. -/
def tick (d : DS) : DS := { d with armed := d.armed - 1 }
def goes (d : DS) : Bool := d.armed == 1
def lay (d : DS) (f : Bool) (s : List UInt8) : DS := { d with u := d.u ++ s.map (f, ·) }
def saved (d : DS) : DS := { d with a := d.file false, b := d.file true, u := [] }
def fileNo (f : Int) : Option Bool := if f = 0 then some false else if f = 1 then some true else none
def append (d : DS) (f : Int) (s : List UInt8) : DS × Int :=
 if d.dead then (d, 2) else
 match fileNo f with
 | none => (d, 90)
 | some f => if d.size f + s.length > 1048576 then (d, 91) else
  if d.goes then ((d.tick.lay f s).die d.keep, 2) else (d.tick.lay f s, 0)
def sync (d : DS) : DS × Int :=
 if d.dead then (d, 2) else if d.goes then (d.tick.die d.keep, 2) else (d.tick.saved, 0)
def short (d : DS) (f : Bool) (n : Nat) : DS := if f then { d with b := d.b.take n } else { d with a := d.a.take n }
def cut (d : DS) (f n : Int) : DS × Int :=
 if d.dead then (d, 2) else
 match fileNo f with
 | none => (d, 90)
 | some f => if n < 0 ∨ n > d.size f ∨ of f d.u ≠ [] then (d, 92) else
  if d.goes then (d.tick.die d.keep, 2) else (d.tick.short f n.toNat, 0)
def arm (d : DS) (n k : Int) : DS × Int :=
 if d.dead then (d, 2) else if n < 0 ∨ k < 0 then (d, 1) else ({ d with armed := n.toNat, keep := k.toNat }, 0)
def crash (d : DS) (k : Int) : DS × Int :=
 if d.dead then (d, 2) else if k < 0 then (d, 1) else (d.die k.toNat, 0)
def revive (d : DS) : DS := { d with dead := false, armed := 0 }
def read (d : DS) (f : Int) : List UInt8 × Int :=
 if d.dead then ([], 2) else match fileNo f with | none => ([], 90) | some f => (d.file f, 0)
def sizeI (d : DS) (f : Int) : Int := match fileNo f with | none => -1 | some f => d.size f
/-- What every disk keeps: no file is too long; numbers are ints. -/
structure Ok (d : DS) : Prop where
 s0 : d.size false ≤ 1048576
 s1 : d.size true ≤ 1048576
 armed : d.armed ≤ 9223372036854775807
 keep : d.keep ≤ 9223372036854775807

theorem of_append (f : Bool) (u v : List (Bool × UInt8)) : of f (u ++ v) = of f u ++ of f v := by simp [of]
theorem of_map_same (f : Bool) (s : List UInt8) : of f (s.map (f, ·)) = s := by simp [of, List.filter_map, Function.comp_def]
theorem of_map_other (f g : Bool) (s : List UInt8) (h : g ≠ f) : of f (s.map (g, ·)) = [] := by simp [of, h]
theorem of_take_length_le (f : Bool) (u : List (Bool × UInt8)) (k : Nat) : (of f (u.take k)).length ≤ (of f u).length := by
 simp only [of, List.length_map]; exact ((List.take_sublist k u).filter _).length_le
theorem of_length (u : List (Bool × UInt8)) : (of false u).length + (of true u).length = u.length := by
 induction u with
 | nil => rfl
 | cons x u ih => obtain ⟨f, b⟩ := x; cases f <;> simp [of] at ih ⊢ <;> omega
theorem fileNo_of (f : Bool) : fileNo (fi f) = some f := by cases f <;> rfl
theorem fileNo_none {f : Int} (h : ¬ (f = 0 ∨ f = 1)) : fileNo f = none := by unfold fileNo; rw [if_neg (by omega), if_neg (by omega)]
theorem size_lay (d : DS) (f g : Bool) (s : List UInt8) : (d.lay f s).size g = d.size g + if f = g then s.length else 0 := by
 simp only [size, file, lay, base, of_append]
 by_cases h : f = g
 ·subst h; simp [of_map_same]; omega
 ·simp [of_map_other g f s h, h]
theorem size_die_le (d : DS) (k : Nat) (f : Bool) : (d.die k).size f ≤ d.size f := by
 have := of_take_length_le f d.u k
 cases f <;> simp [size, file, die, base, left, of] at this ⊢ <;> omega
theorem size_tick (d : DS) (f : Bool) : d.tick.size f = d.size f := rfl
theorem size_saved (d : DS) (f : Bool) : d.saved.size f = d.size f := by cases f <;> simp [size, file, saved, base, of]
theorem die_tick (d : DS) (k : Nat) : d.tick.die k = d.die k := rfl

/-! The unsafe bytes as rows: how the program keeps them. -/
def flat (r : List (Bool × List UInt8)) : List (Bool × UInt8) := r.flatMap fun x => x.2.map (x.1, ·)
theorem flat_append (r s : List (Bool × List UInt8)) : flat (r ++ s) = flat r ++ flat s := by simp [flat]
theorem flat_one (f : Bool) (s : List UInt8) : flat [(f, s)] = s.map (f, ·) := by simp [flat]
theorem flat_take_succ {r : List (Bool × List UInt8)} {j : Nat} {f : Bool} {s : List UInt8} (h : r[j]? = some (f, s)) : flat (r.take (j + 1)) = flat (r.take j) ++ s.map (f, ·) := by
 rw [List.take_add_one, flat_append, h]; simp [flat]
theorem flat_take_le (r : List (Bool × List UInt8)) (j : Nat) : (flat (r.take j)).length ≤ (flat r).length := by
 conv => rhs; rw [← List.take_append_drop j r, flat_append]
 simp

/-- What stands in the loop of 'left' behind j rows: what k has become, and both files. -/
structure LeftRel (d : DS) (r : List (Bool × List UInt8)) (k : Int) (j : Nat) (kk : Int) (t0 t1 : List UInt8) : Prop where
 kk : kk = k - (((flat (r.take j)).take k.toNat).length : Int)
 t0 : t0 = d.base false ++ of false ((flat (r.take j)).take k.toNat)
 t1 : t1 = d.base true ++ of true ((flat (r.take j)).take k.toNat)
theorem LeftRel.zero (d : DS) (r : List (Bool × List UInt8)) (k : Int) : LeftRel d r k 0 k (d.base false) (d.base true) := by
 constructor <;> simp [flat, of]
theorem LeftRel.step {d : DS} {r : List (Bool × List UInt8)} {k : Int} {j : Nat} {kk : Int} {t0 t1 : List UInt8} (h : LeftRel d r k j kk t0 t1) {f : Bool} {s : List UInt8} (hj : r[j]? = some (f, s)) {m : Nat} (hm : (m : Int) = min (max 0 kk) s.length) :
  LeftRel d r k (j + 1) (kk - m) (t0 ++ if f then [] else s.take m) (t1 ++ if f then s.take m else []) := by
 obtain ⟨h1, h2, h3⟩ := h
 have e : (flat (r.take (j + 1))).take k.toNat = (flat (r.take j)).take k.toNat ++ (s.take m).map (f, ·) := by
  rw [flat_take_succ hj, List.take_append, List.map_take]
  congr 1
  have hl : ((flat (r.take j)).take k.toNat).length = min k.toNat (flat (r.take j)).length := List.length_take
  rw [hl] at h1
  by_cases hs : k.toNat - (flat (r.take j)).length ≤ s.length
  ·congr 1; omega
  ·rw [List.take_of_length_le (by simp; omega), List.take_of_length_le (by simp; omega)]
 have hm' : m ≤ s.length := by omega
 have ho : ∀ g : Bool, of g ((s.take m).map (f, ·)) = if f = g then s.take m else [] := fun g => by
  by_cases h : f = g
  ·subst h; simpa using of_map_same f (s.take m)
  ·simpa [h] using of_map_other g f (s.take m) h
 constructor
 ·rw [e, List.length_append, List.length_map]; have := List.length_take (i := m) (l := s); omega
 ·rw [e, of_append, h2, ho]; cases f <;> simp
 ·rw [e, of_append, h3, ho]; cases f <;> simp
theorem LeftRel.done {d : DS} {r : List (Bool × List UInt8)} {k : Int} {kk : Int} {t0 t1 : List UInt8} (h : LeftRel d r k r.length kk t0 t1) (hu : flat r = d.u) : t0 = d.left k.toNat false ∧ t1 = d.left k.toNat true := by
 obtain ⟨_, h2, h3⟩ := h
 rw [List.take_length, hu] at h2 h3
 exact ⟨h2, h3⟩
theorem LeftRel.len {d : DS} {r : List (Bool × List UInt8)} {k : Int} {j : Nat} {kk : Int} {t0 t1 : List UInt8} (h : LeftRel d r k j kk t0 t1) (hu : flat r = d.u) (hok : d.Ok) : t0.length ≤ 1048576 ∧ t1.length ≤ 1048576 := by
 obtain ⟨_, h2, h3⟩ := h
 have hs : List.Sublist ((flat (r.take j)).take k.toNat) (flat r) := by
  refine (List.take_sublist _ _).trans ?_
  conv => rhs; rw [← List.take_append_drop j r, flat_append]
  exact List.sublist_append_left _ _
 have hl : ∀ f, (of f ((flat (r.take j)).take k.toNat)).length ≤ (of f d.u).length := fun f => by
  simp only [of, List.length_map]; rw [← hu]; exact (hs.filter _).length_le
 have h0 := hl false; have h1 := hl true
 have s0 := hok.s0; have s1 := hok.s1
 simp only [size, file, List.length_append] at s0 s1
 rw [h2, h3]; simp only [List.length_append]; omega
theorem Ok.u_len {d : DS} (hok : d.Ok) : d.u.length ≤ 2097152 := by
 have s0 := hok.s0; have s1 := hok.s1; have := of_length d.u
 simp only [size, file, List.length_append] at s0 s1; omega
theorem row_len {d : DS} {r : List (Bool × List UInt8)} (hu : flat r = d.u) (hok : d.Ok) {j : Nat} {f : Bool} {s : List UInt8} (hj : r[j]? = some (f, s)) : s.length ≤ 2097152 := by
 have h1 := hok.u_len
 have h2 := flat_take_le r (j + 1)
 rw [flat_take_succ hj, List.length_append, List.length_map, hu] at h2
 omega
/-- What stands in the loop of 'Size' behind j rows. -/
theorem count_zero (f : Bool) (r : List (Bool × List UInt8)) : (of f (flat (r.take 0))).length = 0 := by simp [flat, of]
theorem count_same {r : List (Bool × List UInt8)} {j : Nat} {f : Bool} {s : List UInt8} (h : r[j]? = some (f, s)) : (of f (flat (r.take (j + 1)))).length = (of f (flat (r.take j))).length + s.length := by
 rw [flat_take_succ h, of_append, of_map_same, List.length_append]
theorem count_other {r : List (Bool × List UInt8)} {j : Nat} {f g : Bool} {s : List UInt8} (h : r[j]? = some (g, s)) (hg : g ≠ f) : (of f (flat (r.take (j + 1)))).length = (of f (flat (r.take j))).length := by
 rw [flat_take_succ h, of_append, of_map_other f g s hg, List.append_nil]
theorem count_le {r : List (Bool × List UInt8)} (j : Nat) (f : Bool) : (of f (flat (r.take j))).length ≤ (of f (flat r)).length := by
 conv => rhs; rw [← List.take_append_drop j r, flat_append, of_append]
 simp
theorem base_len (d : DS) (f : Bool) (h : d.Ok) : (d.base f).length + (of f d.u).length ≤ 1048576 := by
 have s0 := h.s0; have s1 := h.s1
 simp only [size, file, List.length_append] at s0 s1
 cases f
 ·exact s0
 ·exact s1
theorem flat_len_succ {r : List (Bool × List UInt8)} {j : Nat} {f : Bool} {s : List UInt8} (h : r[j]? = some (f, s)) : (flat (r.take (j + 1))).length = (flat (r.take j)).length + s.length := by
 rw [flat_take_succ h]; simp
theorem sizeI_of (d : DS) (f : Bool) : d.sizeI (fi f) = (d.base f).length + (of f d.u).length := by
 simp [sizeI, fileNo_of, size, file]
theorem left_all (d : DS) (f : Bool) : d.left d.u.length f = d.file f := by simp [left, file]
theorem fi_of {f : Int} (h : f = 0 ∨ f = 1) : ∃ q : Bool, f = fi q := by
 rcases h with rfl | rfl
 ·exact ⟨false, rfl⟩
 ·exact ⟨true, rfl⟩
theorem goes_zero {d : DS} (h : d.armed = 0) : d.goes = false ∧ d.tick = d := by
 obtain ⟨a, b, u, n, k, dd⟩ := d
 simp only at h; subst h
 exact ⟨rfl, rfl⟩
theorem goes_pos {d : DS} (_h : 0 < d.armed) : ((d.armed : Int) - 1 == 0) = d.goes := by
 unfold goes
 by_cases h1 : d.armed = 1
 ·simp [h1]
 ·have h2 : ((d.armed : Int) - 1 == 0) = false := by simp; omega
  have h3 : (d.armed == 1) = false := by simp [h1]
  rw [h2, h3]
theorem tick_cast {d : DS} (h : 0 < d.armed) : ((d.tick.armed : Nat) : Int) = (d.armed : Int) - 1 := by simp only [tick]; omega
theorem Ok.tick {d : DS} (h : d.Ok) : d.tick.Ok := ⟨h.s0, h.s1, by have := h.armed; simp only [DS.tick]; omega, h.keep⟩
theorem Ok.die {d : DS} (h : d.Ok) (k : Nat) : (d.die k).Ok :=
 ⟨Nat.le_trans (size_die_le d k false) h.s0, Nat.le_trans (size_die_le d k true) h.s1, by simp [DS.die], h.keep⟩
theorem Ok.lay {d : DS} (h : d.Ok) (f : Bool) (s : List UInt8) (hs : d.size f + s.length ≤ 1048576) : (d.lay f s).Ok := by
 constructor
 ·rw [size_lay]; have := h.s0; cases f <;> simp <;> omega
 ·rw [size_lay]; have := h.s1; cases f <;> simp <;> omega
 ·exact h.armed
 ·exact h.keep
theorem Ok.saved {d : DS} (h : d.Ok) : d.saved.Ok := ⟨by rw [size_saved]; exact h.s0, by rw [size_saved]; exact h.s1, h.armed, h.keep⟩
theorem Ok.short {d : DS} (h : d.Ok) (f : Bool) (n : Nat) : (d.short f n).Ok := by
 have s0 := h.s0; have s1 := h.s1
 cases f
 all_goals constructor
 all_goals first
  | exact h.armed
  | exact h.keep
  | (simp [size, file, base, DS.short] at s0 s1 ⊢; omega)
theorem Ok.revive {d : DS} (h : d.Ok) : d.revive.Ok := ⟨h.s0, h.s1, by simp [DS.revive], h.keep⟩
theorem Ok.arm {d : DS} (h : d.Ok) {n k : Int} (hn : n ≤ 9223372036854775807) (hk : k ≤ 9223372036854775807) : (d.arm n k).1.Ok := by
 unfold DS.arm
 split
 ·exact h
 ·split
  ·exact h
  ·exact ⟨h.s0, h.s1, by simp; omega, by simp; omega⟩
theorem Ok.crash {d : DS} (h : d.Ok) (k : Int) : (d.crash k).1.Ok := by
 unfold DS.crash
 split
 ·exact h
 ·split
  ·exact h
  ·exact h.die _
theorem Ok.sync {d : DS} (h : d.Ok) : d.sync.1.Ok := by
 unfold DS.sync
 split
 ·exact h
 ·split
  ·exact h.tick.die _
  ·exact h.tick.saved
theorem Ok.append {d : DS} (h : d.Ok) (f : Int) (s : List UInt8) : (d.append f s).1.Ok := by
 unfold DS.append
 split
 ·exact h
 ·split
  ·exact h
  ·split
   ·exact h
   ·have := h.tick.lay _ s (by rw [size_tick]; exact Nat.le_of_not_lt ‹_›)
    split
    ·exact this.die _
    ·exact this
theorem Ok.cut {d : DS} (h : d.Ok) (f n : Int) : (d.cut f n).1.Ok := by
 unfold DS.cut
 split
 ·exact h
 ·split
  ·exact h
  ·split
   ·exact h
   ·split
    ·exact h.tick.die _
    ·exact h.tick.short _ _
theorem Ok.base_len' {d : DS} (h : d.Ok) (f : Bool) : d.size f ≤ 1048576 := by
 cases f
 ·exact h.s0
 ·exact h.s1
end DS
end Go.Proofs.YtpjpknndfhablaaGreat
namespace Go.Proofs.YtpjpknndfhablaaGreat
open Go.RowKit

def rowCells : List (Bool × List UInt8) → List Value
 | [] => []
 | (f, s) :: r => .int .i64 (DS.fi f) :: .string ⟨s.toArray⟩ :: rowCells r
theorem rowCells_length (r : List (Bool × List UInt8)) : (rowCells r).length = r.length * 2 := by
 induction r with
 | nil => rfl
 | cons x r ih => obtain ⟨f, s⟩ := x; simp [rowCells, ih]; omega
theorem rowCells_append (r s : List (Bool × List UInt8)) : rowCells (r ++ s) = rowCells r ++ rowCells s := by
 induction r with
 | nil => rfl
 | cons x r ih => obtain ⟨f, t⟩ := x; simp [rowCells, ih]
theorem rowCells_at : ∀ {r : List (Bool × List UInt8)} {j : Nat} {f : Bool} {s : List UInt8}, r[j]? = some (f, s) →
  (rowCells r)[j * 2]? = some (.int .i64 (DS.fi f)) ∧ (rowCells r)[j * 2 + 1]? = some (.string ⟨s.toArray⟩)
 | [], j, f, s, h => by simp at h
 | (g, t) :: r, 0, f, s, h => by simp at h; obtain ⟨rfl, rfl⟩ := h; simp [rowCells]
 | (g, t) :: r, j + 1, f, s, h => by
  have := rowCells_at (r := r) (j := j) (f := f) (s := s) (by simpa using h)
  rw [show (j + 1) * 2 = j * 2 + 1 + 1 by omega]
  simpa [rowCells] using this

def diskBlock (d : DS) (rs : Value) : Obj :=
 .cells #[.string ⟨d.a.toArray⟩, .string ⟨d.b.toArray⟩, rs, .int .i64 d.armed, .int .i64 d.keep, .bool d.dead] 89 (0, 0)

/-- Block b is a disk in state d; its rows are r, in the slice rs. -/
structure DiskRows (w : World) (b : Nat) (d : DS) (rs : Value) (r : List (Bool × List UInt8)) : Prop where
 blk : w.heap[b]? = some (diskBlock d rs)
 own : w.ownsRow 0 106 2 rs r.length (rowCells r)
 u : DS.flat r = d.u

theorem DiskRows.lt {w : World} {b : Nat} {d : DS} {rs : Value} {r : List (Bool × List UInt8)} (h : DiskRows w b d rs r) : b < w.heap.size := heap_lt h.blk
theorem DiskRows.slice {w : World} {b : Nat} {d : DS} {rs : Value} {r : List (Bool × List UInt8)} (h : DiskRows w b d rs r) :
  ∃ ao cap, rs = .slice ao r.length cap ∧ r.length ≤ 9223372036854775807 ∧ ∀ j f s, r[j]? = some (f, s) → ∃ g, ao = some ⟨g, 0, none⟩ ∧ g < w.heap.size ∧
   w.cell? ⟨g, j * 2, none⟩ = some (.int .i64 (DS.fi f)) ∧ w.cell? ⟨g, j * 2 + 1, none⟩ = some (.string ⟨s.toArray⟩) := by
 rcases h.own.2 with ⟨rfl, h0⟩ | ⟨g, cap, cur, rfl, _, hg, hn, hc, hcs, ht⟩
 ·refine ⟨none, 0, by rw [h0], by omega, fun j f s hj => ?_⟩
  have : r = [] := List.eq_nil_of_length_eq_zero h0
  subst this; simp at hj
 ·refine ⟨_, cap, rfl, by unfold maxLen at hc; omega, fun j f s hj => ⟨g, rfl, heap_lt hg, ?_, ?_⟩⟩
  ·have := (rowCells_at hj).1
   rw [← ht, List.getElem?_take] at this
   split at this
   ·exact cell_of hg (by simpa using this)
   ·cases this
  ·have := (rowCells_at hj).2
   rw [← ht, List.getElem?_take] at this
   split at this
   ·exact cell_of hg (by simpa using this)
   ·cases this
theorem DiskRows.cells {w : World} {b : Nat} {d : DS} {rs : Value} {r : List (Bool × List UInt8)} (h : DiskRows w b d rs r) :
  w.cell? ⟨b, 0, none⟩ = some (.string ⟨d.a.toArray⟩) ∧ w.cell? ⟨b, 1, none⟩ = some (.string ⟨d.b.toArray⟩) ∧ w.cell? ⟨b, 2, none⟩ = some rs ∧
  w.cell? ⟨b, 3, none⟩ = some (.int .i64 d.armed) ∧ w.cell? ⟨b, 4, none⟩ = some (.int .i64 d.keep) ∧ w.cell? ⟨b, 5, none⟩ = some (.bool d.dead) ∧ (∀ i, w.frozen? ⟨b, i, none⟩ = false) ∧ b < w.heap.size :=
 ⟨cell_of h.blk rfl, cell_of h.blk rfl, cell_of h.blk rfl, cell_of h.blk rfl, cell_of h.blk rfl, cell_of h.blk rfl, free_of h.blk, h.lt⟩
theorem DiskRows.rows_block {w : World} {b : Nat} {d : DS} {rs : Value} {r : List (Bool × List UInt8)} (h : DiskRows w b d rs r) : rs.ownBlock ≠ some b := by
 intro hb
 rcases h.own.2 with ⟨rfl, _⟩ | ⟨g, cap, cur, rfl, _, hg, _⟩
 ·simp [Value.ownBlock] at hb
 ·simp only [Value.ownBlock, Option.some.injEq] at hb
  subst hb
  have := h.blk; rw [hg] at this; simp [diskBlock] at this
theorem own_touch {S : Nat → Prop} {w w' : World} {base e size n : Nat} {v : Value} {xs : List Value} (h : w.ownsRow base e size v n xs) (ht : Touch S w w') (hS : ∀ k, v.ownBlock = some k → ¬ S k) : w'.ownsRow base e size v n xs := by
 refine ⟨h.1, ?_⟩
 rcases h.2 with h0 | ⟨g, cap, cur, rfl, hb, hg, rest⟩
 ·exact .inl h0
 ·exact .inr ⟨g, cap, cur, rfl, hb, (ht.block g (heap_lt hg) (hS g rfl)).trans hg, rest⟩
theorem DiskRows.touch {S : Nat → Prop} {w w' : World} {b : Nat} {d : DS} {rs : Value} {r : List (Bool × List UInt8)} (h : DiskRows w b d rs r) (ht : Touch S w w') (hb : ¬ S b) (hr : ∀ k, rs.ownBlock = some k → ¬ S k) : DiskRows w' b d rs r :=
 ⟨(ht.block b h.lt hb).trans h.blk, own_touch h.own ht hr, h.u⟩
theorem DiskRows.below {w w' : World} {b : Nat} {d : DS} {rs : Value} {r : List (Bool × List UInt8)} (h : DiskRows w b d rs r) (hb : Below w.heap.size w w') : DiskRows w' b d rs r :=
 h.touch (S := fun _ => False) (.of_below hb) (fun h => h) (fun _ _ h => h)
theorem DiskRows.drew {w : World} {b : Nat} {d : DS} {rs : Value} {r : List (Bool × List UInt8)} (h : DiskRows w b d rs r) : DiskRows w.drew b d rs r := ⟨h.blk, h.own, h.u⟩
/-- Block b is a disk in state d, of at most m rows, which lie in the block rb. -/
def DiskAt (w : World) (b : Nat) (d : DS) (m : Nat) (rb : Option Nat) : Prop := d.Ok ∧ ∃ rs r, DiskRows w b d rs r ∧ r.length ≤ m ∧ rs.ownBlock = rb
/-- What is owned later was owned before, or is new. -/
def Newer (w : World) (rb rb' : Option Nat) : Prop := ∀ k, rb' = some k → rb = some k ∨ w.heap.size ≤ k
theorem Newer.refl (w : World) (rb : Option Nat) : Newer w rb rb := fun _ h => .inl h
theorem Newer.none (w : World) (rb : Option Nat) : Newer w rb .none := fun _ h => by cases h
theorem Newer.trans {w w1 : World} {a b c : Option Nat} (h : Newer w a b) (h' : Newer w1 b c) (hs : w.heap.size ≤ w1.heap.size) : Newer w a c := fun k hk => by
 rcases h' k hk with h1 | h1
 ·exact h k h1
 ·exact .inr (Nat.le_trans hs h1)
/-- The blocks of a disk. -/
def own2 (b : Nat) (rb : Option Nat) : Nat → Prop := fun k => k = b ∨ rb = some k
theorem DiskAt.lt {w : World} {b : Nat} {d : DS} {m : Nat} {rb : Option Nat} (h : DiskAt w b d m rb) : b < w.heap.size := by
 obtain ⟨_, rs, r, h, _⟩ := h; exact h.lt
theorem DiskAt.rb_lt {w : World} {b : Nat} {d : DS} {m : Nat} {rb : Option Nat} (h : DiskAt w b d m rb) : ∀ k, rb = some k → k < w.heap.size := by
 obtain ⟨_, rs, r, h, _, rfl⟩ := h; exact fun k hk => (h.own.lt k hk).2
theorem DiskAt.touch {S : Nat → Prop} {w w' : World} {b : Nat} {d : DS} {m : Nat} {rb : Option Nat} (h : DiskAt w b d m rb) (ht : Touch S w w') (hS : ∀ k, own2 b rb k → ¬ S k) : DiskAt w' b d m rb := by
 obtain ⟨ok, rs, r, h, hm, rfl⟩ := h
 exact ⟨ok, rs, r, h.touch ht (hS b (.inl rfl)) (fun k hk => hS k (.inr hk)), hm, rfl⟩
theorem DiskAt.below {w w' : World} {b : Nat} {d : DS} {m : Nat} {rb : Option Nat} (h : DiskAt w b d m rb) (hb : Below w.heap.size w w') : DiskAt w' b d m rb :=
 h.touch (S := fun _ => False) (.of_below hb) (fun _ _ h => h)
theorem DiskAt.mono {w : World} {b : Nat} {d : DS} {m n : Nat} {rb : Option Nat} (h : DiskAt w b d m rb) (hmn : m ≤ n) : DiskAt w b d n rb := by
 obtain ⟨ok, rs, r, h, hm, e⟩ := h; exact ⟨ok, rs, r, h, Nat.le_trans hm hmn, e⟩
/-- No block of rows: there are none. -/
theorem DiskAt.fresh {w : World} {b : Nat} {d : DS} {m : Nat} (h : DiskAt w b d m none) : DiskAt w b d 0 none := by
 obtain ⟨ok, rs, r, h, _, hrb⟩ := h
 refine ⟨ok, rs, r, h, ?_, hrb⟩
 rcases h.own.2 with ⟨_, hn⟩ | ⟨g, cap, cur, rfl, _⟩
 ·omega
 ·cases hrb
end Go.Proofs.YtpjpknndfhablaaGreat
namespace Go.Proofs.YtpjpknndfhablaaGreat
open Go.RowKit

set_option maxHeartbeats 1000000 in
theorem left_any (b : Nat) (w : World) (d : DS) (rs : Value) (r : List (Bool × List UInt8)) (k : Int) (h : DiskRows w b d rs r) (hok : d.Ok) (h0 : -9223372036854775808 ≤ k) (h1 : k ≤ 9223372036854775807) :
    Calls Tryz.prog 112 #[.pointer (some ⟨b, 0, none⟩), .int .i64 k] w fun e w' =>
      e = .returned (.agg #[.string ⟨(d.left k.toNat false).toArray⟩, .string ⟨(d.left k.toNat true).toArray⟩]) ∧ Below w.heap.size w w' := by
  obtain ⟨c0, c1, c2, c3, c4, c5, cf, hlt⟩ := h.cells
  obtain ⟨ao, cap, rfl, hr, hcell⟩ := h.slice
  have HC := Lib.hid hcell
  have HU := Lib.hid h.u
  clear hcell h c3 c4 c5
  go_enter Tryz.func112, Tryz.ntmps112
  go_wp2
  go_loopw [1, 18] (fun kk i wr => ∃ (j : Nat) (k' : Int) (t0 t1 : List UInt8), kk = .int .i64 k' ∧ i = .int .i64 j ∧ j ≤ r.length ∧ -9223372036854775808 ≤ k' ∧ k' ≤ 9223372036854775807 ∧ DS.LeftRel d r k j k' t0 t1 ∧
      wr.heap[w.heap.size + 1]? = some (.cells #[.string ⟨t0.toArray⟩, .string ⟨t1.toArray⟩] 86 (0, 0)) ∧ 
      wr.heap[w.heap.size]? = some (.cells #[.string ⟨#[]⟩, .string ⟨#[]⟩] 86 (0, 0)) ∧ Below w.heap.size w wr) (fun _ i _ => r.length - (intOf i).toNat)
  case atStart =>
    refine ⟨0, k, _, _, rfl, rfl, by omega, h0, h1, DS.LeftRel.zero d r k, ?_, ?_, ?_⟩
    · have := heap_new (w.alloc (.cells #[.string ⟨#[]⟩, .string ⟨#[]⟩] 86)) (.cells #[.string ⟨d.a.toArray⟩, .string ⟨d.b.toArray⟩] 86)
      rwa [World.size_alloc] at this
    · rw [heap_alloc _ (by simp)]; exact heap_new _ _
    · go_grown
  case round =>
    obtain ⟨j, k', t0, t1, rfl, rfl, hj, hk0, hk1, hrel, hn1, hn0, hbl⟩ := hrel
    obtain ⟨b0, b1⟩ := hrel.len HU.out hok
    have d0 := cell_of hn1 (i := 0) rfl
    have d1 := cell_of hn1 (i := 1) rfl
    have e0 := free_of hn1
    have d2 := cell_of hn0 (i := 0) rfl
    have d3 := cell_of hn0 (i := 1) rfl
    have e2 := free_of hn0
    have l1 := heap_lt hn1
    have l0 := heap_lt hn0
    have HR := Lib.hid hrel
    have HN := Lib.hid hn1
    have HN0 := Lib.hid hn0
    have HB := Lib.hid hbl
    clear hrel hn1 hn0 hbl
    by_cases hlt : j < r.length
    · obtain ⟨⟨f, s⟩, hs⟩ : ∃ x, r[j]? = some x := ⟨_, List.getElem?_eq_getElem hlt⟩
      have b2 := DS.row_len HU.out hok hs
      obtain ⟨g, rfl, hg, ca, cb⟩ := HC.out j f s hs
      have HS := Lib.hid hs
      have ca' := (HB.out.cell (p := ⟨g, j * 2, none⟩) hg).trans ca
      have cb' := (HB.out.cell (p := ⟨g, j * 2 + 1, none⟩) hg).trans cb
      have hg' : g < wr.heap.size := Nat.lt_of_lt_of_le hg HB.out.size
      clear ca cb hs
      obtain ⟨m, hm, hm'⟩ : ∃ m : Nat, (m : Int) = min (max 0 k') s.length ∧ ((k' ≤ 0 ∧ m = 0) ∨ (0 < k' ∧ k' ≤ s.length ∧ m = k'.toNat) ∨ (0 < k' ∧ (s.length : Int) < k' ∧ m = s.length)) := ⟨(min (max 0 k') s.length).toNat, by omega, by omega⟩
      have HX := Lib.hid (HR.out.step HS.out hm)
      clear hm
      rcases hm' with ⟨hk, rfl⟩ | ⟨hk, hk', rfl⟩ | ⟨hk, hk', rfl⟩
      all_goals cases f
      all_goals simp only [DS.fi, Bool.false_eq_true, if_true, if_false] at ca'
      all_goals go_wp2
      all_goals go_region
      all_goals go_wp2
      all_goals go_roundw
      all_goals first
        | (simp [intOf]; omega)
        | (refine ⟨j + 1, _, _, _, ?_, by go_num, by omega, ?_, ?_, HX.out, ?_, ?_, ?_⟩
           · go_num
           · omega
           · omega
           · rw [heap_drew, heap_alloc _ (by simpa using l1), heap_set _ HN.out]; simp [bytes_extract, bytes_append, -List.append_toArray]
           · rw [heap_drew, heap_alloc _ (by simpa using l0), heap_set_ne _ (by omega)]; exact HN0.out
           · have hb := HB.out
             go_grown)
    · obtain rfl : j = r.length := by omega
      have HX := Lib.hid (HR.out.done HU.out)
      go_wp2
      have hx := heap_set (i := 1) (.string ⟨t1.toArray⟩) (heap_set (i := 0) (.string ⟨t0.toArray⟩) HN0.out)
      have x0 := cell_of hx (i := 0) rfl
      have x1 := cell_of hx (i := 1) rfl
      refine bodyPost_ret (v := .agg #[.string ⟨t0.toArray⟩, .string ⟨t1.toArray⟩]) (by simp [results, Tryz.results112, go_sem, x0, x1]) rfl ⟨?_, ?_⟩
      · rw [HX.out.1, HX.out.2]
      · have hb := HB.out
        go_grown
end Go.Proofs.YtpjpknndfhablaaGreat
namespace Go.Proofs.YtpjpknndfhablaaGreat
open Go.RowKit

set_option maxHeartbeats 1000000 in
theorem waiting_any (b : Nat) (w : World) (d : DS) (rs : Value) (r : List (Bool × List UInt8)) (h : DiskRows w b d rs r) (hok : d.Ok) :
    Calls Tryz.prog 113 #[.pointer (some ⟨b, 0, none⟩)] w fun e w' => e = .returned (.int .i64 d.u.length) ∧ Below w.heap.size w w' := by
  obtain ⟨c0, c1, c2, c3, c4, c5, cf, hlt⟩ := h.cells
  obtain ⟨ao, cap, rfl, hr, hcell⟩ := h.slice
  have HC := Lib.hid hcell
  have HU := Lib.hid h.u
  have hul := hok.u_len
  clear hcell h c0 c1 c3 c4 c5
  go_enter Tryz.func113, Tryz.ntmps113
  go_wp2
  go_loopw [3, 11] (fun n i wr => ∃ (j m : Nat), n = .int .i64 m ∧ i = .int .i64 j ∧ j ≤ r.length ∧ m = (DS.flat (r.take j)).length ∧ Below w.heap.size w wr) (fun _ i _ => r.length - (intOf i).toNat)
  case atStart => exact ⟨0, 0, rfl, rfl, by omega, by simp [DS.flat], Below.refl _ _⟩
  case round =>
    obtain ⟨j, m, rfl, rfl, hj, hm, hbl⟩ := hrel
    have hml := DS.flat_take_le r j
    rw [HU.out, ← hm] at hml
    have HM := Lib.hid hm
    have HB := Lib.hid hbl
    clear hm hbl
    by_cases hlt : j < r.length
    · obtain ⟨⟨f, s⟩, hs⟩ : ∃ x, r[j]? = some x := ⟨_, List.getElem?_eq_getElem hlt⟩
      have b2 := DS.row_len HU.out hok hs
      obtain ⟨g, rfl, hg, ca, cb⟩ := HC.out j f s hs
      have HS := Lib.hid hs
      have ca' := (HB.out.cell (p := ⟨g, j * 2, none⟩) hg).trans ca
      have cb' := (HB.out.cell (p := ⟨g, j * 2 + 1, none⟩) hg).trans cb
      have hg' : g < wr.heap.size := Nat.lt_of_lt_of_le hg HB.out.size
      clear ca cb hs
      go_wp2
      go_roundw
      case rel =>
        refine ⟨j + 1, m + s.length, by go_num, by go_num, by omega, by rw [DS.flat_len_succ HS.out, HM.out], ?_⟩
        have hb := HB.out
        have hbs := hb.size
        go_grown
      case measure => simp [intOf]; omega
    · obtain rfl : j = r.length := by omega
      have HX : Hid (m = d.u.length) := by rw [HM.out, List.take_length, HU.out]; exact rfl
      go_wp2
      go_ret
      exact ⟨ret_int (by rw [HX.out]), HB.out⟩

set_option maxHeartbeats 1000000 in
theorem all_any (b : Nat) (w : World) (d : DS) (rs : Value) (r : List (Bool × List UInt8)) (h : DiskRows w b d rs r) (hok : d.Ok) :
    Calls Tryz.prog 55 #[.pointer (some ⟨b, 0, none⟩)] w fun e w' =>
      e = .returned (.agg #[.string ⟨(d.file false).toArray⟩, .string ⟨(d.file true).toArray⟩]) ∧ Below w.heap.size w w' := by
  have hul := hok.u_len
  have H := Lib.hid h
  clear h
  go_enter Tryz.func55, Tryz.ntmps55
  go_wp2_with fail
  refine (waiting_any b _ d rs r (H.out.below (by go_grown)) hok).mono ?_
  rintro e w1 ⟨rfl, hb1⟩
  go_wp2_with fail
  refine (left_any b _ d rs r _ ((H.out.below (by go_grown)).below hb1) hok (by omega) (by omega)).mono ?_
  rintro e w2 ⟨rfl, hb2⟩
  have n2 := stays (stays (heap_new w _) hb1) hb2
  obtain ⟨x0, x1, xf, xl⟩ := cells2 n2
  have N2 := Lib.hid n2
  clear n2
  go_wp2
  have hx := heap_set (i := 1) (.string ⟨(d.file true).toArray⟩) (heap_set (i := 0) (.string ⟨(d.file false).toArray⟩) N2.out)
  obtain ⟨y0, y1, _, _⟩ := cells2 hx
  have hb := bthen (bthen (balloc w _) hb1) hb2
  refine bodyPost_ret (v := .agg #[.string ⟨(d.file false).toArray⟩, .string ⟨(d.file true).toArray⟩]) (by simp [results, Tryz.results55, go_sem, DS.left_all, y0, y1]) rfl ⟨rfl, ?_⟩
  go_grown

set_option maxHeartbeats 1000000 in
theorem size_any (b : Nat) (w : World) (d : DS) (rs : Value) (r : List (Bool × List UInt8)) (f : Int) (h : DiskRows w b d rs r) (hok : d.Ok) :
    Calls Tryz.prog 85 #[.pointer (some ⟨b, 0, none⟩), .int .i64 f] w fun e w' => e = .returned (.int .i64 (d.sizeI f)) ∧ Below w.heap.size w w' := by
  by_cases hf : f = 0 ∨ f = 1
  · obtain ⟨q, rfl⟩ := DS.fi_of hf
    obtain ⟨c0, c1, c2, c3, c4, c5, cf, hlt⟩ := h.cells
    obtain ⟨ao, cap, rfl, hr, hcell⟩ := h.slice
    have HC := Lib.hid hcell
    have HU := Lib.hid h.u
    have hbl := d.base_len q hok
    have hq : (d.base q).length ≤ 1048576 := by omega
    have hcq : w.cell? ⟨b, q.toNat, none⟩ = some (.string ⟨(d.base q).toArray⟩) := by
      cases q
      · exact c0
      · exact c1
    clear hcell h c0 c1 c3 c4 c5 hf
    rw [DS.sizeI_of]
    go_enter Tryz.func85, Tryz.ntmps85
    cases q
    all_goals simp only [DS.fi, Bool.false_eq_true, if_true, if_false, Bool.toNat_true, Bool.toNat_false] at hcq ⊢
    all_goals go_wp2
    · go_loopw [5, 26] (fun n i wr => ∃ (j m : Nat), n = .int .i64 m ∧ i = .int .i64 j ∧ j ≤ r.length ∧ m = (d.base false).length + (DS.of false (DS.flat (r.take j))).length ∧ Below w.heap.size w wr) (fun _ i _ => r.length - (intOf i).toNat)
      case atStart => exact ⟨0, _, rfl, rfl, by omega, by rw [DS.count_zero]; rfl, Below.refl _ _⟩
      case round =>
        obtain ⟨j, m, rfl, rfl, hj, hm, hbl⟩ := hrel
        have hml := DS.count_le (r := r) j false
        rw [HU.out] at hml
        have hm2 : m ≤ 1048576 := by omega
        have HM := Lib.hid hm
        have HB := Lib.hid hbl
        clear hm hbl hml
        by_cases hlt : j < r.length
        · obtain ⟨⟨f, s⟩, hs⟩ : ∃ x, r[j]? = some x := ⟨_, List.getElem?_eq_getElem hlt⟩
          have b2 := DS.row_len HU.out hok hs
          obtain ⟨g, rfl, hg, ca, cb⟩ := HC.out j f s hs
          have HS := Lib.hid hs
          have ca' := (HB.out.cell (p := ⟨g, j * 2, none⟩) hg).trans ca
          have cb' := (HB.out.cell (p := ⟨g, j * 2 + 1, none⟩) hg).trans cb
          have hg' : g < wr.heap.size := Nat.lt_of_lt_of_le hg HB.out.size
          clear ca cb hs
          cases f
          all_goals simp only [DS.fi, Bool.false_eq_true, if_true, if_false] at ca'
          all_goals go_wp2
          all_goals go_roundw
          all_goals first
            | (simp [intOf]; omega)
            | (refine ⟨j + 1, m + s.length, by go_num, by go_num, by omega, by rw [DS.count_same HS.out, HM.out]; omega, ?_⟩
               have hb := HB.out
               have hbs := hb.size
               go_grown)
            | (refine ⟨j + 1, m, by go_num, by go_num, by omega, by rw [DS.count_other HS.out (by decide), HM.out], ?_⟩
               have hb := HB.out
               have hbs := hb.size
               go_grown)
        · obtain rfl : j = r.length := by omega
          have HX : Hid (m = (d.base false).length + (DS.of false d.u).length) := by rw [HM.out, List.take_length, HU.out]; exact rfl
          go_wp2
          go_ret
          exact ⟨ret_int (by rw [HX.out]; omega), HB.out⟩
    · go_loopw [5, 26] (fun n i wr => ∃ (j m : Nat), n = .int .i64 m ∧ i = .int .i64 j ∧ j ≤ r.length ∧ m = (d.base true).length + (DS.of true (DS.flat (r.take j))).length ∧ Below w.heap.size w wr) (fun _ i _ => r.length - (intOf i).toNat)
      case atStart => exact ⟨0, _, rfl, rfl, by omega, by rw [DS.count_zero]; rfl, Below.refl _ _⟩
      case round =>
        obtain ⟨j, m, rfl, rfl, hj, hm, hbl⟩ := hrel
        have hml := DS.count_le (r := r) j true
        rw [HU.out] at hml
        have hm2 : m ≤ 1048576 := by omega
        have HM := Lib.hid hm
        have HB := Lib.hid hbl
        clear hm hbl hml
        by_cases hlt : j < r.length
        · obtain ⟨⟨f, s⟩, hs⟩ : ∃ x, r[j]? = some x := ⟨_, List.getElem?_eq_getElem hlt⟩
          have b2 := DS.row_len HU.out hok hs
          obtain ⟨g, rfl, hg, ca, cb⟩ := HC.out j f s hs
          have HS := Lib.hid hs
          have ca' := (HB.out.cell (p := ⟨g, j * 2, none⟩) hg).trans ca
          have cb' := (HB.out.cell (p := ⟨g, j * 2 + 1, none⟩) hg).trans cb
          have hg' : g < wr.heap.size := Nat.lt_of_lt_of_le hg HB.out.size
          clear ca cb hs
          cases f
          all_goals simp only [DS.fi, Bool.false_eq_true, if_true, if_false] at ca'
          all_goals go_wp2
          all_goals go_roundw
          all_goals first
            | (simp [intOf]; omega)
            | (refine ⟨j + 1, m + s.length, by go_num, by go_num, by omega, by rw [DS.count_same HS.out, HM.out]; omega, ?_⟩
               have hb := HB.out
               have hbs := hb.size
               go_grown)
            | (refine ⟨j + 1, m, by go_num, by go_num, by omega, by rw [DS.count_other HS.out (by decide), HM.out], ?_⟩
               have hb := HB.out
               have hbs := hb.size
               go_grown)
        · obtain rfl : j = r.length := by omega
          have HX : Hid (m = (d.base true).length + (DS.of true d.u).length) := by rw [HM.out, List.take_length, HU.out]; exact rfl
          go_wp2
          go_ret
          exact ⟨ret_int (by rw [HX.out]; omega), HB.out⟩
  · have hf' : f < 0 ∨ 2 ≤ f := by omega
    have HX : Hid (d.sizeI f = -1) := by unfold DS.sizeI; rw [DS.fileNo_none hf]; exact rfl
    clear hf h
    go_enter Tryz.func85, Tryz.ntmps85
    rcases hf' with hf | hf
    all_goals go_wp2
    all_goals go_ret
    all_goals exact ⟨ret_int (by rw [HX.out]), Below.refl _ _⟩
end Go.Proofs.YtpjpknndfhablaaGreat
namespace Go.Proofs.YtpjpknndfhablaaGreat
open Go.RowKit

set_option maxHeartbeats 1000000 in
theorem goes_any (b : Nat) (w : World) (d : DS) (rs : Value) (r : List (Bool × List UInt8)) (h : DiskRows w b d rs r) (hok : d.Ok) :
  Calls Tryz.prog 150 #[.pointer (some ⟨b, 0, none⟩)] w fun e w' => e = .returned (.bool d.goes) ∧ DiskRows w' b d.tick rs r ∧ Touch (· = b) w w' := by
 obtain ⟨c0, c1, c2, c3, c4, c5, cf, hlt⟩ := h.cells
 have H := Lib.hid h
 have ha := hok.armed
 clear h c0 c1 c2 c4 c5 hok
 by_cases h0 : d.armed = 0
 ·have HX := Lib.hid (DS.goes_zero h0)
  have hz : ((d.armed : Int) == 0) = true := by simp [h0]
  clear h0
  go_enter Tryz.func150, Tryz.ntmps150
  go_wp2
  go_ret
  exact ⟨ret_bool (by rw [HX.out.1]), by rw [HX.out.2]; exact H.out, Touch.refl _ _⟩
 ·have hz : ((d.armed : Int) == 0) = false := by simp [h0]
  have hp : 0 < d.armed := by omega
  have x3 := World.cell?_setCell_same w ⟨b, 3, none⟩ (.int .i64 ((d.armed : Int) - 1)) c3
  clear h0
  go_enter Tryz.func150, Tryz.ntmps150
  go_wp2
  go_ret
  refine ⟨ret_bool ?_, ⟨?_, ?_, ?_⟩, (Touch.refl _ _).setCell _ (fun _ => rfl)⟩
  ·exact DS.goes_pos hp
  ·rw [heap_set _ H.out.blk, diskBlock, DS.tick_cast hp]; simp [DS.tick]
  ·exact own_touch H.out.own ((Touch.refl (· = b) w).setCell _ (fun _ => rfl)) (fun k hk => fun e => H.out.rows_block (by rw [hk, e]))
  ·exact H.out.u

set_option maxHeartbeats 1000000 in
theorem dies_any (b : Nat) (w : World) (d : DS) (rs : Value) (r : List (Bool × List UInt8)) (k : Int) (h : DiskRows w b d rs r) (hok : d.Ok) (h0 : -9223372036854775808 ≤ k) (h1 : k ≤ 9223372036854775807) :
  Calls Tryz.prog 70 #[.pointer (some ⟨b, 0, none⟩), .int .i64 k] w fun e w' => e = .returned (.tuple #[]) ∧ DiskRows w' b (d.die k.toNat) (.slice none 0 0) [] ∧ Touch (· = b) w w' := by
 have H := Lib.hid h
 clear h
 go_enter Tryz.func70, Tryz.ntmps70
 go_wp2_with fail
 refine (left_any b _ d rs r k H.out hok h0 h1).mono ?_
 rintro e w1 ⟨rfl, hb⟩
 have h1 := H.out.below hb
 obtain ⟨c0, c1, c2, c3, c4, c5, cf, hlt⟩ := h1.cells
 have H1 := Lib.hid h1
 have HB := Lib.hid hb
 clear h1 hb
 go_wp2
 go_end0
 refine ⟨rfl, ⟨?_, ?_, ?_⟩, ?_⟩
 ·rw [heap_set _ (heap_set _ (heap_set _ (heap_set _ (heap_set _ H1.out.blk))))]; simp [diskBlock, DS.die]
 ·exact World.ownsRow_nil _ _ _ _
 ·rfl
 ·refine Touch.setCell (Touch.setCell (Touch.setCell (Touch.setCell (Touch.setCell (Touch.of_below HB.out) _ ?_) _ ?_) _ ?_) _ ?_) _ ?_
  all_goals exact fun _ => rfl

set_option maxHeartbeats 1000000 in
theorem dead_any (b : Nat) (w : World) (d : DS) (m : Nat) (rb : Option Nat) (h : DiskAt w b d m rb) :
  Calls Tryz.prog 30 #[.pointer (some ⟨b, 0, none⟩)] w fun e w' => e = .returned (.bool d.dead) ∧ w = w' := by
 obtain ⟨hok, rs, r, h, hm, rfl⟩ := h
 obtain ⟨c0, c1, c2, c3, c4, c5, cf, hlt⟩ := h.cells
 clear h c0 c1 c2 c3 c4 hok
 go_enter Tryz.func30, Tryz.ntmps30
 go_wp2
 go_ret
 exact ⟨rfl, rfl⟩

set_option maxHeartbeats 1000000 in
theorem revive_any (b : Nat) (w : World) (d : DS) (m : Nat) (rb : Option Nat) (h : DiskAt w b d m rb) :
  Calls Tryz.prog 32 #[.pointer (some ⟨b, 0, none⟩)] w fun e w' => e = .returned (.tuple #[]) ∧ DiskAt w' b d.revive m rb ∧ Touch (own2 b rb) w w' := by
 obtain ⟨hok, rs, r, h, hm, rfl⟩ := h
 obtain ⟨c0, c1, c2, c3, c4, c5, cf, hlt⟩ := h.cells
 have H := Lib.hid h
 clear h c0 c1 c2 c4
 go_enter Tryz.func32, Tryz.ntmps32
 go_wp2
 go_end0
 have ht := ((Touch.refl (· = b) w).setCell (a := ⟨b, 5, none⟩) (.bool false) (fun _ => rfl)).setCell (a := ⟨b, 3, none⟩) (.int .i64 0) (fun _ => rfl)
 refine ⟨rfl, ⟨hok.revive, rs, r, ⟨?_, ?_, H.out.u⟩, hm, rfl⟩, ht.mono (fun k _ h => .inl h)⟩
 ·rw [heap_set _ (heap_set _ H.out.blk)]; simp [DS.revive, diskBlock]
 ·exact own_touch H.out.own ht (fun k hk => fun e => H.out.rows_block (by rw [hk, e]))

set_option maxHeartbeats 1000000 in
theorem arm_any (b : Nat) (w : World) (d : DS) (m : Nat) (rb : Option Nat) (n k : Int) (h : DiskAt w b d m rb) (hn : n ≤ 9223372036854775807) (hk : k ≤ 9223372036854775807) :
  Calls Tryz.prog 28 #[.pointer (some ⟨b, 0, none⟩), .int .i64 n, .int .i64 k] w fun e w' => e = .returned (.int .i64 (d.arm n k).2) ∧ DiskAt w' b (d.arm n k).1 m rb ∧ Touch (own2 b rb) w w' := by
 have hok' := h.1.arm hn hk
 obtain ⟨hok, rs, r, h, hm, rfl⟩ := h
 obtain ⟨c0, c1, c2, c3, c4, c5, cf, hlt⟩ := h.cells
 have H := Lib.hid h
 clear h c0 c1 c2
 cases hd : d.dead
 ·rw [hd] at c5
  by_cases h0 : n < 0 ∨ k < 0
  ·have HX : Hid (d.arm n k = (d, 1)) := by unfold DS.arm; rw [if_neg (by simp [hd]), if_pos h0]; exact rfl
   clear hd
   go_enter Tryz.func28, Tryz.ntmps28
   rcases h0 with h0 | h0
   all_goals go_wp2
   all_goals go_ret
   all_goals exact ⟨ret_int (by rw [HX.out]), by rw [HX.out]; exact ⟨hok, rs, r, H.out, hm, rfl⟩, Touch.refl _ _⟩
  ·have HX : Hid (d.arm n k = ({ d with armed := n.toNat, keep := k.toNat }, 0)) := by unfold DS.arm; rw [if_neg (by simp [hd]), if_neg h0]; exact rfl
   have hn0 : 0 ≤ n := by omega
   have hk0 : 0 ≤ k := by omega
   clear hd h0
   go_enter Tryz.func28, Tryz.ntmps28
   go_wp2
   go_ret
   have ht := ((Touch.refl (· = b) w).setCell (a := ⟨b, 3, none⟩) (.int .i64 n) (fun _ => rfl)).setCell (a := ⟨b, 4, none⟩) (.int .i64 k) (fun _ => rfl)
   refine ⟨ret_int (by rw [HX.out]), ?_, ht.mono (fun k _ h => .inl h)⟩
   rw [HX.out] at hok' ⊢
   refine ⟨hok', rs, r, ⟨?_, ?_, H.out.u⟩, hm, rfl⟩
   ·rw [heap_set _ (heap_set _ H.out.blk)]; simp [diskBlock, Int.toNat_of_nonneg hn0, Int.toNat_of_nonneg hk0]
   ·exact own_touch H.out.own ht (fun k hk => fun e => H.out.rows_block (by rw [hk, e]))
 ·rw [hd] at c5
  have HX : Hid (d.arm n k = (d, 2)) := by unfold DS.arm; rw [if_pos hd]; exact rfl
  clear hd
  go_enter Tryz.func28, Tryz.ntmps28
  go_wp2
  go_ret
  exact ⟨ret_int (by rw [HX.out]), by rw [HX.out]; exact ⟨hok, rs, r, H.out, hm, rfl⟩, Touch.refl _ _⟩

set_option maxHeartbeats 1000000 in
theorem crash_anyN (b : Nat) (w : World) (d : DS) (m : Nat) (rb : Option Nat) (k : Int) (h : DiskAt w b d m rb) (hk : k ≤ 9223372036854775807) :
  Calls Tryz.prog 31 #[.pointer (some ⟨b, 0, none⟩), .int .i64 k] w fun e w' => e = .returned (.int .i64 (d.crash k).2) ∧
   ∃ rb', DiskAt w' b (d.crash k).1 m rb' ∧ Newer w rb rb' ∧ Touch (own2 b rb) w w' ∧ ((d.crash k).1.dead = true → d.dead = false → rb' = none) := by
 have hok' := h.1.crash k
 obtain ⟨hok, rs, r, h, hm, rfl⟩ := h
 obtain ⟨c0, c1, c2, c3, c4, c5, cf, hlt⟩ := h.cells
 have H := Lib.hid h
 clear h c0 c1 c2
 cases hd : d.dead
 ·rw [hd] at c5
  have HD9 := Lib.hid hd
  by_cases h0 : k < 0
  ·have HX : Hid (d.crash k = (d, 1)) := by unfold DS.crash; rw [if_neg (by simp [hd]), if_pos h0]; exact rfl
   clear hd
   go_enter Tryz.func31, Tryz.ntmps31
   go_wp2
   go_ret
   exact ⟨ret_int (by rw [HX.out]), rs.ownBlock, by rw [HX.out]; exact ⟨hok, rs, r, H.out, hm, rfl⟩, Newer.refl _ _, Touch.refl _ _, fun h1 h2 => by first | (cases h2; done) | (rw [HX.out] at h1; have h3 : d.dead = true := h1; rw [HD9.out] at h3; cases h3)⟩
  ·have HX : Hid (d.crash k = (d.die k.toNat, 0)) := by unfold DS.crash; rw [if_neg (by simp [hd]), if_neg h0]; exact rfl
   have hk0 : 0 ≤ k := by omega
   clear hd h0
   go_enter Tryz.func31, Tryz.ntmps31
   go_wp2_with fail
   refine (dies_any b w d rs r k H.out hok (by omega) hk).mono ?_
   rintro e w1 ⟨rfl, hr, ht⟩
   have HR := Lib.hid hr
   have HT := Lib.hid ht
   clear hr ht
   go_wp2
   go_ret
   refine ⟨ret_int (by rw [HX.out]), none, ?_, Newer.none _ _, HT.out.mono (fun k _ h => .inl h), fun _ _ => rfl⟩
   rw [HX.out] at hok' ⊢
   exact ⟨hok', _, [], HR.out, Nat.zero_le _, rfl⟩
 ·rw [hd] at c5
  have HD9 := Lib.hid hd
  have HX : Hid (d.crash k = (d, 2)) := by unfold DS.crash; rw [if_pos hd]; exact rfl
  clear hd
  go_enter Tryz.func31, Tryz.ntmps31
  go_wp2
  go_ret
  exact ⟨ret_int (by rw [HX.out]), rs.ownBlock, by rw [HX.out]; exact ⟨hok, rs, r, H.out, hm, rfl⟩, Newer.refl _ _, Touch.refl _ _, fun h1 h2 => by first | (cases h2; done) | (rw [HX.out] at h1; have h3 : d.dead = true := h1; rw [HD9.out] at h3; cases h3)⟩
set_option maxHeartbeats 1000000 in
theorem sync_anyN (b : Nat) (w : World) (d : DS) (m : Nat) (rb : Option Nat) (h : DiskAt w b d m rb) :
  Calls Tryz.prog 139 #[.pointer (some ⟨b, 0, none⟩)] w fun e w' => e = .returned (.int .i64 d.sync.2) ∧
   ∃ rb', DiskAt w' b d.sync.1 m rb' ∧ Newer w rb rb' ∧ Touch (own2 b rb) w w' ∧ (d.dead = false → rb' = none) := by
 have hok' := h.1.sync
 obtain ⟨hok, rs, r, h, hm, rfl⟩ := h
 obtain ⟨c0, c1, c2, c3, c4, c5, cf, hlt⟩ := h.cells
 have H := Lib.hid h
 clear h c0 c1 c2 c3 c4
 cases hd : d.dead
 ·rw [hd] at c5
  have HD9 := Lib.hid hd
  have hdt : d.tick.dead = false := hd
  go_enter Tryz.func139, Tryz.ntmps139
  cases hg : d.goes
  ·have HX : Hid (d.sync = (d.tick.saved, 0)) := by unfold DS.sync; rw [if_neg (by simp [hd]), if_neg (by simp [hg])]; exact rfl
   clear hd
   go_wp2_with fail
   refine (goes_any b w d rs r H.out hok).mono ?_
   rintro e w1 ⟨rfl, hr, ht⟩
   rw [hg]
   have HR := Lib.hid hr
   have HT := Lib.hid ht
   clear hr ht hg
   go_wp2_with fail
   refine (all_any b w1 d.tick rs r HR.out hok.tick).mono ?_
   rintro e w2 ⟨rfl, hb⟩
   have h2 := HR.out.below hb
   obtain ⟨c0, c1, c2, c3, c4, c5, cf, hlt⟩ := h2.cells
   have H2 := Lib.hid h2
   have HB := Lib.hid hb
   clear h2 hb c3 c4
   go_wp2
   go_ret
   refine ⟨ret_int (by rw [HX.out]), none, ?_, Newer.none _ _, ?_, fun _ => rfl⟩
   ·rw [HX.out] at hok' ⊢
    refine ⟨hok', .slice none 0 0, [], ⟨?_, World.ownsRow_nil _ _ _ _, rfl⟩, Nat.zero_le _, rfl⟩
    rw [heap_set _ (heap_set _ (heap_set _ H2.out.blk))]; simp [diskBlock, DS.saved]
   ·refine Touch.setCell (Touch.setCell (Touch.setCell (Touch.trans (HT.out.mono (T := own2 b rs.ownBlock) (fun k _ h => .inl h)) (Touch.of_below (S := fun _ => False) HB.out) (fun _ _ h => h.elim)) _ ?_) _ ?_) _ ?_
    all_goals exact fun _ => .inl rfl
  ·have HX : Hid (d.sync = (d.tick.die d.keep, 2)) := by unfold DS.sync; rw [if_neg (by simp [hd]), if_pos hg]; exact rfl
   have hkp := hok.keep
   clear hd
   go_wp2_with fail
   refine (goes_any b w d rs r H.out hok).mono ?_
   rintro e w1 ⟨rfl, hr, ht⟩
   rw [hg]
   obtain ⟨c0, c1, c2, c3, c4, c5, cf, hlt⟩ := hr.cells
   have HR := Lib.hid hr
   have HT := Lib.hid ht
   clear hr ht hg c0 c1 c2 c3
   go_wp2_with fail
   refine (dies_any b w1 d.tick rs r d.keep HR.out hok.tick (by omega) (by omega)).mono ?_
   rintro e w2 ⟨rfl, hr2, ht2⟩
   have HR2 := Lib.hid hr2
   have HT2 := Lib.hid ht2
   clear hr2 ht2 c4 c5 cf
   go_wp2
   go_ret
   refine ⟨ret_int (by rw [HX.out]), none, ?_, Newer.none _ _, ?_, fun _ => rfl⟩
   ·rw [HX.out] at hok' ⊢
    exact ⟨hok', _, [], HR2.out, Nat.zero_le _, rfl⟩
   ·exact Touch.trans (HT.out.mono (T := own2 b rs.ownBlock) (fun k _ h => .inl h)) HT2.out (fun k _ h => .inl h)
 ·rw [hd] at c5
  have HD9 := Lib.hid hd
  have HX : Hid (d.sync = (d, 2)) := by unfold DS.sync; rw [if_pos hd]; exact rfl
  clear hd
  go_enter Tryz.func139, Tryz.ntmps139
  go_wp2
  go_ret
  exact ⟨ret_int (by rw [HX.out]), rs.ownBlock, by rw [HX.out]; exact ⟨hok, rs, r, H.out, hm, rfl⟩, Newer.refl _ _, Touch.refl _ _, fun h2 => by cases h2⟩
end Go.Proofs.YtpjpknndfhablaaGreat
namespace Go.Proofs.YtpjpknndfhablaaGreat
open Go.RowKit
section
variable {P : Program} (w : World)

theorem run_append_own2 (base : Nat) (t ty e : TypeId) (i : TypeInfo) (z : Value) (size bytes : Nat) (ht : P.underlying t = some (.slice e)) (hi : P.info? e = some i) (hz : i.zero = some z)
  (hsize : i.size = size) (hby : i.bytes = bytes) (hzs : z.cells.size = size) (hsz : 0 < size)
  (v : Value) (n : Nat) (xs : List Value) (hown : w.ownsRow base e size v n xs)
  (a : Addr) (m c : Nat) (news : List Value) (hl : news.length = m * size) (hnews : ∀ j u, news[j]? = some u → w.cell? (a.add j) = some u) (h1 : ∀ u ∈ news, u.oneCell' = true)
  (h63 : n + m ≤ maxLen) (hbytes : (n + m) * bytes ≤ 140737488355328) (hbase : base ≤ w.heap.size) :
  ∃ v' w', (Builtin.append_ #[t, t] ty #[v, .slice (some a) m c]).run P w = .ok v' w' ∧ w'.ownsRow base e size v' (n + m) (xs ++ news) ∧ w.grownBy w' v.ownBlock ∧
   (v'.ownBlock = v.ownBlock ∨ v'.ownBlock = some w.heap.size) := by
 obtain ⟨v', w', hr, ho, hg, _⟩ := run_append_own (P := P) w base t ty e i z size bytes ht hi hz hsize hby hzs hsz v n xs hown a m c news hl hnews h1 h63 hbytes hbase
 refine ⟨v', w', hr, ho, hg, ?_⟩
 subst hsize; subst hby
 have h63' : ((n + m : Nat) : Int) ≤ 9223372036854775807 := by unfold maxLen at h63; omega
 rcases hown.2 with ⟨rfl, rfl⟩ | ⟨g, cap, cur, rfl, hbg, hgg, hnc, hcm, hcs, htake⟩
 ·rcases Nat.eq_zero_or_pos m with rfl | hm
  ·rcases ho.2 with ⟨rfl, _⟩ | ⟨g', cap', cur', rfl, _, hg', hrest⟩
   ·exact .inl rfl
   ·have hnil : news = [] := List.eq_nil_of_length_eq_zero (by simpa using hl)
    subst hnil
    have : (Builtin.append_ #[t, t] ty #[.slice none 0 0, .slice (some a) 0 c]).run P w = .ok (.slice none 0 0) w := by
     simp [Builtin.append_, run_underlying ht, sizeOf, typeInfo, hi, Builtin.lenOf, Builtin.firstCells, loadCells, loadCellsFrom]
    rw [this] at hr
    simp at hr
  ·have h2 := run_append_nil (P := P) w t ty e i z ht hi hz a m c news hl hnews hm (by omega) (by simp only [Nat.zero_add] at hbytes; omega)
   rw [h2] at hr
   simp only [Result.ok.injEq] at hr
   obtain ⟨rfl, _⟩ := hr
   exact .inr rfl
 ·by_cases hroom : n + m ≤ cap
  ·have hfit : n * i.size + news.length ≤ cur.size := by rw [hl, hcs, ← Nat.add_mul]; exact Nat.mul_le_mul_right _ hroom
   have h2 := run_append_room (P := P) w t ty e i ht hi g n cap cur hgg a m c news hl hnews h1 hroom hfit
   rw [h2] at hr
   simp only [Result.ok.injEq] at hr
   obtain ⟨rfl, _⟩ := hr
   exact .inl rfl
  ·have h2 := run_append_grow (P := P) w t ty e i z ht hi hz ⟨g, 0, none⟩ n cap xs hown.1 (hown.cells (g := g) rfl) a m c news hl hnews (by omega) h63' (growslice_fits (by omega) hbytes)
   rw [h2] at hr
   simp only [Result.ok.injEq] at hr
   obtain ⟨rfl, _⟩ := hr
   exact .inr rfl

theorem wp_append_own2 {o : Oper} {a : Act} {K : Act → World → Prop} {Q : Exit → Act → World → Prop} (s x : Operand) (t : TypeId)
  (ho : o.op = .call { callee := .builtin .append, args := #[s, x], argTypes := #[t, t] })
  (base : Nat) (e : TypeId) (size bytes : Nat) (z : Value) (hinfo : (P.info? e).map (fun i => (i.zero, i.size, i.bytes)) = some (some z, size, bytes)) (ht : P.underlying t = some (.slice e)) (hzs : z.cells.size = size) (hsz : 0 < size)
  (v : Value) (n : Nat) (xs : List Value) (hs : a.eval s = v) (hown : w.ownsRow base e size v n xs)
  (ad : Addr) (m c : Nat) (news : List Value) (hx : a.eval x = .slice (some ad) m c) (hl : news.length = m * size) (hnews : ∀ j u, news[j]? = some u → w.cell? (ad.add j) = some u) (h1 : ∀ u ∈ news, u.oneCell' = true)
  (h63 : n + m ≤ maxLen) (hbytes : (n + m) * bytes ≤ 140737488355328) (hbase : base ≤ w.heap.size)
  (h : ∀ v' w', w'.ownsRow base e size v' (n + m) (xs ++ news) → w.grownBy w' v.ownBlock → (v'.ownBlock = v.ownBlock ∨ v'.ownBlock = some w.heap.size) → K (a.put o.dst v') w') : o.wp P a w K Q := by
 obtain ⟨i, hi, hz, hsize, hby⟩ := info_parts hinfo
 obtain ⟨v', w', hr, h2, h3, h4⟩ := run_append_own2 (P := P) w base t o.type e i z size bytes ht hi hz hsize hby hzs hsz v n xs hown ad m c news hl hnews h1 h63 hbytes hbase
 unfold Oper.wp execOp
 simp only [ho, resolve, invoke, builtin, Sem.run_bind, Sem.run_pure, Result.andThen_ok, List.map_toArray, List.map_cons, List.map_nil, hs, hx, hr]
 exact h v' w' h2 h3 h4

theorem wpList_append_own2 {ops : Array Oper} {rest : List Oper} {o : Oper} {a : Act} {Q : Exit → Act → World → Prop} (hgd : o.guard = none) (s x : Operand) (t : TypeId)
  (ho : o.op = .call { callee := .builtin .append, args := #[s, x], argTypes := #[t, t] })
  (base : Nat) (e : TypeId) (size bytes : Nat) (z : Value) (hinfo : (P.info? e).map (fun i => (i.zero, i.size, i.bytes)) = some (some z, size, bytes)) (ht : P.underlying t = some (.slice e)) (hzs : z.cells.size = size) (hsz : 0 < size)
  (v : Value) (n : Nat) (xs : List Value) (hs : a.eval s = v) (hown : w.ownsRow base e size v n xs)
  (ad : Addr) (m c : Nat) (news : List Value) (hx : a.eval x = .slice (some ad) m c) (hl : news.length = m * size) (hnews : ∀ j u, news[j]? = some u → w.cell? (ad.add j) = some u) (h1 : ∀ u ∈ news, u.oneCell' = true)
  (h63 : n + m ≤ maxLen) (hbytes : (n + m) * bytes ≤ 140737488355328) (hbase : base ≤ w.heap.size)
  (h : ∀ v' w', w'.ownsRow base e size v' (n + m) (xs ++ news) → w.grownBy w' v.ownBlock → (v'.ownBlock = v.ownBlock ∨ v'.ownBlock = some w.heap.size) → wpList P ops Q rest (a.put o.dst v') w') : wpList P ops Q (o :: rest) a w :=
 wpList_plain hgd fun _ hK => wp_append_own2 w s x t ho base e size bytes z hinfo ht hzs hsz v n xs hs hown ad m c news hx hl hnews h1 h63 hbytes hbase (fun v' w' a b c => hK _ _ (h v' w' a b c))
end
theorem touch_of_grown {w w' : World} {row : Option Nat} (h : w.grownBy w' row) : Touch (fun k => row = some k) w w' :=
 ⟨h.os, h.tape, h.output, h.size, fun k hk hn => h.block k hk (fun e => hn e.symm)⟩
end Go.Proofs.YtpjpknndfhablaaGreat
