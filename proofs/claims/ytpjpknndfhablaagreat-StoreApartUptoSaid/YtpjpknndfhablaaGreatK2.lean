/- Small lemmas on worlds and lists, used by all later texts. No program in sight. How a disk of the program lies in memory. The walk of (*Disk).left: what is left of the files behind k unsafe bytes. Walks of (*Disk).Waiting, all, Size: they only read. Walks of the disk's small methods that write: goes, dies, Revive, Arm, Crash, Dead. append on a row of the call's own, once more: besides what the library's law leaves, the block of the new slice is the old one's or a new one. A region that draws its order and ends in an operation that waits for all others (x.f = append(x.f, ..)): a load may be taken first although that last operation writes its cell. Made after the library's own law on held regions. -/
import Derived.WalkKit
import Derived.WalkSpells
import Derived.WalkLawsBesides
import Derived.Lib.Hide
import Derived.Test.YtpjpknndfhablaaGreatRows
import Derived.Handy
import Derived.RegionTactic
import Derived.BigRegion
import Derived.Deep.RegionHeld3
import Derived.StillTail
import Derived.Test.YtpjpknndfhablaaGreatK1
namespace Go.Proofs.YtpjpknndfhablaaGreat
open Go.RowKit

/-- Of the blocks that were there only those in S may have turned. -/
structure Touch (S : Nat → Prop) (w w' : World) : Prop where
  os : w'.os = w.os
  tape : w'.tape = w.tape
  output : w'.output = w.output
  size : w.heap.size ≤ w'.heap.size
  block : ∀ k, k < w.heap.size → ¬ S k → w'.heap[k]? = w.heap[k]?

theorem Touch.refl (S : Nat → Prop) (w : World) : Touch S w w := ⟨rfl, rfl, rfl, Nat.le_refl _, fun _ _ _ => rfl⟩
theorem Touch.trans {S T : Nat → Prop} {w w1 w2 : World} (h : Touch S w w1) (h' : Touch T w1 w2) (hT : ∀ k, k < w.heap.size → T k → S k) : Touch S w w2 :=
  ⟨h'.os.trans h.os, h'.tape.trans h.tape, h'.output.trans h.output, Nat.le_trans h.size h'.size,
    fun k hk hS => (h'.block k (Nat.lt_of_lt_of_le hk h.size) (fun ht => hS (hT k hk ht))).trans (h.block k hk hS)⟩
theorem Touch.mono {S T : Nat → Prop} {w w' : World} (h : Touch S w w') (hT : ∀ k, k < w.heap.size → S k → T k) : Touch T w w' :=
  ⟨h.os, h.tape, h.output, h.size, fun k hk hS => h.block k hk (fun hs => hS (hT k hk hs))⟩
theorem Touch.of_below {S : Nat → Prop} {w w' : World} (h : Below w.heap.size w w') : Touch S w w' :=
  ⟨h.os, h.tape, h.output, h.size, fun k hk _ => h.block k hk⟩
theorem Touch.below {S : Nat → Prop} {B : Nat} {w w' : World} (h : Touch S w w') (hB : B ≤ w.heap.size) (hS : ∀ k, k < B → ¬ S k) : Below B w w' :=
  ⟨h.os, h.tape, h.output, h.size, fun k hk => h.block k (Nat.lt_of_lt_of_le hk hB) (hS k hk)⟩
theorem Touch.alloc {S : Nat → Prop} {w w' : World} (h : Touch S w w') (o : Obj) : Touch S w (w'.alloc o) :=
  h.trans (T := fun _ => False) (Touch.of_below ((Below.refl _ _).alloc (Nat.le_refl _) _)) (fun _ _ h => h.elim)
theorem Touch.drew {S : Nat → Prop} {w w' : World} (h : Touch S w w') : Touch S w w'.drew := ⟨h.os, h.tape, h.output, h.size, h.block⟩
theorem Touch.setCell {S : Nat → Prop} {w w' : World} (h : Touch S w w') {a : Addr} (v : Value) (ha : a.block < w.heap.size → S a.block) : Touch S w (w'.setCell a v) :=
  ⟨h.os, h.tape, h.output, by simpa using h.size, fun k hk hS => (Below.heap_setCell _ _ _ _ (fun e => hS (by subst e; exact ha hk))).trans (h.block k hk hS)⟩

theorem heap_lt {w : World} {b : Nat} {o : Obj} (h : w.heap[b]? = some o) : b < w.heap.size := (Array.getElem?_eq_some_iff.1 h).1
theorem cell_of {w : World} {b i : Nat} {c : Array Value} {t : TypeId} {fr : Nat × Nat} {v : Value} (h : w.heap[b]? = some (.cells c t fr)) (hi : c[i]? = some v) : w.cell? ⟨b, i, none⟩ = some v := by
  simp [World.cell?, h, hi]
theorem free_of {w : World} {b : Nat} {c : Array Value} {t : TypeId} (h : w.heap[b]? = some (.cells c t (0, 0))) (i : Nat) : w.frozen? ⟨b, i, none⟩ = false := by
  simp [World.frozen?, h]
theorem heap_set {w : World} {b i : Nat} {c : Array Value} {t : TypeId} {fr : Nat × Nat} (v : Value) (h : w.heap[b]? = some (.cells c t fr)) : (w.setCell ⟨b, i, none⟩ v).heap[b]? = some (.cells (c.setIfInBounds i v) t fr) := by
  simp [World.setCell, Array.getElem?_modify, h]
theorem heap_set_ne {w : World} {b i k : Nat} (v : Value) (h : k ≠ b) : (w.setCell ⟨b, i, none⟩ v).heap[k]? = w.heap[k]? := Below.heap_setCell _ _ _ _ h
theorem heap_alloc {w : World} {k : Nat} (o : Obj) (h : k < w.heap.size) : (w.alloc o).heap[k]? = w.heap[k]? := Below.heap_alloc _ _ _ h
theorem heap_new (w : World) (o : Obj) : (w.alloc o).heap[w.heap.size]? = some o := heap_alloc_new w o
theorem heap_drew (w : World) (k : Nat) : w.drew.heap[k]? = w.heap[k]? := rfl

theorem ret_int {k : IntKind} {a b : Int} (h : a = b) : Ending.returned (.int k a) = .returned (.int k b) := by rw [h]
theorem ret_bool {a b : Bool} (h : a = b) : Ending.returned (.bool a) = .returned (.bool b) := by rw [h]

theorem below_cell {W w1 : World} (hb : Below W.heap.size W w1) : (∀ b o, b < W.heap.size → w1.cell? ⟨b, o, none⟩ = W.cell? ⟨b, o, none⟩) ∧ (∀ b o, b < W.heap.size → w1.frozen? ⟨b, o, none⟩ = W.frozen? ⟨b, o, none⟩) :=
  ⟨fun b o h => hb.cell (p := ⟨b, o, none⟩) h, fun b o h => hb.frozen (p := ⟨b, o, none⟩) h⟩

theorem bytes_extract (s : List UInt8) (n : Nat) : (⟨s.toArray⟩ : ByteArray).extract 0 n = ⟨(s.take n).toArray⟩ := by
  apply ByteArray.ext; simp [ByteArray.data_extract]
theorem bytes_append (s t : List UInt8) : (⟨s.toArray⟩ : ByteArray) ++ ⟨t.toArray⟩ = ⟨(s ++ t).toArray⟩ := by
  apply ByteArray.ext; simp [ByteArray.data_append]
theorem bytes_empty : (ByteArray.empty : ByteArray) = ⟨([] : List UInt8).toArray⟩ := rfl

theorem bthen {w w1 w2 : World} (h : Below w.heap.size w w1) (h' : Below w1.heap.size w1 w2) : Below w.heap.size w w2 := h.trans (h'.mono h.size)
theorem balloc (w : World) (o : Obj) : Below w.heap.size w (w.alloc o) := (Below.refl _ _).alloc (Nat.le_refl _) o
theorem cells1 {w : World} {b : Nat} {t : TypeId} {x : Value} (h : w.heap[b]? = some (.cells #[x] t (0, 0))) : w.cell? ⟨b, 0, none⟩ = some x ∧ (∀ i, w.frozen? ⟨b, i, none⟩ = false) ∧ b < w.heap.size :=
  ⟨cell_of h rfl, free_of h, heap_lt h⟩
theorem cells2 {w : World} {b : Nat} {t : TypeId} {x y : Value} (h : w.heap[b]? = some (.cells #[x, y] t (0, 0))) : w.cell? ⟨b, 0, none⟩ = some x ∧ w.cell? ⟨b, 1, none⟩ = some y ∧ (∀ i, w.frozen? ⟨b, i, none⟩ = false) ∧ b < w.heap.size :=
  ⟨cell_of h rfl, cell_of h rfl, free_of h, heap_lt h⟩
/-- A block that was there is there in every later world that has turned nothing old. -/
theorem stays {w w' : World} {b : Nat} {o : Obj} (h : w.heap[b]? = some o) (hb : Below w.heap.size w w') : w'.heap[b]? = some o := (hb.block b (heap_lt h)).trans h

theorem addr_add (b off j : Nat) : (⟨b, off, none⟩ : Addr).add j = ⟨b, off + j, none⟩ := by unfold Addr.add; split <;> simp_all
theorem addr_block (a : Addr) (j : Nat) : (a.add j).block = a.block := by unfold Addr.add; split <;> rfl

theorem ret_two {a b c d : Value} (h : a = c) (h' : b = d) : Ending.returned (.tuple #[a, b]) = .returned (.tuple #[c, d]) := by rw [h, h']
theorem ret_str {s t : List UInt8} (h : s = t) : Value.string ⟨s.toArray⟩ = .string ⟨t.toArray⟩ := by rw [h]
theorem val_int {k : IntKind} {a b : Int} (h : a = b) : Value.int k a = .int k b := by rw [h]

end Go.Proofs.YtpjpknndfhablaaGreat
namespace Go.Proofs.YtpjpknndfhablaaGreat
open Go.RowKit

def rowCells : List (Bool × List UInt8) → List Value
  | [] => []
  | (f, s) :: r => .int .i64 (DS.fi f) :: .string ⟨s.toArray⟩ :: rowCells r
theorem rowCells_length (r : List (Bool × List UInt8)) : (rowCells r).length = r.length * 2 := by
  induction r with
  | nil => rfl
  | cons x r ih => obtain ⟨f, s⟩ := x; simp [rowCells, ih]; omega
theorem rowCells_append (r s : List (Bool × List UInt8)) : rowCells (r ++ s) = rowCells r ++ rowCells s := by
  induction r with
  | nil => rfl
  | cons x r ih => obtain ⟨f, t⟩ := x; simp [rowCells, ih]
theorem rowCells_at : ∀ {r : List (Bool × List UInt8)} {j : Nat} {f : Bool} {s : List UInt8}, r[j]? = some (f, s) →
    (rowCells r)[j * 2]? = some (.int .i64 (DS.fi f)) ∧ (rowCells r)[j * 2 + 1]? = some (.string ⟨s.toArray⟩)
  | [], j, f, s, h => by simp at h
  | (g, t) :: r, 0, f, s, h => by simp at h; obtain ⟨rfl, rfl⟩ := h; simp [rowCells]
  | (g, t) :: r, j + 1, f, s, h => by
    have := rowCells_at (r := r) (j := j) (f := f) (s := s) (by simpa using h)
    rw [show (j + 1) * 2 = j * 2 + 1 + 1 by omega]
    simpa [rowCells] using this

def diskBlock (d : DS) (rs : Value) : Obj :=
  .cells #[.string ⟨d.a.toArray⟩, .string ⟨d.b.toArray⟩, rs, .int .i64 d.armed, .int .i64 d.keep, .bool d.dead] 89 (0, 0)

/-- Block b is a disk in state d; its rows are r, in the slice rs. -/
structure DiskRows (w : World) (b : Nat) (d : DS) (rs : Value) (r : List (Bool × List UInt8)) : Prop where
  blk : w.heap[b]? = some (diskBlock d rs)
  own : w.ownsRow 0 106 2 rs r.length (rowCells r)
  u : DS.flat r = d.u

theorem DiskRows.lt {w : World} {b : Nat} {d : DS} {rs : Value} {r : List (Bool × List UInt8)} (h : DiskRows w b d rs r) : b < w.heap.size := heap_lt h.blk
theorem DiskRows.slice {w : World} {b : Nat} {d : DS} {rs : Value} {r : List (Bool × List UInt8)} (h : DiskRows w b d rs r) :
    ∃ ao cap, rs = .slice ao r.length cap ∧ r.length ≤ 9223372036854775807 ∧ ∀ j f s, r[j]? = some (f, s) → ∃ g, ao = some ⟨g, 0, none⟩ ∧ g < w.heap.size ∧
      w.cell? ⟨g, j * 2, none⟩ = some (.int .i64 (DS.fi f)) ∧ w.cell? ⟨g, j * 2 + 1, none⟩ = some (.string ⟨s.toArray⟩) := by
  rcases h.own.2 with ⟨rfl, h0⟩ | ⟨g, cap, cur, rfl, _, hg, hn, hc, hcs, ht⟩
  · refine ⟨none, 0, by rw [h0], by omega, fun j f s hj => ?_⟩
    have : r = [] := List.eq_nil_of_length_eq_zero h0
    subst this; simp at hj
  · refine ⟨_, cap, rfl, by unfold maxLen at hc; omega, fun j f s hj => ⟨g, rfl, heap_lt hg, ?_, ?_⟩⟩
    · have := (rowCells_at hj).1
      rw [← ht, List.getElem?_take] at this
      split at this
      · exact cell_of hg (by simpa using this)
      · cases this
    · have := (rowCells_at hj).2
      rw [← ht, List.getElem?_take] at this
      split at this
      · exact cell_of hg (by simpa using this)
      · cases this
theorem DiskRows.cells {w : World} {b : Nat} {d : DS} {rs : Value} {r : List (Bool × List UInt8)} (h : DiskRows w b d rs r) :
    w.cell? ⟨b, 0, none⟩ = some (.string ⟨d.a.toArray⟩) ∧ w.cell? ⟨b, 1, none⟩ = some (.string ⟨d.b.toArray⟩) ∧ w.cell? ⟨b, 2, none⟩ = some rs ∧
    w.cell? ⟨b, 3, none⟩ = some (.int .i64 d.armed) ∧ w.cell? ⟨b, 4, none⟩ = some (.int .i64 d.keep) ∧ w.cell? ⟨b, 5, none⟩ = some (.bool d.dead) ∧ (∀ i, w.frozen? ⟨b, i, none⟩ = false) ∧ b < w.heap.size :=
  ⟨cell_of h.blk rfl, cell_of h.blk rfl, cell_of h.blk rfl, cell_of h.blk rfl, cell_of h.blk rfl, cell_of h.blk rfl, free_of h.blk, h.lt⟩
theorem DiskRows.rows_block {w : World} {b : Nat} {d : DS} {rs : Value} {r : List (Bool × List UInt8)} (h : DiskRows w b d rs r) : rs.ownBlock ≠ some b := by
  intro hb
  rcases h.own.2 with ⟨rfl, _⟩ | ⟨g, cap, cur, rfl, _, hg, _⟩
  · simp [Value.ownBlock] at hb
  · simp only [Value.ownBlock, Option.some.injEq] at hb
    subst hb
    have := h.blk; rw [hg] at this; simp [diskBlock] at this
theorem own_touch {S : Nat → Prop} {w w' : World} {base e size n : Nat} {v : Value} {xs : List Value} (h : w.ownsRow base e size v n xs) (ht : Touch S w w') (hS : ∀ k, v.ownBlock = some k → ¬ S k) : w'.ownsRow base e size v n xs := by
  refine ⟨h.1, ?_⟩
  rcases h.2 with h0 | ⟨g, cap, cur, rfl, hb, hg, rest⟩
  · exact .inl h0
  · exact .inr ⟨g, cap, cur, rfl, hb, (ht.block g (heap_lt hg) (hS g rfl)).trans hg, rest⟩
theorem DiskRows.touch {S : Nat → Prop} {w w' : World} {b : Nat} {d : DS} {rs : Value} {r : List (Bool × List UInt8)} (h : DiskRows w b d rs r) (ht : Touch S w w') (hb : ¬ S b) (hr : ∀ k, rs.ownBlock = some k → ¬ S k) : DiskRows w' b d rs r :=
  ⟨(ht.block b h.lt hb).trans h.blk, own_touch h.own ht hr, h.u⟩
theorem DiskRows.below {w w' : World} {b : Nat} {d : DS} {rs : Value} {r : List (Bool × List UInt8)} (h : DiskRows w b d rs r) (hb : Below w.heap.size w w') : DiskRows w' b d rs r :=
  h.touch (S := fun _ => False) (.of_below hb) (fun h => h) (fun _ _ h => h)
theorem DiskRows.drew {w : World} {b : Nat} {d : DS} {rs : Value} {r : List (Bool × List UInt8)} (h : DiskRows w b d rs r) : DiskRows w.drew b d rs r := ⟨h.blk, h.own, h.u⟩
/-- Block b is a disk in state d, of at most m rows, which lie in the block rb. -/
def DiskAt (w : World) (b : Nat) (d : DS) (m : Nat) (rb : Option Nat) : Prop := d.Ok ∧ ∃ rs r, DiskRows w b d rs r ∧ r.length ≤ m ∧ rs.ownBlock = rb
/-- What is owned later was owned before, or is new. -/
def Newer (w : World) (rb rb' : Option Nat) : Prop := ∀ k, rb' = some k → rb = some k ∨ w.heap.size ≤ k
theorem Newer.refl (w : World) (rb : Option Nat) : Newer w rb rb := fun _ h => .inl h
theorem Newer.none (w : World) (rb : Option Nat) : Newer w rb .none := fun _ h => by cases h
theorem Newer.trans {w w1 : World} {a b c : Option Nat} (h : Newer w a b) (h' : Newer w1 b c) (hs : w.heap.size ≤ w1.heap.size) : Newer w a c := fun k hk => by
  rcases h' k hk with h1 | h1
  · exact h k h1
  · exact .inr (Nat.le_trans hs h1)
/-- The blocks of a disk. -/
def own2 (b : Nat) (rb : Option Nat) : Nat → Prop := fun k => k = b ∨ rb = some k
theorem DiskAt.lt {w : World} {b : Nat} {d : DS} {m : Nat} {rb : Option Nat} (h : DiskAt w b d m rb) : b < w.heap.size := by
  obtain ⟨_, rs, r, h, _⟩ := h; exact h.lt
theorem DiskAt.rb_lt {w : World} {b : Nat} {d : DS} {m : Nat} {rb : Option Nat} (h : DiskAt w b d m rb) : ∀ k, rb = some k → k < w.heap.size := by
  obtain ⟨_, rs, r, h, _, rfl⟩ := h; exact fun k hk => (h.own.lt k hk).2
theorem DiskAt.touch {S : Nat → Prop} {w w' : World} {b : Nat} {d : DS} {m : Nat} {rb : Option Nat} (h : DiskAt w b d m rb) (ht : Touch S w w') (hS : ∀ k, own2 b rb k → ¬ S k) : DiskAt w' b d m rb := by
  obtain ⟨ok, rs, r, h, hm, rfl⟩ := h
  exact ⟨ok, rs, r, h.touch ht (hS b (.inl rfl)) (fun k hk => hS k (.inr hk)), hm, rfl⟩
theorem DiskAt.below {w w' : World} {b : Nat} {d : DS} {m : Nat} {rb : Option Nat} (h : DiskAt w b d m rb) (hb : Below w.heap.size w w') : DiskAt w' b d m rb :=
  h.touch (S := fun _ => False) (.of_below hb) (fun _ _ h => h)
theorem DiskAt.mono {w : World} {b : Nat} {d : DS} {m n : Nat} {rb : Option Nat} (h : DiskAt w b d m rb) (hmn : m ≤ n) : DiskAt w b d n rb := by
  obtain ⟨ok, rs, r, h, hm, e⟩ := h; exact ⟨ok, rs, r, h, Nat.le_trans hm hmn, e⟩
/-- No block of rows: there are none. -/
theorem DiskAt.fresh {w : World} {b : Nat} {d : DS} {m : Nat} (h : DiskAt w b d m none) : DiskAt w b d 0 none := by
  obtain ⟨ok, rs, r, h, _, hrb⟩ := h
  refine ⟨ok, rs, r, h, ?_, hrb⟩
  rcases h.own.2 with ⟨_, hn⟩ | ⟨g, cap, cur, rfl, _⟩
  · omega
  · cases hrb
end Go.Proofs.YtpjpknndfhablaaGreat
namespace Go.Proofs.YtpjpknndfhablaaGreat
open Go.RowKit

set_option maxHeartbeats 1000000 in
theorem left_any (b : Nat) (w : World) (d : DS) (rs : Value) (r : List (Bool × List UInt8)) (k : Int) (h : DiskRows w b d rs r) (hok : d.Ok) (h0 : -9223372036854775808 ≤ k) (h1 : k ≤ 9223372036854775807) :
    Calls Tryz.prog 112 #[.pointer (some ⟨b, 0, none⟩), .int .i64 k] w fun e w' =>
      e = .returned (.agg #[.string ⟨(d.left k.toNat false).toArray⟩, .string ⟨(d.left k.toNat true).toArray⟩]) ∧ Below w.heap.size w w' := by
  obtain ⟨c0, c1, c2, c3, c4, c5, cf, hlt⟩ := h.cells
  obtain ⟨ao, cap, rfl, hr, hcell⟩ := h.slice
  have HC := Lib.hid hcell
  have HU := Lib.hid h.u
  clear hcell h c3 c4 c5
  go_enter Tryz.func112, Tryz.ntmps112
  go_wp2
  go_loopw [1, 18] (fun kk i wr => ∃ (j : Nat) (k' : Int) (t0 t1 : List UInt8), kk = .int .i64 k' ∧ i = .int .i64 j ∧ j ≤ r.length ∧ -9223372036854775808 ≤ k' ∧ k' ≤ 9223372036854775807 ∧ DS.LeftRel d r k j k' t0 t1 ∧
      wr.heap[w.heap.size + 1]? = some (.cells #[.string ⟨t0.toArray⟩, .string ⟨t1.toArray⟩] 86 (0, 0)) ∧ 
      wr.heap[w.heap.size]? = some (.cells #[.string ⟨#[]⟩, .string ⟨#[]⟩] 86 (0, 0)) ∧ Below w.heap.size w wr) (fun _ i _ => r.length - (intOf i).toNat)
  case atStart =>
    refine ⟨0, k, _, _, rfl, rfl, by omega, h0, h1, DS.LeftRel.zero d r k, ?_, ?_, ?_⟩
    · have := heap_new (w.alloc (.cells #[.string ⟨#[]⟩, .string ⟨#[]⟩] 86)) (.cells #[.string ⟨d.a.toArray⟩, .string ⟨d.b.toArray⟩] 86)
      rwa [World.size_alloc] at this
    · rw [heap_alloc _ (by simp)]; exact heap_new _ _
    · go_grown
  case round =>
    obtain ⟨j, k', t0, t1, rfl, rfl, hj, hk0, hk1, hrel, hn1, hn0, hbl⟩ := hrel
    obtain ⟨b0, b1⟩ := hrel.len HU.out hok
    have d0 := cell_of hn1 (i := 0) rfl
    have d1 := cell_of hn1 (i := 1) rfl
    have e0 := free_of hn1
    have d2 := cell_of hn0 (i := 0) rfl
    have d3 := cell_of hn0 (i := 1) rfl
    have e2 := free_of hn0
    have l1 := heap_lt hn1
    have l0 := heap_lt hn0
    have HR := Lib.hid hrel
    have HN := Lib.hid hn1
    have HN0 := Lib.hid hn0
    have HB := Lib.hid hbl
    clear hrel hn1 hn0 hbl
    by_cases hlt : j < r.length
    · obtain ⟨⟨f, s⟩, hs⟩ : ∃ x, r[j]? = some x := ⟨_, List.getElem?_eq_getElem hlt⟩
      have b2 := DS.row_len HU.out hok hs
      obtain ⟨g, rfl, hg, ca, cb⟩ := HC.out j f s hs
      have HS := Lib.hid hs
      have ca' := (HB.out.cell (p := ⟨g, j * 2, none⟩) hg).trans ca
      have cb' := (HB.out.cell (p := ⟨g, j * 2 + 1, none⟩) hg).trans cb
      have hg' : g < wr.heap.size := Nat.lt_of_lt_of_le hg HB.out.size
      clear ca cb hs
      obtain ⟨m, hm, hm'⟩ : ∃ m : Nat, (m : Int) = min (max 0 k') s.length ∧ ((k' ≤ 0 ∧ m = 0) ∨ (0 < k' ∧ k' ≤ s.length ∧ m = k'.toNat) ∨ (0 < k' ∧ (s.length : Int) < k' ∧ m = s.length)) := ⟨(min (max 0 k') s.length).toNat, by omega, by omega⟩
      have HX := Lib.hid (HR.out.step HS.out hm)
      clear hm
      rcases hm' with ⟨hk, rfl⟩ | ⟨hk, hk', rfl⟩ | ⟨hk, hk', rfl⟩
      all_goals cases f
      all_goals simp only [DS.fi, Bool.false_eq_true, if_true, if_false] at ca'
      all_goals go_wp2
      all_goals go_region
      all_goals go_wp2
      all_goals go_roundw
      all_goals first
        | (simp [intOf]; omega)
        | (refine ⟨j + 1, _, _, _, ?_, by go_num, by omega, ?_, ?_, HX.out, ?_, ?_, ?_⟩
           · go_num
           · omega
           · omega
           · rw [heap_drew, heap_alloc _ (by simpa using l1), heap_set _ HN.out]; simp [bytes_extract, bytes_append, -List.append_toArray]
           · rw [heap_drew, heap_alloc _ (by simpa using l0), heap_set_ne _ (by omega)]; exact HN0.out
           · have hb := HB.out
             go_grown)
    · obtain rfl : j = r.length := by omega
      have HX := Lib.hid (HR.out.done HU.out)
      go_wp2
      have hx := heap_set (i := 1) (.string ⟨t1.toArray⟩) (heap_set (i := 0) (.string ⟨t0.toArray⟩) HN0.out)
      have x0 := cell_of hx (i := 0) rfl
      have x1 := cell_of hx (i := 1) rfl
      refine bodyPost_ret (v := .agg #[.string ⟨t0.toArray⟩, .string ⟨t1.toArray⟩]) (by simp [results, Tryz.results112, go_sem, x0, x1]) rfl ⟨?_, ?_⟩
      · rw [HX.out.1, HX.out.2]
      · have hb := HB.out
        go_grown
end Go.Proofs.YtpjpknndfhablaaGreat
namespace Go.Proofs.YtpjpknndfhablaaGreat
open Go.RowKit

set_option maxHeartbeats 1000000 in
theorem waiting_any (b : Nat) (w : World) (d : DS) (rs : Value) (r : List (Bool × List UInt8)) (h : DiskRows w b d rs r) (hok : d.Ok) :
    Calls Tryz.prog 113 #[.pointer (some ⟨b, 0, none⟩)] w fun e w' => e = .returned (.int .i64 d.u.length) ∧ Below w.heap.size w w' := by
  obtain ⟨c0, c1, c2, c3, c4, c5, cf, hlt⟩ := h.cells
  obtain ⟨ao, cap, rfl, hr, hcell⟩ := h.slice
  have HC := Lib.hid hcell
  have HU := Lib.hid h.u
  have hul := hok.u_len
  clear hcell h c0 c1 c3 c4 c5
  go_enter Tryz.func113, Tryz.ntmps113
  go_wp2
  go_loopw [3, 11] (fun n i wr => ∃ (j m : Nat), n = .int .i64 m ∧ i = .int .i64 j ∧ j ≤ r.length ∧ m = (DS.flat (r.take j)).length ∧ Below w.heap.size w wr) (fun _ i _ => r.length - (intOf i).toNat)
  case atStart => exact ⟨0, 0, rfl, rfl, by omega, by simp [DS.flat], Below.refl _ _⟩
  case round =>
    obtain ⟨j, m, rfl, rfl, hj, hm, hbl⟩ := hrel
    have hml := DS.flat_take_le r j
    rw [HU.out, ← hm] at hml
    have HM := Lib.hid hm
    have HB := Lib.hid hbl
    clear hm hbl
    by_cases hlt : j < r.length
    · obtain ⟨⟨f, s⟩, hs⟩ : ∃ x, r[j]? = some x := ⟨_, List.getElem?_eq_getElem hlt⟩
      have b2 := DS.row_len HU.out hok hs
      obtain ⟨g, rfl, hg, ca, cb⟩ := HC.out j f s hs
      have HS := Lib.hid hs
      have ca' := (HB.out.cell (p := ⟨g, j * 2, none⟩) hg).trans ca
      have cb' := (HB.out.cell (p := ⟨g, j * 2 + 1, none⟩) hg).trans cb
      have hg' : g < wr.heap.size := Nat.lt_of_lt_of_le hg HB.out.size
      clear ca cb hs
      go_wp2
      go_roundw
      case rel =>
        refine ⟨j + 1, m + s.length, by go_num, by go_num, by omega, by rw [DS.flat_len_succ HS.out, HM.out], ?_⟩
        have hb := HB.out
        have hbs := hb.size
        go_grown
      case measure => simp [intOf]; omega
    · obtain rfl : j = r.length := by omega
      have HX : Hid (m = d.u.length) := by rw [HM.out, List.take_length, HU.out]; exact rfl
      go_wp2
      go_ret
      exact ⟨ret_int (by rw [HX.out]), HB.out⟩

set_option maxHeartbeats 1000000 in
theorem all_any (b : Nat) (w : World) (d : DS) (rs : Value) (r : List (Bool × List UInt8)) (h : DiskRows w b d rs r) (hok : d.Ok) :
    Calls Tryz.prog 55 #[.pointer (some ⟨b, 0, none⟩)] w fun e w' =>
      e = .returned (.agg #[.string ⟨(d.file false).toArray⟩, .string ⟨(d.file true).toArray⟩]) ∧ Below w.heap.size w w' := by
  have hul := hok.u_len
  have H := Lib.hid h
  clear h
  go_enter Tryz.func55, Tryz.ntmps55
  go_wp2_with fail
  refine (waiting_any b _ d rs r (H.out.below (by go_grown)) hok).mono ?_
  rintro e w1 ⟨rfl, hb1⟩
  go_wp2_with fail
  refine (left_any b _ d rs r _ ((H.out.below (by go_grown)).below hb1) hok (by omega) (by omega)).mono ?_
  rintro e w2 ⟨rfl, hb2⟩
  have n2 := stays (stays (heap_new w _) hb1) hb2
  obtain ⟨x0, x1, xf, xl⟩ := cells2 n2
  have N2 := Lib.hid n2
  clear n2
  go_wp2
  have hx := heap_set (i := 1) (.string ⟨(d.file true).toArray⟩) (heap_set (i := 0) (.string ⟨(d.file false).toArray⟩) N2.out)
  obtain ⟨y0, y1, _, _⟩ := cells2 hx
  have hb := bthen (bthen (balloc w _) hb1) hb2
  refine bodyPost_ret (v := .agg #[.string ⟨(d.file false).toArray⟩, .string ⟨(d.file true).toArray⟩]) (by simp [results, Tryz.results55, go_sem, DS.left_all, y0, y1]) rfl ⟨rfl, ?_⟩
  go_grown

set_option maxHeartbeats 1000000 in
theorem size_any (b : Nat) (w : World) (d : DS) (rs : Value) (r : List (Bool × List UInt8)) (f : Int) (h : DiskRows w b d rs r) (hok : d.Ok) :
    Calls Tryz.prog 85 #[.pointer (some ⟨b, 0, none⟩), .int .i64 f] w fun e w' => e = .returned (.int .i64 (d.sizeI f)) ∧ Below w.heap.size w w' := by
  by_cases hf : f = 0 ∨ f = 1
  · obtain ⟨q, rfl⟩ := DS.fi_of hf
    obtain ⟨c0, c1, c2, c3, c4, c5, cf, hlt⟩ := h.cells
    obtain ⟨ao, cap, rfl, hr, hcell⟩ := h.slice
    have HC := Lib.hid hcell
    have HU := Lib.hid h.u
    have hbl := d.base_len q hok
    have hq : (d.base q).length ≤ 1048576 := by omega
    have hcq : w.cell? ⟨b, q.toNat, none⟩ = some (.string ⟨(d.base q).toArray⟩) := by
      cases q
      · exact c0
      · exact c1
    clear hcell h c0 c1 c3 c4 c5 hf
    rw [DS.sizeI_of]
    go_enter Tryz.func85, Tryz.ntmps85
    cases q
    all_goals simp only [DS.fi, Bool.false_eq_true, if_true, if_false, Bool.toNat_true, Bool.toNat_false] at hcq ⊢
    all_goals go_wp2
    · go_loopw [5, 26] (fun n i wr => ∃ (j m : Nat), n = .int .i64 m ∧ i = .int .i64 j ∧ j ≤ r.length ∧ m = (d.base false).length + (DS.of false (DS.flat (r.take j))).length ∧ Below w.heap.size w wr) (fun _ i _ => r.length - (intOf i).toNat)
      case atStart => exact ⟨0, _, rfl, rfl, by omega, by rw [DS.count_zero]; rfl, Below.refl _ _⟩
      case round =>
        obtain ⟨j, m, rfl, rfl, hj, hm, hbl⟩ := hrel
        have hml := DS.count_le (r := r) j false
        rw [HU.out] at hml
        have hm2 : m ≤ 1048576 := by omega
        have HM := Lib.hid hm
        have HB := Lib.hid hbl
        clear hm hbl hml
        by_cases hlt : j < r.length
        · obtain ⟨⟨f, s⟩, hs⟩ : ∃ x, r[j]? = some x := ⟨_, List.getElem?_eq_getElem hlt⟩
          have b2 := DS.row_len HU.out hok hs
          obtain ⟨g, rfl, hg, ca, cb⟩ := HC.out j f s hs
          have HS := Lib.hid hs
          have ca' := (HB.out.cell (p := ⟨g, j * 2, none⟩) hg).trans ca
          have cb' := (HB.out.cell (p := ⟨g, j * 2 + 1, none⟩) hg).trans cb
          have hg' : g < wr.heap.size := Nat.lt_of_lt_of_le hg HB.out.size
          clear ca cb hs
          cases f
          all_goals simp only [DS.fi, Bool.false_eq_true, if_true, if_false] at ca'
          all_goals go_wp2
          all_goals go_roundw
          all_goals first
            | (simp [intOf]; omega)
            | (refine ⟨j + 1, m + s.length, by go_num, by go_num, by omega, by rw [DS.count_same HS.out, HM.out]; omega, ?_⟩
               have hb := HB.out
               have hbs := hb.size
               go_grown)
            | (refine ⟨j + 1, m, by go_num, by go_num, by omega, by rw [DS.count_other HS.out (by decide), HM.out], ?_⟩
               have hb := HB.out
               have hbs := hb.size
               go_grown)
        · obtain rfl : j = r.length := by omega
          have HX : Hid (m = (d.base false).length + (DS.of false d.u).length) := by rw [HM.out, List.take_length, HU.out]; exact rfl
          go_wp2
          go_ret
          exact ⟨ret_int (by rw [HX.out]; omega), HB.out⟩
    · go_loopw [5, 26] (fun n i wr => ∃ (j m : Nat), n = .int .i64 m ∧ i = .int .i64 j ∧ j ≤ r.length ∧ m = (d.base true).length + (DS.of true (DS.flat (r.take j))).length ∧ Below w.heap.size w wr) (fun _ i _ => r.length - (intOf i).toNat)
      case atStart => exact ⟨0, _, rfl, rfl, by omega, by rw [DS.count_zero]; rfl, Below.refl _ _⟩
      case round =>
        obtain ⟨j, m, rfl, rfl, hj, hm, hbl⟩ := hrel
        have hml := DS.count_le (r := r) j true
        rw [HU.out] at hml
        have hm2 : m ≤ 1048576 := by omega
        have HM := Lib.hid hm
        have HB := Lib.hid hbl
        clear hm hbl hml
        by_cases hlt : j < r.length
        · obtain ⟨⟨f, s⟩, hs⟩ : ∃ x, r[j]? = some x := ⟨_, List.getElem?_eq_getElem hlt⟩
          have b2 := DS.row_len HU.out hok hs
          obtain ⟨g, rfl, hg, ca, cb⟩ := HC.out j f s hs
          have HS := Lib.hid hs
          have ca' := (HB.out.cell (p := ⟨g, j * 2, none⟩) hg).trans ca
          have cb' := (HB.out.cell (p := ⟨g, j * 2 + 1, none⟩) hg).trans cb
          have hg' : g < wr.heap.size := Nat.lt_of_lt_of_le hg HB.out.size
          clear ca cb hs
          cases f
          all_goals simp only [DS.fi, Bool.false_eq_true, if_true, if_false] at ca'
          all_goals go_wp2
          all_goals go_roundw
          all_goals first
            | (simp [intOf]; omega)
            | (refine ⟨j + 1, m + s.length, by go_num, by go_num, by omega, by rw [DS.count_same HS.out, HM.out]; omega, ?_⟩
               have hb := HB.out
               have hbs := hb.size
               go_grown)
            | (refine ⟨j + 1, m, by go_num, by go_num, by omega, by rw [DS.count_other HS.out (by decide), HM.out], ?_⟩
               have hb := HB.out
               have hbs := hb.size
               go_grown)
        · obtain rfl : j = r.length := by omega
          have HX : Hid (m = (d.base true).length + (DS.of true d.u).length) := by rw [HM.out, List.take_length, HU.out]; exact rfl
          go_wp2
          go_ret
          exact ⟨ret_int (by rw [HX.out]; omega), HB.out⟩
  · have hf' : f < 0 ∨ 2 ≤ f := by omega
    have HX : Hid (d.sizeI f = -1) := by unfold DS.sizeI; rw [DS.fileNo_none hf]; exact rfl
    clear hf h
    go_enter Tryz.func85, Tryz.ntmps85
    rcases hf' with hf | hf
    all_goals go_wp2
    all_goals go_ret
    all_goals exact ⟨ret_int (by rw [HX.out]), Below.refl _ _⟩
end Go.Proofs.YtpjpknndfhablaaGreat
namespace Go.Proofs.YtpjpknndfhablaaGreat
open Go.RowKit

set_option maxHeartbeats 1000000 in
theorem goes_any (b : Nat) (w : World) (d : DS) (rs : Value) (r : List (Bool × List UInt8)) (h : DiskRows w b d rs r) (hok : d.Ok) :
    Calls Tryz.prog 150 #[.pointer (some ⟨b, 0, none⟩)] w fun e w' => e = .returned (.bool d.goes) ∧ DiskRows w' b d.tick rs r ∧ Touch (· = b) w w' := by
  obtain ⟨c0, c1, c2, c3, c4, c5, cf, hlt⟩ := h.cells
  have H := Lib.hid h
  have ha := hok.armed
  clear h c0 c1 c2 c4 c5 hok
  by_cases h0 : d.armed = 0
  · have HX := Lib.hid (DS.goes_zero h0)
    have hz : ((d.armed : Int) == 0) = true := by simp [h0]
    clear h0
    go_enter Tryz.func150, Tryz.ntmps150
    go_wp2
    go_ret
    exact ⟨ret_bool (by rw [HX.out.1]), by rw [HX.out.2]; exact H.out, Touch.refl _ _⟩
  · have hz : ((d.armed : Int) == 0) = false := by simp [h0]
    have hp : 0 < d.armed := by omega
    have x3 := World.cell?_setCell_same w ⟨b, 3, none⟩ (.int .i64 ((d.armed : Int) - 1)) c3
    clear h0
    go_enter Tryz.func150, Tryz.ntmps150
    go_wp2
    go_ret
    refine ⟨ret_bool ?_, ⟨?_, ?_, ?_⟩, (Touch.refl _ _).setCell _ (fun _ => rfl)⟩
    · exact DS.goes_pos hp
    · rw [heap_set _ H.out.blk, diskBlock, DS.tick_cast hp]; simp [DS.tick]
    · exact own_touch H.out.own ((Touch.refl (· = b) w).setCell _ (fun _ => rfl)) (fun k hk => fun e => H.out.rows_block (by rw [hk, e]))
    · exact H.out.u

set_option maxHeartbeats 1000000 in
theorem dies_any (b : Nat) (w : World) (d : DS) (rs : Value) (r : List (Bool × List UInt8)) (k : Int) (h : DiskRows w b d rs r) (hok : d.Ok) (h0 : -9223372036854775808 ≤ k) (h1 : k ≤ 9223372036854775807) :
    Calls Tryz.prog 70 #[.pointer (some ⟨b, 0, none⟩), .int .i64 k] w fun e w' => e = .returned (.tuple #[]) ∧ DiskRows w' b (d.die k.toNat) (.slice none 0 0) [] ∧ Touch (· = b) w w' := by
  have H := Lib.hid h
  clear h
  go_enter Tryz.func70, Tryz.ntmps70
  go_wp2_with fail
  refine (left_any b _ d rs r k H.out hok h0 h1).mono ?_
  rintro e w1 ⟨rfl, hb⟩
  have h1 := H.out.below hb
  obtain ⟨c0, c1, c2, c3, c4, c5, cf, hlt⟩ := h1.cells
  have H1 := Lib.hid h1
  have HB := Lib.hid hb
  clear h1 hb
  go_wp2
  go_end0
  refine ⟨rfl, ⟨?_, ?_, ?_⟩, ?_⟩
  · rw [heap_set _ (heap_set _ (heap_set _ (heap_set _ (heap_set _ H1.out.blk))))]; simp [diskBlock, DS.die]
  · exact World.ownsRow_nil _ _ _ _
  · rfl
  · refine Touch.setCell (Touch.setCell (Touch.setCell (Touch.setCell (Touch.setCell (Touch.of_below HB.out) _ ?_) _ ?_) _ ?_) _ ?_) _ ?_
    all_goals exact fun _ => rfl

set_option maxHeartbeats 1000000 in
theorem dead_any (b : Nat) (w : World) (d : DS) (m : Nat) (rb : Option Nat) (h : DiskAt w b d m rb) :
    Calls Tryz.prog 30 #[.pointer (some ⟨b, 0, none⟩)] w fun e w' => e = .returned (.bool d.dead) ∧ w = w' := by
  obtain ⟨hok, rs, r, h, hm, rfl⟩ := h
  obtain ⟨c0, c1, c2, c3, c4, c5, cf, hlt⟩ := h.cells
  clear h c0 c1 c2 c3 c4 hok
  go_enter Tryz.func30, Tryz.ntmps30
  go_wp2
  go_ret
  exact ⟨rfl, rfl⟩

set_option maxHeartbeats 1000000 in
theorem revive_any (b : Nat) (w : World) (d : DS) (m : Nat) (rb : Option Nat) (h : DiskAt w b d m rb) :
    Calls Tryz.prog 32 #[.pointer (some ⟨b, 0, none⟩)] w fun e w' => e = .returned (.tuple #[]) ∧ DiskAt w' b d.revive m rb ∧ Touch (own2 b rb) w w' := by
  obtain ⟨hok, rs, r, h, hm, rfl⟩ := h
  obtain ⟨c0, c1, c2, c3, c4, c5, cf, hlt⟩ := h.cells
  have H := Lib.hid h
  clear h c0 c1 c2 c4
  go_enter Tryz.func32, Tryz.ntmps32
  go_wp2
  go_end0
  have ht := ((Touch.refl (· = b) w).setCell (a := ⟨b, 5, none⟩) (.bool false) (fun _ => rfl)).setCell (a := ⟨b, 3, none⟩) (.int .i64 0) (fun _ => rfl)
  refine ⟨rfl, ⟨hok.revive, rs, r, ⟨?_, ?_, H.out.u⟩, hm, rfl⟩, ht.mono (fun k _ h => .inl h)⟩
  · rw [heap_set _ (heap_set _ H.out.blk)]; simp [DS.revive, diskBlock]
  · exact own_touch H.out.own ht (fun k hk => fun e => H.out.rows_block (by rw [hk, e]))

set_option maxHeartbeats 1000000 in
theorem arm_any (b : Nat) (w : World) (d : DS) (m : Nat) (rb : Option Nat) (n k : Int) (h : DiskAt w b d m rb) (hn : n ≤ 9223372036854775807) (hk : k ≤ 9223372036854775807) :
    Calls Tryz.prog 28 #[.pointer (some ⟨b, 0, none⟩), .int .i64 n, .int .i64 k] w fun e w' => e = .returned (.int .i64 (d.arm n k).2) ∧ DiskAt w' b (d.arm n k).1 m rb ∧ Touch (own2 b rb) w w' := by
  have hok' := h.1.arm hn hk
  obtain ⟨hok, rs, r, h, hm, rfl⟩ := h
  obtain ⟨c0, c1, c2, c3, c4, c5, cf, hlt⟩ := h.cells
  have H := Lib.hid h
  clear h c0 c1 c2
  cases hd : d.dead
  · rw [hd] at c5
    by_cases h0 : n < 0 ∨ k < 0
    · have HX : Hid (d.arm n k = (d, 1)) := by unfold DS.arm; rw [if_neg (by simp [hd]), if_pos h0]; exact rfl
      clear hd
      go_enter Tryz.func28, Tryz.ntmps28
      rcases h0 with h0 | h0
      all_goals go_wp2
      all_goals go_ret
      all_goals exact ⟨ret_int (by rw [HX.out]), by rw [HX.out]; exact ⟨hok, rs, r, H.out, hm, rfl⟩, Touch.refl _ _⟩
    · have HX : Hid (d.arm n k = ({ d with armed := n.toNat, keep := k.toNat }, 0)) := by unfold DS.arm; rw [if_neg (by simp [hd]), if_neg h0]; exact rfl
      have hn0 : 0 ≤ n := by omega
      have hk0 : 0 ≤ k := by omega
      clear hd h0
      go_enter Tryz.func28, Tryz.ntmps28
      go_wp2
      go_ret
      have ht := ((Touch.refl (· = b) w).setCell (a := ⟨b, 3, none⟩) (.int .i64 n) (fun _ => rfl)).setCell (a := ⟨b, 4, none⟩) (.int .i64 k) (fun _ => rfl)
      refine ⟨ret_int (by rw [HX.out]), ?_, ht.mono (fun k _ h => .inl h)⟩
      rw [HX.out] at hok' ⊢
      refine ⟨hok', rs, r, ⟨?_, ?_, H.out.u⟩, hm, rfl⟩
      · rw [heap_set _ (heap_set _ H.out.blk)]; simp [diskBlock, Int.toNat_of_nonneg hn0, Int.toNat_of_nonneg hk0]
      · exact own_touch H.out.own ht (fun k hk => fun e => H.out.rows_block (by rw [hk, e]))
  · rw [hd] at c5
    have HX : Hid (d.arm n k = (d, 2)) := by unfold DS.arm; rw [if_pos hd]; exact rfl
    clear hd
    go_enter Tryz.func28, Tryz.ntmps28
    go_wp2
    go_ret
    exact ⟨ret_int (by rw [HX.out]), by rw [HX.out]; exact ⟨hok, rs, r, H.out, hm, rfl⟩, Touch.refl _ _⟩

set_option maxHeartbeats 1000000 in
theorem crash_anyN (b : Nat) (w : World) (d : DS) (m : Nat) (rb : Option Nat) (k : Int) (h : DiskAt w b d m rb) (hk : k ≤ 9223372036854775807) :
    Calls Tryz.prog 31 #[.pointer (some ⟨b, 0, none⟩), .int .i64 k] w fun e w' => e = .returned (.int .i64 (d.crash k).2) ∧
      ∃ rb', DiskAt w' b (d.crash k).1 m rb' ∧ Newer w rb rb' ∧ Touch (own2 b rb) w w' ∧ ((d.crash k).1.dead = true → d.dead = false → rb' = none) := by
  have hok' := h.1.crash k
  obtain ⟨hok, rs, r, h, hm, rfl⟩ := h
  obtain ⟨c0, c1, c2, c3, c4, c5, cf, hlt⟩ := h.cells
  have H := Lib.hid h
  clear h c0 c1 c2
  cases hd : d.dead
  · rw [hd] at c5
    have HD9 := Lib.hid hd
    by_cases h0 : k < 0
    · have HX : Hid (d.crash k = (d, 1)) := by unfold DS.crash; rw [if_neg (by simp [hd]), if_pos h0]; exact rfl
      clear hd
      go_enter Tryz.func31, Tryz.ntmps31
      go_wp2
      go_ret
      exact ⟨ret_int (by rw [HX.out]), rs.ownBlock, by rw [HX.out]; exact ⟨hok, rs, r, H.out, hm, rfl⟩, Newer.refl _ _, Touch.refl _ _, fun h1 h2 => by first | (cases h2; done) | (rw [HX.out] at h1; have h3 : d.dead = true := h1; rw [HD9.out] at h3; cases h3)⟩
    · have HX : Hid (d.crash k = (d.die k.toNat, 0)) := by unfold DS.crash; rw [if_neg (by simp [hd]), if_neg h0]; exact rfl
      have hk0 : 0 ≤ k := by omega
      clear hd h0
      go_enter Tryz.func31, Tryz.ntmps31
      go_wp2_with fail
      refine (dies_any b w d rs r k H.out hok (by omega) hk).mono ?_
      rintro e w1 ⟨rfl, hr, ht⟩
      have HR := Lib.hid hr
      have HT := Lib.hid ht
      clear hr ht
      go_wp2
      go_ret
      refine ⟨ret_int (by rw [HX.out]), none, ?_, Newer.none _ _, HT.out.mono (fun k _ h => .inl h), fun _ _ => rfl⟩
      rw [HX.out] at hok' ⊢
      exact ⟨hok', _, [], HR.out, Nat.zero_le _, rfl⟩
  · rw [hd] at c5
    have HD9 := Lib.hid hd
    have HX : Hid (d.crash k = (d, 2)) := by unfold DS.crash; rw [if_pos hd]; exact rfl
    clear hd
    go_enter Tryz.func31, Tryz.ntmps31
    go_wp2
    go_ret
    exact ⟨ret_int (by rw [HX.out]), rs.ownBlock, by rw [HX.out]; exact ⟨hok, rs, r, H.out, hm, rfl⟩, Newer.refl _ _, Touch.refl _ _, fun h1 h2 => by first | (cases h2; done) | (rw [HX.out] at h1; have h3 : d.dead = true := h1; rw [HD9.out] at h3; cases h3)⟩
theorem crash_any (b : Nat) (w : World) (d : DS) (m : Nat) (rb : Option Nat) (k : Int) (h : DiskAt w b d m rb) (hk : k ≤ 9223372036854775807) :
    Calls Tryz.prog 31 #[.pointer (some ⟨b, 0, none⟩), .int .i64 k] w fun e w' => e = .returned (.int .i64 (d.crash k).2) ∧
      ∃ rb', DiskAt w' b (d.crash k).1 m rb' ∧ Newer w rb rb' ∧ Touch (own2 b rb) w w' :=
  (crash_anyN b w d m rb k h hk).mono fun _ _ ⟨he, rb', h1, h2, h3, _⟩ => ⟨he, rb', h1, h2, h3⟩

set_option maxHeartbeats 1000000 in
theorem sync_anyN (b : Nat) (w : World) (d : DS) (m : Nat) (rb : Option Nat) (h : DiskAt w b d m rb) :
    Calls Tryz.prog 139 #[.pointer (some ⟨b, 0, none⟩)] w fun e w' => e = .returned (.int .i64 d.sync.2) ∧
      ∃ rb', DiskAt w' b d.sync.1 m rb' ∧ Newer w rb rb' ∧ Touch (own2 b rb) w w' ∧ (d.dead = false → rb' = none) := by
  have hok' := h.1.sync
  obtain ⟨hok, rs, r, h, hm, rfl⟩ := h
  obtain ⟨c0, c1, c2, c3, c4, c5, cf, hlt⟩ := h.cells
  have H := Lib.hid h
  clear h c0 c1 c2 c3 c4
  cases hd : d.dead
  · rw [hd] at c5
    have HD9 := Lib.hid hd
    have hdt : d.tick.dead = false := hd
    go_enter Tryz.func139, Tryz.ntmps139
    cases hg : d.goes
    · have HX : Hid (d.sync = (d.tick.saved, 0)) := by unfold DS.sync; rw [if_neg (by simp [hd]), if_neg (by simp [hg])]; exact rfl
      clear hd
      go_wp2_with fail
      refine (goes_any b w d rs r H.out hok).mono ?_
      rintro e w1 ⟨rfl, hr, ht⟩
      rw [hg]
      have HR := Lib.hid hr
      have HT := Lib.hid ht
      clear hr ht hg
      go_wp2_with fail
      refine (all_any b w1 d.tick rs r HR.out hok.tick).mono ?_
      rintro e w2 ⟨rfl, hb⟩
      have h2 := HR.out.below hb
      obtain ⟨c0, c1, c2, c3, c4, c5, cf, hlt⟩ := h2.cells
      have H2 := Lib.hid h2
      have HB := Lib.hid hb
      clear h2 hb c3 c4
      go_wp2
      go_ret
      refine ⟨ret_int (by rw [HX.out]), none, ?_, Newer.none _ _, ?_, fun _ => rfl⟩
      · rw [HX.out] at hok' ⊢
        refine ⟨hok', .slice none 0 0, [], ⟨?_, World.ownsRow_nil _ _ _ _, rfl⟩, Nat.zero_le _, rfl⟩
        rw [heap_set _ (heap_set _ (heap_set _ H2.out.blk))]; simp [diskBlock, DS.saved]
      · refine Touch.setCell (Touch.setCell (Touch.setCell (Touch.trans (HT.out.mono (T := own2 b rs.ownBlock) (fun k _ h => .inl h)) (Touch.of_below (S := fun _ => False) HB.out) (fun _ _ h => h.elim)) _ ?_) _ ?_) _ ?_
        all_goals exact fun _ => .inl rfl
    · have HX : Hid (d.sync = (d.tick.die d.keep, 2)) := by unfold DS.sync; rw [if_neg (by simp [hd]), if_pos hg]; exact rfl
      have hkp := hok.keep
      clear hd
      go_wp2_with fail
      refine (goes_any b w d rs r H.out hok).mono ?_
      rintro e w1 ⟨rfl, hr, ht⟩
      rw [hg]
      obtain ⟨c0, c1, c2, c3, c4, c5, cf, hlt⟩ := hr.cells
      have HR := Lib.hid hr
      have HT := Lib.hid ht
      clear hr ht hg c0 c1 c2 c3
      go_wp2_with fail
      refine (dies_any b w1 d.tick rs r d.keep HR.out hok.tick (by omega) (by omega)).mono ?_
      rintro e w2 ⟨rfl, hr2, ht2⟩
      have HR2 := Lib.hid hr2
      have HT2 := Lib.hid ht2
      clear hr2 ht2 c4 c5 cf
      go_wp2
      go_ret
      refine ⟨ret_int (by rw [HX.out]), none, ?_, Newer.none _ _, ?_, fun _ => rfl⟩
      · rw [HX.out] at hok' ⊢
        exact ⟨hok', _, [], HR2.out, Nat.zero_le _, rfl⟩
      · exact Touch.trans (HT.out.mono (T := own2 b rs.ownBlock) (fun k _ h => .inl h)) HT2.out (fun k _ h => .inl h)
  · rw [hd] at c5
    have HD9 := Lib.hid hd
    have HX : Hid (d.sync = (d, 2)) := by unfold DS.sync; rw [if_pos hd]; exact rfl
    clear hd
    go_enter Tryz.func139, Tryz.ntmps139
    go_wp2
    go_ret
    exact ⟨ret_int (by rw [HX.out]), rs.ownBlock, by rw [HX.out]; exact ⟨hok, rs, r, H.out, hm, rfl⟩, Newer.refl _ _, Touch.refl _ _, fun h2 => by cases h2⟩
theorem sync_any (b : Nat) (w : World) (d : DS) (m : Nat) (rb : Option Nat) (h : DiskAt w b d m rb) :
    Calls Tryz.prog 139 #[.pointer (some ⟨b, 0, none⟩)] w fun e w' => e = .returned (.int .i64 d.sync.2) ∧
      ∃ rb', DiskAt w' b d.sync.1 m rb' ∧ Newer w rb rb' ∧ Touch (own2 b rb) w w' :=
  (sync_anyN b w d m rb h).mono fun _ _ ⟨he, rb', h1, h2, h3, _⟩ => ⟨he, rb', h1, h2, h3⟩
end Go.Proofs.YtpjpknndfhablaaGreat
namespace Go.Proofs.YtpjpknndfhablaaGreat
open Go.RowKit
section
variable {P : Program} (w : World)

theorem run_append_own2 (base : Nat) (t ty e : TypeId) (i : TypeInfo) (z : Value) (size bytes : Nat) (ht : P.underlying t = some (.slice e)) (hi : P.info? e = some i) (hz : i.zero = some z)
    (hsize : i.size = size) (hby : i.bytes = bytes) (hzs : z.cells.size = size) (hsz : 0 < size)
    (v : Value) (n : Nat) (xs : List Value) (hown : w.ownsRow base e size v n xs)
    (a : Addr) (m c : Nat) (news : List Value) (hl : news.length = m * size) (hnews : ∀ j u, news[j]? = some u → w.cell? (a.add j) = some u) (h1 : ∀ u ∈ news, u.oneCell' = true)
    (h63 : n + m ≤ maxLen) (hbytes : (n + m) * bytes ≤ 140737488355328) (hbase : base ≤ w.heap.size) :
    ∃ v' w', (Builtin.append_ #[t, t] ty #[v, .slice (some a) m c]).run P w = .ok v' w' ∧ w'.ownsRow base e size v' (n + m) (xs ++ news) ∧ w.grownBy w' v.ownBlock ∧
      (v'.ownBlock = v.ownBlock ∨ v'.ownBlock = some w.heap.size) := by
  obtain ⟨v', w', hr, ho, hg, _⟩ := run_append_own (P := P) w base t ty e i z size bytes ht hi hz hsize hby hzs hsz v n xs hown a m c news hl hnews h1 h63 hbytes hbase
  refine ⟨v', w', hr, ho, hg, ?_⟩
  subst hsize; subst hby
  have h63' : ((n + m : Nat) : Int) ≤ 9223372036854775807 := by unfold maxLen at h63; omega
  rcases hown.2 with ⟨rfl, rfl⟩ | ⟨g, cap, cur, rfl, hbg, hgg, hnc, hcm, hcs, htake⟩
  · rcases Nat.eq_zero_or_pos m with rfl | hm
    · rcases ho.2 with ⟨rfl, _⟩ | ⟨g', cap', cur', rfl, _, hg', hrest⟩
      · exact .inl rfl
      · have hnil : news = [] := List.eq_nil_of_length_eq_zero (by simpa using hl)
        subst hnil
        have : (Builtin.append_ #[t, t] ty #[.slice none 0 0, .slice (some a) 0 c]).run P w = .ok (.slice none 0 0) w := by
          simp [Builtin.append_, run_underlying ht, sizeOf, typeInfo, hi, Builtin.lenOf, Builtin.firstCells, loadCells, loadCellsFrom]
        rw [this] at hr
        simp at hr
    · have h2 := run_append_nil (P := P) w t ty e i z ht hi hz a m c news hl hnews hm (by omega) (by simp only [Nat.zero_add] at hbytes; omega)
      rw [h2] at hr
      simp only [Result.ok.injEq] at hr
      obtain ⟨rfl, _⟩ := hr
      exact .inr rfl
  · by_cases hroom : n + m ≤ cap
    · have hfit : n * i.size + news.length ≤ cur.size := by rw [hl, hcs, ← Nat.add_mul]; exact Nat.mul_le_mul_right _ hroom
      have h2 := run_append_room (P := P) w t ty e i ht hi g n cap cur hgg a m c news hl hnews h1 hroom hfit
      rw [h2] at hr
      simp only [Result.ok.injEq] at hr
      obtain ⟨rfl, _⟩ := hr
      exact .inl rfl
    · have h2 := run_append_grow (P := P) w t ty e i z ht hi hz ⟨g, 0, none⟩ n cap xs hown.1 (hown.cells (g := g) rfl) a m c news hl hnews (by omega) h63' (growslice_fits (by omega) hbytes)
      rw [h2] at hr
      simp only [Result.ok.injEq] at hr
      obtain ⟨rfl, _⟩ := hr
      exact .inr rfl

theorem wp_append_own2 {o : Oper} {a : Act} {K : Act → World → Prop} {Q : Exit → Act → World → Prop} (s x : Operand) (t : TypeId)
    (ho : o.op = .call { callee := .builtin .append, args := #[s, x], argTypes := #[t, t] })
    (base : Nat) (e : TypeId) (size bytes : Nat) (z : Value) (hinfo : (P.info? e).map (fun i => (i.zero, i.size, i.bytes)) = some (some z, size, bytes)) (ht : P.underlying t = some (.slice e)) (hzs : z.cells.size = size) (hsz : 0 < size)
    (v : Value) (n : Nat) (xs : List Value) (hs : a.eval s = v) (hown : w.ownsRow base e size v n xs)
    (ad : Addr) (m c : Nat) (news : List Value) (hx : a.eval x = .slice (some ad) m c) (hl : news.length = m * size) (hnews : ∀ j u, news[j]? = some u → w.cell? (ad.add j) = some u) (h1 : ∀ u ∈ news, u.oneCell' = true)
    (h63 : n + m ≤ maxLen) (hbytes : (n + m) * bytes ≤ 140737488355328) (hbase : base ≤ w.heap.size)
    (h : ∀ v' w', w'.ownsRow base e size v' (n + m) (xs ++ news) → w.grownBy w' v.ownBlock → (v'.ownBlock = v.ownBlock ∨ v'.ownBlock = some w.heap.size) → K (a.put o.dst v') w') : o.wp P a w K Q := by
  obtain ⟨i, hi, hz, hsize, hby⟩ := info_parts hinfo
  obtain ⟨v', w', hr, h2, h3, h4⟩ := run_append_own2 (P := P) w base t o.type e i z size bytes ht hi hz hsize hby hzs hsz v n xs hown ad m c news hl hnews h1 h63 hbytes hbase
  unfold Oper.wp execOp
  simp only [ho, resolve, invoke, builtin, Sem.run_bind, Sem.run_pure, Result.andThen_ok, List.map_toArray, List.map_cons, List.map_nil, hs, hx, hr]
  exact h v' w' h2 h3 h4

theorem wpList_append_own2 {ops : Array Oper} {rest : List Oper} {o : Oper} {a : Act} {Q : Exit → Act → World → Prop} (hgd : o.guard = none) (s x : Operand) (t : TypeId)
    (ho : o.op = .call { callee := .builtin .append, args := #[s, x], argTypes := #[t, t] })
    (base : Nat) (e : TypeId) (size bytes : Nat) (z : Value) (hinfo : (P.info? e).map (fun i => (i.zero, i.size, i.bytes)) = some (some z, size, bytes)) (ht : P.underlying t = some (.slice e)) (hzs : z.cells.size = size) (hsz : 0 < size)
    (v : Value) (n : Nat) (xs : List Value) (hs : a.eval s = v) (hown : w.ownsRow base e size v n xs)
    (ad : Addr) (m c : Nat) (news : List Value) (hx : a.eval x = .slice (some ad) m c) (hl : news.length = m * size) (hnews : ∀ j u, news[j]? = some u → w.cell? (ad.add j) = some u) (h1 : ∀ u ∈ news, u.oneCell' = true)
    (h63 : n + m ≤ maxLen) (hbytes : (n + m) * bytes ≤ 140737488355328) (hbase : base ≤ w.heap.size)
    (h : ∀ v' w', w'.ownsRow base e size v' (n + m) (xs ++ news) → w.grownBy w' v.ownBlock → (v'.ownBlock = v.ownBlock ∨ v'.ownBlock = some w.heap.size) → wpList P ops Q rest (a.put o.dst v') w') : wpList P ops Q (o :: rest) a w :=
  wpList_plain hgd fun _ hK => wp_append_own2 w s x t ho base e size bytes z hinfo ht hzs hsz v n xs hs hown ad m c news hx hl hnews h1 h63 hbytes hbase (fun v' w' a b c => hK _ _ (h v' w' a b c))
end
theorem touch_of_grown {w w' : World} {row : Option Nat} (h : w.grownBy w' row) : Touch (fun k => row = some k) w w' :=
  ⟨h.os, h.tape, h.output, h.size, fun k hk hn => h.block k hk (fun e => hn e.symm)⟩
end Go.Proofs.YtpjpknndfhablaaGreat
namespace Go.Proofs.YtpjpknndfhablaaGreat
open Go.RowKit
section
variable {P : Program} {ops : Array Oper} {Q : Exit → Act → World → Prop} {S : World → Prop}

/-- Whatever order is picked from here on, and S holds behind every operation below n. -/
def wpAnyG (P : Program) (ops : Array Oper) (Q : Exit → Act → World → Prop) (S : World → Prop) (n : Nat) : Nat → Array Bool → Act → World → Prop
  | 0, listed, a, w => Region.ready .any ops listed = [] ∧ Q .normal a w
  | fuel + 1, listed, a, w =>
    (Region.ready .any ops listed = [] → Q .normal a w) ∧
    ∀ i ∈ Region.ready .any ops listed, wpOp P ops Q i (fun a' w' => (i < n → S w') ∧ wpAnyG P ops Q S n fuel (listed.setIfInBounds i true) a' w') a w

theorem wpAny_of_G {n : Nat} : ∀ (fuel : Nat) (listed : Array Bool) (a : Act) (w : World), wpAnyG P ops Q S n fuel listed a w → wpAny P .any ops Q fuel listed a w
  | 0, _, _, _, h => h
  | fuel + 1, _, _, _, h => ⟨h.1, fun i hi => wpOp_mono (fun a' w' h' => wpAny_of_G fuel _ a' w' h'.2) (h.2 i hi)⟩

theorem wpAnyG_first {n i : Nat} {oi : Oper} {v : Value} (hi : ops[i]? = some oi) (hsel : ∀ (j : Nat) (o : Oper) cs b, ops[j]? = some o → o.op ≠ .select cs b)
    (hs : Region.sinkB .any ops n = true) (hc : Region.chainB .any ops n = true) (hn : n < ops.size) (hin : i < n)
    (hQ : ∀ c a w, Q (.panic c) (a.put oi.dst v) w → Q (.panic c) a w) :
    ∀ (fuel : Nat) (listed : Array Bool) (a : Act) (w : World), HeadInv .any ops n listed →
      (∀ j oj, ops[j]? = some oj → j ≠ i → listed.getD j true = false → (∀ e ∈ oj.after, Region.binds .any e = true → e.on ≠ i) → oi.apart ops oj = true) →
      i ∈ Region.ready .any ops listed → YieldsIf P ops S oi v a → S w →
      wpAnyG P ops Q S n fuel (listed.setIfInBounds i true) (a.put oi.dst v) w → wpAnyG P ops Q S n (fuel + 1) listed a w := by
  intro fuel
  induction fuel with
  | zero =>
    intro listed a w _ _ hr hy hS H
    refine ⟨fun h => (by rw [h] at hr; cases hr), fun j hj => ?_⟩
    by_cases hji : j = i
    · subst hji; exact hy.wpOp hi hS ⟨fun _ => hS, H⟩
    · have := ready_mono hj hji
      rw [H.1] at this
      cases this
  | succ fuel ih =>
    intro listed a w inv hfree hr hy hS H
    have hun := (mem_ready.1 hr).1
    refine ⟨fun h => (by rw [h] at hr; cases hr), fun j hj => ?_⟩
    have hjn : j < n := by
      rcases Nat.lt_or_ge j n with h | h
      · exact h
      · exact absurd hj (tail_waits hs hc hn inv _ i rfl hin hun j h)
    by_cases hji : j = i
    · subst hji; exact hy.wpOp hi hS ⟨fun _ => hS, H⟩
    · have h1 := H.2 j (ready_mono hj hji)
      obtain ⟨hjun, oj, hoj, hall⟩ := mem_ready.1 hj
      have hnot : ∀ e ∈ oj.after, Region.binds .any e = true → e.on ≠ i := fun e he hb heq => by
        have h1 := hall e he hb
        rw [heq, getD_both hun] at h1
        cases h1
      have h2 := wpOp_putIf hoj (hfree j oj hoj hji hjun hnot) (fun cs b => hsel i oi cs b hi) (fun cs b => hsel j oj cs b hoj) hQ hy h1
      have hfree' : ∀ k ok, ops[k]? = some ok → k ≠ i → (listed.setIfInBounds j true).getD k true = false →
          (∀ e ∈ ok.after, Region.binds .any e = true → e.on ≠ i) → oi.apart ops ok = true := fun k ok hk hki hun hno => by
        refine hfree k ok hk hki ?_ hno
        by_cases hjk : j = k
        · subst hjk; exact hjun
        · rw [getD_set_ne true hjk] at hun; exact hun
      refine wpOp_mono (fun a' w' h3 => ⟨fun _ => h3.2.1 hjn, ih (listed.setIfInBounds j true) a' w' (inv.set hj hjn) hfree' (ready_mono hr (Ne.symm hji)) h3.1 (h3.2.1 hjn) ?_⟩) h2
      rw [Array.setIfInBounds_comm _ _ hji]
      exact h3.2.2

/-- The closed facts on a region that a beginning asks. -/
def headB (ops : Array Oper) (n : Nat) : Bool := Region.noSelect ops && Region.sinkB .any ops n && Region.chainB .any ops n && decide (n < ops.size)

/-- A state on the way: which operations are done, and that what is done is closed. -/
def wpOn (P : Program) (ops : Array Oper) (Q : Exit → Act → World → Prop) (S : World → Prop) (n fuel : Nat) (listed : Array Bool) (a : Act) (w : World) : Prop :=
  headB ops n = true → HeadInv .any ops n listed → wpAnyG P ops Q S n fuel listed a w

theorem wpOn_take {n i : Nat} {oi : Oper} {v : Value} {fuel : Nat} {listed : Array Bool} {a : Act} {w : World} (hi : ops[i]? = some oi)
    (hf : Region.free .any ops listed i = true) (hr : (Region.ready .any ops listed).contains i = true) (hin : i < n)
    (hQ : ∀ c a w, Q (.panic c) (a.put oi.dst v) w → Q (.panic c) a w) (hy : YieldsIf P ops S oi v a) (hS : S w)
    (h : wpOn P ops Q S n fuel (listed.setIfInBounds i true) (a.put oi.dst v) w) : wpOn P ops Q S n (fuel + 1) listed a w := fun hB inv => by
  have hB' := hB
  simp only [headB, Bool.and_eq_true, decide_eq_true_eq] at hB
  obtain ⟨⟨⟨hsel, hs⟩, hc⟩, hn⟩ := hB
  have hr' : i ∈ Region.ready .any ops listed := by simpa using hr
  exact wpAnyG_first hi (Region.noSelect_spec hsel) hs hc hn hin hQ fuel listed a w inv (Region.free_spec hi hf) hr' hy hS (h hB' (inv.set hr' hin))

theorem wpOn_one {n i : Nat} {o : Oper} {fuel : Nat} {listed : Array Bool} {a : Act} {w : World} (ho : ops[i]? = some o) (hr : Region.ready .any ops listed = [i]) (hin : i < n)
    (h : ∀ K : Act → World → Prop, (∀ a w, S w → wpOn P ops Q S n fuel (listed.setIfInBounds i true) a w → K a w) → if Region.wanted o (yielded ops a.tmps) = true then Oper.wp P o a w K Q else K (a.put o.dst undef) w) :
    wpOn P ops Q S n (fuel + 1) listed a w := fun hB inv => by
  refine ⟨fun h0 => (by rw [h0] at hr; cases hr), fun j hj => ?_⟩
  have hj' := hj
  rw [hr] at hj
  have : j = i := by simpa using hj
  subst this
  exact wpOp_step ho (fun K hK => h K (fun a w hS hW => hK a w ⟨fun _ => hS, hW hB (inv.set hj' hin)⟩))

theorem wpOn_last {n i : Nat} {o : Oper} {listed : Array Bool} {a : Act} {w : World} (ho : ops[i]? = some o) (hr : Region.ready .any ops listed = [i]) (hd : Region.ready .any ops (listed.setIfInBounds i true) = []) (hin : i = n)
    (h : ∀ K : Act → World → Prop, (∀ a w, Q .normal a w → K a w) → if Region.wanted o (yielded ops a.tmps) = true then Oper.wp P o a w K Q else K (a.put o.dst undef) w) :
    wpOn P ops Q S n 1 listed a w := fun _ _ => by
  refine ⟨fun h0 => (by rw [h0] at hr; cases hr), fun j hj => ?_⟩
  rw [hr] at hj
  have : j = i := by simpa using hj
  subst this
  exact wpOp_step ho (fun K hK => h K (fun a w hQ => hK a w ⟨fun h => absurd h (by omega), hd, hQ⟩))

/-- In a held region: the one operation that may come up. -/
theorem wpAnyH_one {i : Nat} {o : Oper} {fuel : Nat} {listed : Array Bool} {a : Act} {w : World} (ho : ops[i]? = some o) (hr : Region.ready .any ops listed = [i])
    (h : ∀ K : Act → World → Prop, (∀ a w, S w → wpAnyH P .any ops Q S fuel (listed.setIfInBounds i true) a w → K a w) → if Region.wanted o (yielded ops a.tmps) = true then Oper.wp P o a w K Q else K (a.put o.dst undef) w) :
    wpAnyH P .any ops Q S (fuel + 1) listed a w := by
  refine wpAnyH_all hr (by simp) (fun j hj => ?_)
  have : j = i := by simpa using hj
  subst this
  exact wpOp_step ho (fun K hK => h K (fun a w hS hW => hK a w ⟨hS, hW⟩))

theorem wp_region_on (n : Nat) {id : Nat} {a : Act} {w : World} (hm : P.follows .mixedOrders = true) (hB : headB ops n = true)
    (h : wpOn P ops Q S n ops.size (Array.replicate ops.size false) a w.drew) : (Code.region id ops true).wp P Q a w := by
  refine wp_region_any hm (wpAny_of_G _ _ _ _ (h hB ⟨by simp, fun j oj _ hl => (by rw [getD_replicate_false] at hl; cases hl), fun t _ ht => getD_in (by simpa using ht) (getD_replicate_false _ _)⟩))
theorem at_drop {l : List Oper} {i : Nat} {oi : Oper} {rest : List Oper} (hi : l.drop i = oi :: rest) : l.toArray[i]? = some oi := by
  have h := List.getElem?_drop (xs := l) (i := i) (j := 0)
  rw [hi] at h
  simpa using h.symm
section
variable {l rest : List Oper}
/-- The moves once more over a list written out: so that an operation is met as it stands there. -/
theorem wpAnyH_takeL {i : Nat} {oi : Oper} {v : Value} {fuel : Nat} {listed : Array Bool} {a : Act} {w : World} (hi : l.drop i = oi :: rest)
    (hs : Region.noSelect l.toArray = true) (hf : Region.free .any l.toArray listed i = true) (hr : (Region.ready .any l.toArray listed).contains i = true)
    (hQ : ∀ c a w, Q (.panic c) (a.put oi.dst v) w → Q (.panic c) a w) (hy : YieldsIf P l.toArray S oi v a) (hS : S w)
    (h : wpAnyH P .any l.toArray Q S fuel (listed.setIfInBounds i true) (a.put oi.dst v) w) : wpAnyH P .any l.toArray Q S (fuel + 1) listed a w :=
  wpAnyH_take (at_drop hi) hs hf hr hQ hy hS h
theorem wpOn_takeL {n i : Nat} {oi : Oper} {v : Value} {fuel : Nat} {listed : Array Bool} {a : Act} {w : World} (hi : l.drop i = oi :: rest)
    (hf : Region.free .any l.toArray listed i = true) (hr : (Region.ready .any l.toArray listed).contains i = true) (hin : i < n)
    (hQ : ∀ c a w, Q (.panic c) (a.put oi.dst v) w → Q (.panic c) a w) (hy : YieldsIf P l.toArray S oi v a) (hS : S w)
    (h : wpOn P l.toArray Q S n fuel (listed.setIfInBounds i true) (a.put oi.dst v) w) : wpOn P l.toArray Q S n (fuel + 1) listed a w :=
  wpOn_take (at_drop hi) hf hr hin hQ hy hS h
theorem wpAnyH_oneL {i : Nat} {o : Oper} {fuel : Nat} {listed : Array Bool} {a : Act} {w : World} (ho : l.drop i = o :: rest) (hr : Region.ready .any l.toArray listed = [i])
    (h : ∀ K : Act → World → Prop, (∀ a w, S w → wpAnyH P .any l.toArray Q S fuel (listed.setIfInBounds i true) a w → K a w) → if Region.wanted o (yielded l.toArray a.tmps) = true then Oper.wp P o a w K Q else K (a.put o.dst undef) w) :
    wpAnyH P .any l.toArray Q S (fuel + 1) listed a w := wpAnyH_one (at_drop ho) hr h
theorem wpOn_oneL {n i : Nat} {o : Oper} {fuel : Nat} {listed : Array Bool} {a : Act} {w : World} (ho : l.drop i = o :: rest) (hr : Region.ready .any l.toArray listed = [i]) (hin : i < n)
    (h : ∀ K : Act → World → Prop, (∀ a w, S w → wpOn P l.toArray Q S n fuel (listed.setIfInBounds i true) a w → K a w) → if Region.wanted o (yielded l.toArray a.tmps) = true then Oper.wp P o a w K Q else K (a.put o.dst undef) w) :
    wpOn P l.toArray Q S n (fuel + 1) listed a w := wpOn_one (at_drop ho) hr hin h
theorem wpOn_lastL {n i : Nat} {o : Oper} {listed : Array Bool} {a : Act} {w : World} (ho : l.drop i = o :: rest) (hr : Region.ready .any l.toArray listed = [i]) (hd : Region.ready .any l.toArray (listed.setIfInBounds i true) = []) (hin : i = n)
    (h : ∀ K : Act → World → Prop, (∀ a w, Q .normal a w → K a w) → if Region.wanted o (yielded l.toArray a.tmps) = true then Oper.wp P o a w K Q else K (a.put o.dst undef) w) :
    wpOn P l.toArray Q S n 1 listed a w := wpOn_last (at_drop ho) hr hd hin h
theorem wpOp_stepL {i : Nat} {o : Oper} {K : Act → World → Prop} {a : Act} {w : World} (ho : l.drop i = o :: rest)
    (h : ∀ K' : Act → World → Prop, (∀ a w, K a w → K' a w) → if Region.wanted o (yielded l.toArray a.tmps) = true then Oper.wp P o a w K' Q else K' (a.put o.dst undef) w) : wpOp P l.toArray Q i K a w := wpOp_step (at_drop ho) h
theorem wp_region_onL (n : Nat) {id : Nat} {a : Act} {w : World} (hm : P.follows .mixedOrders = true) (hB : headB l.toArray n = true)
    (h : wpOn P l.toArray Q S n l.length (Array.replicate l.length false) a w.drew) : (Code.region id l.toArray true).wp P Q a w :=
  wp_region_on n hm hB (by simpa using h)
theorem wp_region_heldL {id : Nat} {a : Act} {w : World} (hm : P.follows .mixedOrders = true)
    (h : wpAnyH P .any l.toArray Q S l.length (Array.replicate l.length false) a w.drew) : (Code.region id l.toArray true).wp P Q a w :=
  wp_region_held hm (by simpa using h)
end
end
end Go.Proofs.YtpjpknndfhablaaGreat
