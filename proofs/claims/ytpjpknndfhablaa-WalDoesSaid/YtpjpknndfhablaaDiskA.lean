/- How a disk of the program lies in memory. -/
import Derived.Test.YtpjpknndfhablaaRows
import Derived.Test.YtpjpknndfhablaaBase
import Derived.Test.YtpjpknndfhablaaDiskM
namespace Go.Proofs.Ytpjpknndfhablaa
open Go.RowKit

def rowCells : List (Bool × List UInt8) → List Value
  | [] => []
  | (f, s) :: r => .int .i64 (DS.fi f) :: .string ⟨s.toArray⟩ :: rowCells r
theorem rowCells_length (r : List (Bool × List UInt8)) : (rowCells r).length = r.length * 2 := by
  induction r with
  | nil => rfl
  | cons x r ih => obtain ⟨f, s⟩ := x; simp [rowCells, ih]; omega
theorem rowCells_append (r s : List (Bool × List UInt8)) : rowCells (r ++ s) = rowCells r ++ rowCells s := by
  induction r with
  | nil => rfl
  | cons x r ih => obtain ⟨f, t⟩ := x; simp [rowCells, ih]
theorem rowCells_at : ∀ {r : List (Bool × List UInt8)} {j : Nat} {f : Bool} {s : List UInt8}, r[j]? = some (f, s) →
    (rowCells r)[j * 2]? = some (.int .i64 (DS.fi f)) ∧ (rowCells r)[j * 2 + 1]? = some (.string ⟨s.toArray⟩)
  | [], j, f, s, h => by simp at h
  | (g, t) :: r, 0, f, s, h => by simp at h; obtain ⟨rfl, rfl⟩ := h; simp [rowCells]
  | (g, t) :: r, j + 1, f, s, h => by
    have := rowCells_at (r := r) (j := j) (f := f) (s := s) (by simpa using h)
    rw [show (j + 1) * 2 = j * 2 + 1 + 1 by omega]
    simpa [rowCells] using this

def diskBlock (d : DS) (rs : Value) : Obj :=
  .cells #[.string ⟨d.a.toArray⟩, .string ⟨d.b.toArray⟩, rs, .int .i64 d.armed, .int .i64 d.keep, .bool d.dead] 103 (0, 0)

/-- Block b is a disk in state d; its rows are r, in the slice rs. -/
structure DiskRows (w : World) (b : Nat) (d : DS) (rs : Value) (r : List (Bool × List UInt8)) : Prop where
  blk : w.heap[b]? = some (diskBlock d rs)
  own : w.ownsRow 0 106 2 rs r.length (rowCells r)
  u : DS.flat r = d.u

theorem DiskRows.lt {w : World} {b : Nat} {d : DS} {rs : Value} {r : List (Bool × List UInt8)} (h : DiskRows w b d rs r) : b < w.heap.size := heap_lt h.blk
theorem DiskRows.slice {w : World} {b : Nat} {d : DS} {rs : Value} {r : List (Bool × List UInt8)} (h : DiskRows w b d rs r) :
    ∃ ao cap, rs = .slice ao r.length cap ∧ r.length ≤ 9223372036854775807 ∧ ∀ j f s, r[j]? = some (f, s) → ∃ g, ao = some ⟨g, 0, none⟩ ∧ g < w.heap.size ∧
      w.cell? ⟨g, j * 2, none⟩ = some (.int .i64 (DS.fi f)) ∧ w.cell? ⟨g, j * 2 + 1, none⟩ = some (.string ⟨s.toArray⟩) := by
  rcases h.own.2 with ⟨rfl, h0⟩ | ⟨g, cap, cur, rfl, _, hg, hn, hc, hcs, ht⟩
  · refine ⟨none, 0, by rw [h0], by omega, fun j f s hj => ?_⟩
    have : r = [] := List.eq_nil_of_length_eq_zero h0
    subst this; simp at hj
  · refine ⟨_, cap, rfl, by unfold maxLen at hc; omega, fun j f s hj => ⟨g, rfl, heap_lt hg, ?_, ?_⟩⟩
    · have := (rowCells_at hj).1
      rw [← ht, List.getElem?_take] at this
      split at this
      · exact cell_of hg (by simpa using this)
      · cases this
    · have := (rowCells_at hj).2
      rw [← ht, List.getElem?_take] at this
      split at this
      · exact cell_of hg (by simpa using this)
      · cases this
theorem DiskRows.cells {w : World} {b : Nat} {d : DS} {rs : Value} {r : List (Bool × List UInt8)} (h : DiskRows w b d rs r) :
    w.cell? ⟨b, 0, none⟩ = some (.string ⟨d.a.toArray⟩) ∧ w.cell? ⟨b, 1, none⟩ = some (.string ⟨d.b.toArray⟩) ∧ w.cell? ⟨b, 2, none⟩ = some rs ∧
    w.cell? ⟨b, 3, none⟩ = some (.int .i64 d.armed) ∧ w.cell? ⟨b, 4, none⟩ = some (.int .i64 d.keep) ∧ w.cell? ⟨b, 5, none⟩ = some (.bool d.dead) ∧ (∀ i, w.frozen? ⟨b, i, none⟩ = false) ∧ b < w.heap.size :=
  ⟨cell_of h.blk rfl, cell_of h.blk rfl, cell_of h.blk rfl, cell_of h.blk rfl, cell_of h.blk rfl, cell_of h.blk rfl, free_of h.blk, h.lt⟩
theorem DiskRows.rows_block {w : World} {b : Nat} {d : DS} {rs : Value} {r : List (Bool × List UInt8)} (h : DiskRows w b d rs r) : rs.ownBlock ≠ some b := by
  intro hb
  rcases h.own.2 with ⟨rfl, _⟩ | ⟨g, cap, cur, rfl, _, hg, _⟩
  · simp [Value.ownBlock] at hb
  · simp only [Value.ownBlock, Option.some.injEq] at hb
    subst hb
    have := h.blk; rw [hg] at this; simp [diskBlock] at this
theorem own_touch {S : Nat → Prop} {w w' : World} {base e size n : Nat} {v : Value} {xs : List Value} (h : w.ownsRow base e size v n xs) (ht : Touch S w w') (hS : ∀ k, v.ownBlock = some k → ¬ S k) : w'.ownsRow base e size v n xs := by
  refine ⟨h.1, ?_⟩
  rcases h.2 with h0 | ⟨g, cap, cur, rfl, hb, hg, rest⟩
  · exact .inl h0
  · exact .inr ⟨g, cap, cur, rfl, hb, (ht.block g (heap_lt hg) (hS g rfl)).trans hg, rest⟩
theorem DiskRows.touch {S : Nat → Prop} {w w' : World} {b : Nat} {d : DS} {rs : Value} {r : List (Bool × List UInt8)} (h : DiskRows w b d rs r) (ht : Touch S w w') (hb : ¬ S b) (hr : ∀ k, rs.ownBlock = some k → ¬ S k) : DiskRows w' b d rs r :=
  ⟨(ht.block b h.lt hb).trans h.blk, own_touch h.own ht hr, h.u⟩
theorem DiskRows.below {w w' : World} {b : Nat} {d : DS} {rs : Value} {r : List (Bool × List UInt8)} (h : DiskRows w b d rs r) (hb : Below w.heap.size w w') : DiskRows w' b d rs r :=
  h.touch (S := fun _ => False) (.of_below hb) (fun h => h) (fun _ _ h => h)
theorem DiskRows.drew {w : World} {b : Nat} {d : DS} {rs : Value} {r : List (Bool × List UInt8)} (h : DiskRows w b d rs r) : DiskRows w.drew b d rs r := ⟨h.blk, h.own, h.u⟩
/-- Block b is a disk in state d, of at most m rows, which lie in the block rb. -/
def DiskAt (w : World) (b : Nat) (d : DS) (m : Nat) (rb : Option Nat) : Prop := d.Ok ∧ ∃ rs r, DiskRows w b d rs r ∧ r.length ≤ m ∧ rs.ownBlock = rb
/-- What is owned later was owned before, or is new. -/
def Newer (w : World) (rb rb' : Option Nat) : Prop := ∀ k, rb' = some k → rb = some k ∨ w.heap.size ≤ k
theorem Newer.refl (w : World) (rb : Option Nat) : Newer w rb rb := fun _ h => .inl h
theorem Newer.none (w : World) (rb : Option Nat) : Newer w rb .none := fun _ h => by cases h
theorem Newer.trans {w w1 : World} {a b c : Option Nat} (h : Newer w a b) (h' : Newer w1 b c) (hs : w.heap.size ≤ w1.heap.size) : Newer w a c := fun k hk => by
  rcases h' k hk with h1 | h1
  · exact h k h1
  · exact .inr (Nat.le_trans hs h1)
/-- The blocks of a disk. -/
def own2 (b : Nat) (rb : Option Nat) : Nat → Prop := fun k => k = b ∨ rb = some k
theorem DiskAt.lt {w : World} {b : Nat} {d : DS} {m : Nat} {rb : Option Nat} (h : DiskAt w b d m rb) : b < w.heap.size := by
  obtain ⟨_, rs, r, h, _⟩ := h; exact h.lt
theorem DiskAt.rb_lt {w : World} {b : Nat} {d : DS} {m : Nat} {rb : Option Nat} (h : DiskAt w b d m rb) : ∀ k, rb = some k → k < w.heap.size := by
  obtain ⟨_, rs, r, h, _, rfl⟩ := h; exact fun k hk => (h.own.lt k hk).2
theorem DiskAt.touch {S : Nat → Prop} {w w' : World} {b : Nat} {d : DS} {m : Nat} {rb : Option Nat} (h : DiskAt w b d m rb) (ht : Touch S w w') (hS : ∀ k, own2 b rb k → ¬ S k) : DiskAt w' b d m rb := by
  obtain ⟨ok, rs, r, h, hm, rfl⟩ := h
  exact ⟨ok, rs, r, h.touch ht (hS b (.inl rfl)) (fun k hk => hS k (.inr hk)), hm, rfl⟩
theorem DiskAt.below {w w' : World} {b : Nat} {d : DS} {m : Nat} {rb : Option Nat} (h : DiskAt w b d m rb) (hb : Below w.heap.size w w') : DiskAt w' b d m rb :=
  h.touch (S := fun _ => False) (.of_below hb) (fun _ _ h => h)
theorem DiskAt.mono {w : World} {b : Nat} {d : DS} {m n : Nat} {rb : Option Nat} (h : DiskAt w b d m rb) (hmn : m ≤ n) : DiskAt w b d n rb := by
  obtain ⟨ok, rs, r, h, hm, e⟩ := h; exact ⟨ok, rs, r, h, Nat.le_trans hm hmn, e⟩
/-- No block of rows: there are none. -/
theorem DiskAt.fresh {w : World} {b : Nat} {d : DS} {m : Nat} (h : DiskAt w b d m none) : DiskAt w b d 0 none := by
  obtain ⟨ok, rs, r, h, _, hrb⟩ := h
  refine ⟨ok, rs, r, h, ?_, hrb⟩
  rcases h.own.2 with ⟨_, hn⟩ | ⟨g, cap, cur, rfl, _⟩
  · omega
  · cases hrb
end Go.Proofs.Ytpjpknndfhablaa
