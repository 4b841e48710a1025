/- How a disk of the document's (seneschalref09) lies in memory, over the same plain state. -/
import Derived.Test.YtpjpknndfhablaaDiskG
namespace Go.Proofs.Ytpjpknndfhablaa
open Go.RowKit

def uCells : List (Bool × UInt8) → List Value
  | [] => []
  | (f, x) :: u => .int .i64 (DS.fi f) :: .int .u8 x.toNat :: uCells u
theorem uCells_length (u : List (Bool × UInt8)) : (uCells u).length = u.length * 2 := by
  induction u with
  | nil => rfl
  | cons x u ih => obtain ⟨f, s⟩ := x; simp [uCells, ih]; omega
theorem uCells_append (u v : List (Bool × UInt8)) : uCells (u ++ v) = uCells u ++ uCells v := by
  induction u with
  | nil => rfl
  | cons x u ih => obtain ⟨f, t⟩ := x; simp [uCells, ih]
theorem uCells_at : ∀ {u : List (Bool × UInt8)} {j : Nat} {f : Bool} {x : UInt8}, u[j]? = some (f, x) →
    (uCells u)[j * 2]? = some (.int .i64 (DS.fi f)) ∧ (uCells u)[j * 2 + 1]? = some (.int .u8 x.toNat)
  | [], j, f, s, h => by simp at h
  | (g, t) :: u, 0, f, s, h => by simp at h; obtain ⟨rfl, rfl⟩ := h; simp [uCells]
  | (g, t) :: u, j + 1, f, s, h => by
    have := uCells_at (u := u) (j := j) (f := f) (x := s) (by simpa using h)
    rw [show (j + 1) * 2 = j * 2 + 1 + 1 by omega]
    simpa [uCells] using this
theorem uCells_one (u : List (Bool × UInt8)) : ∀ v ∈ uCells u, v.oneCell' = true := by
  induction u with
  | nil => intro v hv; cases hv
  | cons x u ih =>
    obtain ⟨f, s⟩ := x
    intro v hv
    simp only [uCells, List.mem_cons] at hv
    rcases hv with rfl | rfl | hv
    · rfl
    · rfl
    · exact ih v hv

def refBlock (d : DS) (us : Value) : Obj :=
  .cells #[.string ⟨d.a.toArray⟩, .string ⟨d.b.toArray⟩, us, .int .i64 d.armed, .int .i64 d.keep, .bool d.dead] 75 (0, 0)

/-- Block b is the document's disk in state d; its unsafe bytes stand in the slice us. -/
structure RefU (w : World) (b : Nat) (d : DS) (us : Value) : Prop where
  blk : w.heap[b]? = some (refBlock d us)
  own : w.ownsRow 0 131 2 us d.u.length (uCells d.u)
def RefAt (w : World) (b : Nat) (d : DS) (ub : Option Nat) : Prop := d.Ok ∧ ∃ us, RefU w b d us ∧ us.ownBlock = ub

theorem RefU.lt {w : World} {b : Nat} {d : DS} {us : Value} (h : RefU w b d us) : b < w.heap.size := heap_lt h.blk
theorem RefU.slice {w : World} {b : Nat} {d : DS} {us : Value} (h : RefU w b d us) :
    ∃ ao cap, us = .slice ao d.u.length cap ∧ d.u.length ≤ 9223372036854775807 ∧ ∀ j f x, d.u[j]? = some (f, x) → ∃ g, ao = some ⟨g, 0, none⟩ ∧ g < w.heap.size ∧
      w.cell? ⟨g, j * 2, none⟩ = some (.int .i64 (DS.fi f)) ∧ w.cell? ⟨g, j * 2 + 1, none⟩ = some (.int .u8 x.toNat) := by
  rcases h.own.2 with ⟨rfl, h0⟩ | ⟨g, cap, cur, rfl, _, hg, hn, hc, hcs, ht⟩
  · refine ⟨none, 0, by rw [h0], by omega, fun j f s hj => ?_⟩
    have : d.u = [] := List.eq_nil_of_length_eq_zero h0
    rw [this] at hj; simp at hj
  · refine ⟨_, cap, rfl, by unfold maxLen at hc; omega, fun j f s hj => ⟨g, rfl, heap_lt hg, ?_, ?_⟩⟩
    · have := (uCells_at hj).1
      rw [← ht, List.getElem?_take] at this
      split at this
      · exact cell_of hg (by simpa using this)
      · cases this
    · have := (uCells_at hj).2
      rw [← ht, List.getElem?_take] at this
      split at this
      · exact cell_of hg (by simpa using this)
      · cases this
theorem RefU.cells {w : World} {b : Nat} {d : DS} {us : Value} (h : RefU w b d us) :
    w.cell? ⟨b, 0, none⟩ = some (.string ⟨d.a.toArray⟩) ∧ w.cell? ⟨b, 1, none⟩ = some (.string ⟨d.b.toArray⟩) ∧ w.cell? ⟨b, 2, none⟩ = some us ∧
    w.cell? ⟨b, 3, none⟩ = some (.int .i64 d.armed) ∧ w.cell? ⟨b, 4, none⟩ = some (.int .i64 d.keep) ∧ w.cell? ⟨b, 5, none⟩ = some (.bool d.dead) ∧ (∀ i, w.frozen? ⟨b, i, none⟩ = false) ∧ b < w.heap.size :=
  ⟨cell_of h.blk rfl, cell_of h.blk rfl, cell_of h.blk rfl, cell_of h.blk rfl, cell_of h.blk rfl, cell_of h.blk rfl, free_of h.blk, h.lt⟩
theorem RefU.own_block {w : World} {b : Nat} {d : DS} {us : Value} (h : RefU w b d us) : us.ownBlock ≠ some b := by
  intro hb
  rcases h.own.2 with ⟨rfl, _⟩ | ⟨g, cap, cur, rfl, _, hg, _⟩
  · simp [Value.ownBlock] at hb
  · simp only [Value.ownBlock, Option.some.injEq] at hb
    subst hb
    have := h.blk; rw [hg] at this; simp [refBlock] at this
theorem RefU.touch {S : Nat → Prop} {w w' : World} {b : Nat} {d : DS} {us : Value} (h : RefU w b d us) (ht : Touch S w w') (hb : ¬ S b) (hr : ∀ k, us.ownBlock = some k → ¬ S k) : RefU w' b d us :=
  ⟨(ht.block b h.lt hb).trans h.blk, own_touch h.own ht hr⟩
theorem RefU.below {w w' : World} {b : Nat} {d : DS} {us : Value} (h : RefU w b d us) (hb : Below w.heap.size w w') : RefU w' b d us :=
  h.touch (S := fun _ => False) (.of_below hb) (fun h => h) (fun _ _ h => h)
theorem RefU.drew {w : World} {b : Nat} {d : DS} {us : Value} (h : RefU w b d us) : RefU w.drew b d us := ⟨h.blk, h.own⟩
theorem RefAt.lt {w : World} {b : Nat} {d : DS} {ub : Option Nat} (h : RefAt w b d ub) : b < w.heap.size := by
  obtain ⟨_, us, h, _⟩ := h; exact h.lt
theorem RefAt.ub_lt {w : World} {b : Nat} {d : DS} {ub : Option Nat} (h : RefAt w b d ub) : ∀ k, ub = some k → k < w.heap.size := by
  obtain ⟨_, us, h, rfl⟩ := h; exact fun k hk => (h.own.lt k hk).2
theorem RefAt.touch {S : Nat → Prop} {w w' : World} {b : Nat} {d : DS} {ub : Option Nat} (h : RefAt w b d ub) (ht : Touch S w w') (hS : ∀ k, own2 b ub k → ¬ S k) : RefAt w' b d ub := by
  obtain ⟨ok, us, h, rfl⟩ := h
  exact ⟨ok, us, h.touch ht (hS b (.inl rfl)) (fun k hk => hS k (.inr hk)), rfl⟩
theorem RefAt.below {w w' : World} {b : Nat} {d : DS} {ub : Option Nat} (h : RefAt w b d ub) (hb : Below w.heap.size w w') : RefAt w' b d ub :=
  h.touch (S := fun _ => False) (.of_below hb) (fun _ _ h => h)
end Go.Proofs.Ytpjpknndfhablaa
