/- Rows of bytes, known by what they hold. -/
import Derived.Test.YtommbdlkmkphpaaDoorHshD
namespace Go.Proofs.YtommbdlkmkphpaaDoor
open Go.RowKit

/-- Block g begins with these bytes, none of them frozen. -/
def Blk (w : World) (g : Nat) (l : List UInt8) : Prop := g < w.heap.size ∧ ∀ (j : Nat) (x : UInt8), l[j]? = some x → w.cell? ⟨g, j, none⟩ = some (.int .u8 x.toNat) ∧ w.frozen? ⟨g, j, none⟩ = false
theorem Blk.below {w w' : World} {g : Nat} {l : List UInt8} (h : Blk w g l) (hb : Below w.heap.size w w') : Blk w' g l :=
  ⟨Nat.lt_of_lt_of_le h.1 hb.size, fun j x hj => ⟨(hb.cell (p := ⟨g, j, none⟩) h.1).trans (h.2 j x hj).1, (hb.frozen (p := ⟨g, j, none⟩) h.1).trans (h.2 j x hj).2⟩⟩
theorem Blk.set {w : World} {g : Nat} {l : List UInt8} (h : Blk w g l) (j : Nat) (x : UInt8) : Blk (w.setCell ⟨g, j, none⟩ (.int .u8 x.toNat)) g (l.set j x) := by
  refine ⟨by rw [World.size_setCell]; exact h.1, fun i y hi => ?_⟩
  rw [World.frozen?_setCell]
  by_cases hij : j = i
  · subst hij
    rw [List.getElem?_set_self'] at hi
    cases hl : l[j]? with
    | none => rw [hl] at hi; cases hi
    | some z =>
      rw [hl] at hi
      have hy : x = y := by simpa using hi
      subst hy
      exact ⟨World.cell?_setCell_same _ _ _ (h.2 j z hl).1, (h.2 j z hl).2⟩
  · rw [List.getElem?_set_ne hij] at hi
    refine ⟨?_, (h.2 i y hi).2⟩
    rw [World.cell?_setCell_other _ _ _ _ (by intro e; cases e; exact hij rfl)]
    exact (h.2 i y hi).1
theorem Blk.own {w : World} {base g cap n : Nat} {l : List UInt8} (h : OwnF w base 1 (.slice (some ⟨g, 0, none⟩) n cap) n (bytesOf l)) : Blk w g l := by
  rcases h.2 with ⟨h0, _⟩ | ⟨g', cap', he, _, hg, hn, _, hcell, hx⟩
  · cases h0
  · cases he
    have hlen := h.1
    rw [bytesOf_length] at hlen
    refine ⟨hg, fun j x hj => ⟨hx j _ (by simp [bytesOf, hj]), (hcell j ?_).2⟩⟩
    have := (List.getElem?_eq_some_iff.1 hj).1
    omega
theorem Blk.string {w : World} {g : Nat} {l : List UInt8} (h : Blk w g l) {n cap : Nat} (hn : n ≤ l.length) : (convert 32 9 (.slice (some ⟨g, 0, none⟩) n cap)).run Tryd.prog w = .ok (.string ⟨(l.take n).toArray⟩) w := by
  rw [← strOfNums_bytes]
  refine run_convert_bytes_arg w 32 5 Tryd.underlying32 Tryd.underlying5 g 0 n cap ((l.take n).map fun x => (x.toNat : Int)) (by simp; omega) (fun i hi => ?_) 9 Tryd.underlying9
  have := (h.2 i l[i] (List.getElem?_eq_getElem (by omega))).1
  rw [Nat.zero_add, this]
  simp [hi, show i < l.length by omega]
theorem touch_own {w w' : World} {v : Value} {B : Nat} (h : Touch (fun b => v.ownBlock = some b) w w') (hB : B ≤ w.heap.size) (hv : ∀ k, v.ownBlock = some k → B ≤ k) : Below B w w' :=
  h.below hB (fun k hk e => by have := hv k e; omega)
theorem OwnF.pos {w : World} {base n cap : Nat} {a : Option Addr} {xs : List Value} (h : OwnF w base 1 (.slice a n cap) n xs) (hn : 0 < n) : ∃ g, a = some ⟨g, 0, none⟩ ∧ base ≤ g ∧ g < w.heap.size := by
  rcases h.2 with ⟨_, h0⟩ | ⟨g, cap', he, hb, hg, _⟩
  · omega
  · cases he; exact ⟨g, rfl, hb, hg⟩
end Go.Proofs.YtommbdlkmkphpaaDoor
