/- The closure of Open: its cuts. -/
import Derived.Test.YtpjpknndfhablaaWalJ
import Derived.Test.YtpjpknndfhablaaDiskF
namespace Go.Proofs.Ytpjpknndfhablaa
open Go.RowKit
/-- What lies in the boxes of Open: where the records end, the files, which is best, the log, the disk, the other one. -/
structure Boxes (w : World) (ba bf bb bl bd bo q : Nat) (p : Nat) (F0 F1 : List UInt8) (f : Bool) (x c : Nat) : Prop where
  a : w.cell? ⟨ba, 0, none⟩ = some (.int .i64 p)
  fs : w.cell? ⟨bf, 0, none⟩ = some (.slice (some ⟨q, 0, none⟩) 2 2)
  b : w.cell? ⟨bb, 0, none⟩ = some (.int .i64 (DS.fi f))
  l : w.cell? ⟨bl, 0, none⟩ = some (.pointer (some ⟨x, 0, none⟩))
  d : w.cell? ⟨bd, 0, none⟩ = some (.pointer (some ⟨c, 0, none⟩))
  o : w.cell? ⟨bo, 0, none⟩ = some (.int .i64 (DS.fi (!f)))
  f0 : w.cell? ⟨q, 0, none⟩ = some (.string ⟨F0.toArray⟩)
  f1 : w.cell? ⟨q, 1, none⟩ = some (.string ⟨F1.toArray⟩)
def NotIn (S : Nat → Prop) (ba bf bb bl bd bo q : Nat) : Prop := ¬ S ba ∧ ¬ S bf ∧ ¬ S bb ∧ ¬ S bl ∧ ¬ S bd ∧ ¬ S bo ∧ ¬ S q
theorem Boxes.touch {w w' : World} {ba bf bb bl bd bo q p : Nat} {F0 F1 : List UInt8} {f : Bool} {x c : Nat} (h : Boxes w ba bf bb bl bd bo q p F0 F1 f x c) {S : Nat → Prop} (ht : Touch S w w') (hn : NotIn S ba bf bb bl bd bo q) : Boxes w' ba bf bb bl bd bo q p F0 F1 f x c := by
  obtain ⟨n1, n2, n3, n4, n5, n6, n7⟩ := hn
  exact ⟨cell_touch h.a ht n1, cell_touch h.fs ht n2, cell_touch h.b ht n3, cell_touch h.l ht n4, cell_touch h.d ht n5, cell_touch h.o ht n6, cell_touch h.f0 ht n7, cell_touch h.f1 ht n7⟩
theorem Boxes.lt {w : World} {ba bf bb bl bd bo q p : Nat} {F0 F1 : List UInt8} {f : Bool} {x c : Nat} (h : Boxes w ba bf bb bl bd bo q p F0 F1 f x c) : ba < w.heap.size ∧ bf < w.heap.size ∧ bb < w.heap.size ∧ bl < w.heap.size ∧ bd < w.heap.size ∧ bo < w.heap.size ∧ q < w.heap.size :=
  ⟨World.block_lt_of_cell? _ _ h.a, World.block_lt_of_cell? _ _ h.fs, World.block_lt_of_cell? _ _ h.b, World.block_lt_of_cell? _ _ h.l, World.block_lt_of_cell? _ _ h.d, World.block_lt_of_cell? _ _ h.o, World.block_lt_of_cell? _ _ h.f0⟩
theorem NotIn.newer {w : World} {c : Nat} {rb rb' : Option Nat} {ba bf bb bl bd bo q : Nat} (h : NotIn (own2 c rb) ba bf bb bl bd bo q) (hn : Newer w rb rb') (hlt : ba < w.heap.size ∧ bf < w.heap.size ∧ bb < w.heap.size ∧ bl < w.heap.size ∧ bd < w.heap.size ∧ bo < w.heap.size ∧ q < w.heap.size) : NotIn (own2 c rb') ba bf bb bl bd bo q := by
  have key : ∀ b, b < w.heap.size → ¬ own2 c rb b → ¬ own2 c rb' b := fun b hb h0 ho => by
    rcases ho with ho | ho
    · exact h0 (.inl ho)
    · rcases hn b ho with h1 | h1
      · exact h0 (.inr h1)
      · omega
  obtain ⟨n1, n2, n3, n4, n5, n6, n7⟩ := h
  obtain ⟨l1, l2, l3, l4, l5, l6, l7⟩ := hlt
  exact ⟨key _ l1 n1, key _ l2 n2, key _ l3 n3, key _ l4 n4, key _ l5 n5, key _ l6 n6, key _ l7 n7⟩
/-- The file of Open's boxes. -/
def pickF (F0 F1 : List UInt8) (f : Bool) : List UInt8 := if f then F1 else F0
/-- The second half of the closure: the other file is cut, where it has bytes. -/
structure Half (W w' : World) (ba bf bb bl bd bo q p : Nat) (F0 F1 : List UInt8) (f : Bool) (x c : Nat) (l : Wal.LS) (d E : DS) (m : Nat) (rb : Option Nat) : Prop where
  boxes : Boxes w' ba bf bb bl bd bo q p F0 F1 f x c
  log : LogAt w' x c l
  ex : ∃ rb', DiskAt w' c E m rb' ∧ Newer W rb rb' ∧ (E.dead = true → d.dead = false → rb' = none) ∧ NotIn (own2 c rb') ba bf bb bl bd bo q
  touch : Touch (own2 c rb) W w'
theorem Half.worked {W w' : World} {ba bf bb bl bd bo q p : Nat} {F0 F1 : List UInt8} {f : Bool} {x c : Nat} {l : Wal.LS} {d E : DS} {m : Nat} {rb : Option Nat} (h : Half W w' ba bf bb bl bd bo q p F0 F1 f x c l d E m rb) : Worked x c l d E m rb W w' :=
  ⟨h.log, by obtain ⟨rb', h1, h2, h3, _⟩ := h.ex; exact ⟨rb', h1, h2, h3⟩, own3_of h.touch⟩
theorem Half.drew {W w' : World} {ba bf bb bl bd bo q p : Nat} {F0 F1 : List UInt8} {f : Bool} {x c : Nat} {l : Wal.LS} {d E : DS} {m : Nat} {rb : Option Nat} (h : Half W w' ba bf bb bl bd bo q p F0 F1 f x c l d E m rb) {n : Nat} : Half W (w'.drewN n) ba bf bb bl bd bo q p F0 F1 f x c l d E m rb := by
  have hb : Below w'.heap.size w' (w'.drewN n) := below_drewN (Below.refl _ _) n
  obtain ⟨rb', h1, h2, h3, h4⟩ := h.ex
  exact ⟨h.boxes.touch (Touch.of_below (S := fun _ => False) hb) ⟨id, id, id, id, id, id, id⟩, h.log.below hb, ⟨rb', h1.below hb, h2, h3, h4⟩, Touch.trans h.touch (Touch.of_below (S := fun _ => False) hb) (fun _ _ h => h.elim)⟩
/-- A cut within the closure. -/
theorem half_cut {W w1 : World} {ba bf bb bl bd bo q p : Nat} {F0 F1 : List UInt8} {f : Bool} {x c : Nat} {l : Wal.LS} {d E : DS} {m : Nat} {rb : Option Nat} (h : Half W w1 ba bf bb bl bd bo q p F0 F1 f x c l d E m rb) (g n : Int) (hEd : d.dead = false → E.dead = false) :
    Calls Try.prog 21 #[.pointer (some ⟨c, 0, none⟩), .int .i64 g, .int .i64 n] w1 fun e w' => e = .returned (.int .i64 (E.cut g n).2) ∧ Half W w' ba bf bb bl bd bo q p F0 F1 f x c l d (E.cut g n).1 m rb := by
  obtain ⟨rb', h1, h2, h3, h4⟩ := h.ex
  refine (cut_anyN c w1 E m rb' g n h1).mono ?_
  rintro e w' ⟨he, rb2, k1, k2, k3, k4⟩
  exact ⟨he, h.boxes.touch k3 h4, h.log.touch k3 (h.log.apart h1), ⟨rb2, k1, h2.trans k2 h.touch.size, fun a b => k4 a (hEd b), h4.newer k2 h.boxes.lt⟩, own2_trans h.touch h2 k3⟩
theorem cut_dead {d : DS} {f n : Int} (h : (d.cut f n).2 = 0) : d.dead = false → (d.cut f n).1.dead = false := by
  intro hd
  unfold DS.cut at h ⊢
  rw [if_neg (by simp [hd])] at h ⊢
  split
  · exact hd
  · rename_i q hq
    rw [hq] at h
    simp only at h
    split
    · exact hd
    · rename_i h1
      rw [if_neg h1] at h
      split
      · rename_i h2; rw [if_pos h2] at h; cases h
      · cases q <;> exact hd
end Go.Proofs.Ytpjpknndfhablaa
