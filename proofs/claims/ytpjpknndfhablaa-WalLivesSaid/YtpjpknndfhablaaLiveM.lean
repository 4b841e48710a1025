/- What may be told behind a life of a log; how the law's states lie in memory. -/
import Derived.Test.YtpjpknndfhablaaNextA
import Derived.Test.YtpjpknndfhablaaOpen
namespace Go.Proofs.Ytpjpknndfhablaa
open Go.RowKit
/-- The states from the last safe one on. -/
def mays (snap : List UInt8) (rs : List (List UInt8)) (m : Nat) : List StV := (List.range (rs.length + 1 - m)).map fun j => (snap, rs.take (m + j))
theorem mays_all (snap : List UInt8) (rs : List (List UInt8)) : mays snap rs rs.length = [(snap, rs)] := by
  unfold mays
  rw [show rs.length + 1 - rs.length = 1 by omega]
  simp
theorem mays_snoc (snap : List UInt8) (rs : List (List UInt8)) (s : List UInt8) (m : Nat) (h : m ≤ rs.length) : mays snap (rs ++ [s]) m = mays snap rs m ++ [(snap, rs ++ [s])] := by
  unfold mays
  rw [show (rs ++ [s]).length + 1 - m = (rs.length + 1 - m) + 1 by simp; omega, List.range_succ, List.map_append]
  congr 1
  · apply List.map_congr_left
    intro j hj
    rw [List.mem_range] at hj
    rw [List.take_append_of_le_length (by omega)]
  · simp only [List.map_cons, List.map_nil]
    rw [List.take_of_length_le (by simp; omega)]
theorem mays_mem (snap : List UInt8) (rs : List (List UInt8)) (m j : Nat) (h1 : m ≤ j) (h2 : j ≤ rs.length) : (snap, rs.take j) ∈ mays snap rs m := by
  unfold mays
  exact List.mem_map.2 ⟨j - m, List.mem_range.2 (by omega), by rw [show m + (j - m) = j by omega]⟩
theorem mays_len (snap : List UInt8) (rs : List (List UInt8)) (m : Nat) : ∀ x ∈ mays snap rs m, x.2.length ≤ rs.length := by
  intro x hx
  obtain ⟨j, _, rfl⟩ := List.mem_map.1 hx
  simp only [List.length_take]
  omega
theorem Wal.Live.arm {l : Wal.LS} {d : DS} {snap : List UInt8} {rs : List (List UInt8)} {m : Nat} (h : Wal.Live l d snap rs m) (n k : Nat) : Wal.Live l { d with armed := n, keep := k } snap rs m :=
  ⟨h.ld, h.dd, h.g1, h.g2, h.n, h.sl, h.short, h.le, by have := h.file; cases hf : l.f <;> rw [hf] at this <;> exact this, h.u, by have := h.other; cases hf : l.f <;> rw [hf] at this <;> exact this⟩
theorem arm_ok {d : DS} (hd : d.dead = false) {n k : Int} (hn : 0 ≤ n) (hk : 0 ≤ k) : d.arm n k = ({ d with armed := n.toNat, keep := k.toNat }, 0) := by
  unfold DS.arm
  rw [if_neg (by simp [hd]), if_neg (by omega)]
theorem crash_ok {d : DS} (hd : d.dead = false) {k : Int} (hk : 0 ≤ k) : d.crash k = (d.die k.toNat, 0) := by
  unfold DS.crash
  rw [if_neg (by simp [hd]), if_neg (by omega)]
/-- States as they lie, one behind the other, each with its slice's value. -/
def stRow (l : List (StV × Value)) : List Value := l.flatMap fun p => [.string ⟨p.1.1.toArray⟩, p.2]
theorem stRow_append (l m : List (StV × Value)) : stRow (l ++ m) = stRow l ++ stRow m := by simp [stRow]
theorem stRow_length (l : List (StV × Value)) : (stRow l).length = l.length * 2 := by
  induction l with
  | nil => rfl
  | cons p l ih => simp only [stRow, List.flatMap_cons, List.length_append] at ih ⊢; rw [ih]; simp; omega
theorem stRow_at : ∀ {l : List (StV × Value)} {i : Nat} {p : StV × Value}, l[i]? = some p → (stRow l)[i * 2]? = some (.string ⟨p.1.1.toArray⟩) ∧ (stRow l)[i * 2 + 1]? = some p.2
  | [], i, p, h => by simp at h
  | q :: l, 0, p, h => by simp at h; subst h; simp [stRow]
  | q :: l, i + 1, p, h => by
    have := stRow_at (l := l) (i := i) (p := p) (by simpa using h)
    rw [show (i + 1) * 2 = i * 2 + 1 + 1 by omega]
    simpa [stRow] using this
theorem Try.stInfo : (Try.prog.info? 79).map (fun i => (i.zero, i.size, i.bytes)) = some (some (.agg #[.string ⟨#[]⟩, .slice none 0 0]), 2, 40) := by kernel_rfl
/-- What lies beside log and disk in the loop of lived. -/
structure Fit (w wr : World) (base B6 B7 : Nat) (x : StV) (rv vm : Value) (ml : List (StV × Value)) (life : Array Value) : Prop where
  keeps : KeepsOff logT w wr
  b6 : wr.heap[B6]? = some (.cells #[.string ⟨x.1.toArray⟩, rv] 79 (0, 0))
  b7 : wr.heap[B7]? = some (.cells life 82 (0, 0))
  row : Row wr rv x.2
  own : wr.ownsRow base 79 2 vm ml.length (stRow ml)
  rows : ∀ p ∈ ml, Row wr p.2 p.1.2
  pos : 0 < ml.length
  lo : w.heap.size ≤ B6 ∧ B6 < base ∧ B7 < base ∧ w.heap.size ≤ base
theorem Fit.onward {w wr wr' : World} {base B6 B7 : Nat} {x : StV} {rv vm : Value} {ml : List (StV × Value)} {life : Array Value} (h : Fit w wr base B6 B7 x rv vm ml life) (hk : KeepsOff logT wr wr') : Fit w wr' base B6 B7 x rv vm ml life :=
  ⟨h.keeps.trans hk, hk.cells h.b6 (by decide), hk.cells h.b7 (by decide), h.row.keepsOff hk (by decide), hk.own h.own (by decide), fun p hp => (h.rows p hp).keepsOff hk (by decide), h.pos, h.lo⟩
theorem Fit.below {w wr wr' : World} {base B6 B7 : Nat} {x : StV} {rv vm : Value} {ml : List (StV × Value)} {life : Array Value} (h : Fit w wr base B6 B7 x rv vm ml life) (hb : Below wr.heap.size wr wr') : Fit w wr' base B6 B7 x rv vm ml life := h.onward (.below hb)
theorem Fit.slice {w wr : World} {base B6 B7 : Nat} {x : StV} {rv vm : Value} {ml : List (StV × Value)} {life : Array Value} (h : Fit w wr base B6 B7 x rv vm ml life) : ∃ g cap cur, vm = .slice (some ⟨g, 0, none⟩) ml.length cap ∧ base ≤ g ∧ wr.heap[g]? = some (.cells cur 79 (0, 0)) ∧ cur.toList.take (ml.length * 2) = stRow ml := by
  have hp := h.pos
  rcases h.own.2 with ⟨_, h0⟩ | ⟨g, cap, cur, hv, hb, hg, _, _, _, ht⟩
  · omega
  · exact ⟨g, cap, cur, hv, hb, hg, by simpa using ht⟩
theorem Fit.base {w wr : World} {base B6 B7 : Nat} {x : StV} {rv vm : Value} {ml : List (StV × Value)} {life : Array Value} (h : Fit w wr base B6 B7 x rv vm ml life) : base ≤ wr.heap.size := by
  obtain ⟨g, _, _, _, hb, hg, _⟩ := h.slice
  have := heap_lt hg
  omega
theorem Fit.states {w wr : World} {base B6 B7 : Nat} {x : StV} {rv vm : Value} {ml : List (StV × Value)} {life : Array Value} (h : Fit w wr base B6 B7 x rv vm ml life) : States wr vm (ml.map (·.1)) := by
  obtain ⟨g, cap, cur, hv, _, hg, ht⟩ := h.slice
  refine ⟨g, cap, cur, by rw [List.length_map]; exact hv, hg, fun i y hi => ?_⟩
  rw [List.getElem?_map] at hi
  obtain ⟨p, hp, rfl⟩ := Option.map_eq_some_iff.1 hi
  obtain ⟨h0, h1⟩ := stRow_at hp
  have hil : i < ml.length := (List.getElem?_eq_some_iff.1 hp).1
  have key : ∀ (j : Nat) (v : Value), (stRow ml)[j]? = some v → cur[j]? = some v := fun j v hj => by
    rw [← ht, List.getElem?_take] at hj
    split at hj
    · simpa using hj
    · cases hj
  exact ⟨key _ _ h0, p.2, key _ _ h1, h.rows p (List.mem_of_getElem? hp)⟩
theorem Fit.touched {w wr wr' : World} {base B6 B7 : Nat} {x : StV} {rv vm : Value} {ml : List (StV × Value)} {life : Array Value} (h : Fit w wr base B6 B7 x rv vm ml life) {S : Nat → Prop} (ht : Touch S wr wr') (hS : ∀ k, S k → w.heap.size ≤ k) : KeepsOff logT w wr' := fun g o hg hn => by
  have h1 := h.keeps g o hg hn
  refine (ht.block g (heap_lt h1) (fun hs => ?_)).trans h1
  have := hS g hs
  have := heap_lt hg
  omega
/-- The state is set anew. -/
theorem Fit.turn {w wr : World} {base B6 B7 : Nat} {x : StV} {rv vm : Value} {ml : List (StV × Value)} {life : Array Value} (h : Fit w wr base B6 B7 x rv vm ml life) {y : StV} {ru : Value} (hr : Row wr ru y.2) (hne : B6 ≠ B7) :
    Fit w ((wr.setCell ⟨B6, 0, none⟩ (.string ⟨y.1.toArray⟩)).setCell ⟨B6, 1, none⟩ ru) base B6 B7 y ru vm ml life := by
  obtain ⟨l1, l2, l3, l4⟩ := h.lo
  have ht : Touch (· = B6) wr ((wr.setCell ⟨B6, 0, none⟩ (.string ⟨y.1.toArray⟩)).setCell ⟨B6, 1, none⟩ ru) := ((Touch.refl (· = B6) wr).setCell (a := ⟨B6, 0, none⟩) _ (fun _ => rfl)).setCell (a := ⟨B6, 1, none⟩) _ (fun _ => rfl)
  have hk : KeepsOff [79] wr ((wr.setCell ⟨B6, 0, none⟩ (.string ⟨y.1.toArray⟩)).setCell ⟨B6, 1, none⟩ ru) := .of_touch (by rintro k rfl; exact ⟨_, _, _, h.b6, by simp⟩) ht
  refine ⟨h.touched ht (fun k hk => by subst hk; exact l1), set_two h.b6, hk.cells h.b7 (by decide), hr.keepsOff hk (by decide), own_touch h.own ht (fun k hk e => ?_), fun p hp => (h.rows p hp).keepsOff hk (by decide), h.pos, h.lo⟩
  have := own_lo' h.own k hk
  omega
/-- One more state in the row. -/
theorem Fit.push {w wr w1 : World} {base B6 B7 : Nat} {x : StV} {rv vm vm' : Value} {ml : List (StV × Value)} {life : Array Value} (h : Fit w wr base B6 B7 x rv vm ml life) {y : StV} {ru : Value} (hr : Row wr ru y.2)
    (ho : w1.ownsRow base 79 2 vm' (ml.length + 1) (stRow ml ++ [.string ⟨y.1.toArray⟩, ru])) (hg : wr.grownBy w1 vm.ownBlock) : Fit w w1 base B6 B7 x rv vm' (ml ++ [(y, ru)]) life := by
  obtain ⟨l1, l2, l3, l4⟩ := h.lo
  have ht := touch_of_grown hg
  have hty : Typed [79] wr (fun k => vm.ownBlock = some k) := typed_own h.own (by simp)
  have hk := KeepsOff.of_touch hty ht
  have hlo : ∀ k, vm.ownBlock = some k → base ≤ k := fun k hk => own_lo' h.own k hk
  refine ⟨h.touched ht (fun k hk => by have := hlo k hk; omega), (ht.block B6 (heap_lt h.b6) (fun e => by have := hlo B6 e; omega)).trans h.b6, hk.cells h.b7 (by decide), h.row.keepsOff hk (by decide), ?_, fun p hp => ?_, by simp, h.lo⟩
  · rw [List.length_append, stRow_append]
    exact ho
  · rcases List.mem_append.1 hp with hp | hp
    · exact (h.rows p hp).keepsOff hk (by decide)
    · simp only [List.mem_singleton] at hp
      subst hp
      exact hr.keepsOff hk (by decide)
/-- The row is made anew, of one state. -/
theorem Fit.anew {w wr : World} {base B6 B7 : Nat} {x : StV} {rv vm : Value} {ml : List (StV × Value)} {life : Array Value} (h : Fit w wr base B6 B7 x rv vm ml life) {y : StV} {ru : Value} (hr : Row wr ru y.2) :
    Fit w (wr.alloc (.cells #[.string ⟨y.1.toArray⟩, ru] 79)) base B6 B7 x rv (.slice (some ⟨wr.heap.size, 0, none⟩) 1 1) [(y, ru)] life := by
  have hb := balloc wr (.cells #[.string ⟨y.1.toArray⟩, ru] 79)
  have h2 := h.below hb
  refine ⟨h2.keeps, h2.b6, h2.b7, h2.row, ⟨rfl, .inr ⟨wr.heap.size, 1, _, rfl, h.base, heap_new wr _, Nat.le_refl _, by decide, rfl, rfl⟩⟩, fun p hp => ?_, by simp, h.lo⟩
  simp only [List.mem_singleton] at hp
  subst hp
  exact hr.below hb
theorem fit_start {w W : World} {x : StV} {rv : Value} {life : Array Value} (hw : ((w.alloc (.cells #[.string ⟨x.1.toArray⟩, rv] 79)).alloc (.cells life 82)).alloc (.cells #[.string ⟨x.1.toArray⟩, rv] 79) = W) (hr : Row w rv x.2) :
    Fit w W (w.heap.size + 1 + 1) w.heap.size (w.heap.size + 1) x rv (.slice (some ⟨w.heap.size + 1 + 1, 0, none⟩) 1 1) [(x, rv)] life ∧ Below w.heap.size w W := by
  obtain ⟨n0, n1, n2, hb⟩ := boxes3 _ _ _ hw
  refine ⟨⟨.below hb, n0, n1, hr.below hb, ⟨rfl, .inr ⟨_, 1, _, rfl, Nat.le_refl _, n2, Nat.le_refl _, by decide, rfl, rfl⟩⟩, fun p hp => ?_, by simp, by omega⟩, hb⟩
  simp only [List.mem_singleton] at hp
  subst hp
  exact hr.below hb
theorem Wal.Live.few' {l : Wal.LS} {d : DS} {snap : List UInt8} {rs : List (List UInt8)} {m : Nat} (h : Wal.Live l d snap rs m) (hok : d.Ok) : rs.length ≤ 131072 ∧ l.n = rs.length := by
  have h1 := hok.base_len' l.f
  rw [DS.size, (Wal.of_u h).1, List.length_append] at h1
  have := Wal.frames_length_le rs
  exact ⟨by omega, h.n⟩
end Go.Proofs.Ytpjpknndfhablaa
