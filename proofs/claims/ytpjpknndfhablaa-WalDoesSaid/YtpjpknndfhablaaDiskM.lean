/- The disk of chapter 09 as plain Lean: what each call does to two files, unsafe bytes, what is armed. No program in sight. -/
namespace Go.Proofs.Ytpjpknndfhablaa

/-- The state of a disk: safe bytes of both files; unsafe ones, in order (false: file 0); what is armed; what is kept; is the power gone? -/
structure DS where
  a : List UInt8 := []
  b : List UInt8 := []
  u : List (Bool × UInt8) := []
  armed : Nat := 0
  keep : Nat := 0
  dead : Bool := false

namespace DS
def fi (f : Bool) : Int := if f then 1 else 0
def of (f : Bool) (u : List (Bool × UInt8)) : List UInt8 := (u.filter (·.1 == f)).map (·.2)
def base (d : DS) (f : Bool) : List UInt8 := if f then d.b else d.a
def left (d : DS) (k : Nat) (f : Bool) : List UInt8 := d.base f ++ of f (d.u.take k)
def file (d : DS) (f : Bool) : List UInt8 := d.base f ++ of f d.u
def size (d : DS) (f : Bool) : Nat := (d.file f).length
def die (d : DS) (k : Nat) : DS := { a := d.left k false, b := d.left k true, u := [], armed := 0, keep := d.keep, dead := true }
/-- A change is counted. -/
def tick (d : DS) : DS := { d with armed := d.armed - 1 }
def goes (d : DS) : Bool := d.armed == 1
def lay (d : DS) (f : Bool) (s : List UInt8) : DS := { d with u := d.u ++ s.map (f, ·) }
def saved (d : DS) : DS := { d with a := d.file false, b := d.file true, u := [] }
def fileNo (f : Int) : Option Bool := if f = 0 then some false else if f = 1 then some true else none
def append (d : DS) (f : Int) (s : List UInt8) : DS × Int :=
  if d.dead then (d, 2) else
  match fileNo f with
  | none => (d, 90)
  | some f => if d.size f + s.length > 1048576 then (d, 91) else
    if d.goes then ((d.tick.lay f s).die d.keep, 2) else (d.tick.lay f s, 0)
def sync (d : DS) : DS × Int :=
  if d.dead then (d, 2) else if d.goes then (d.tick.die d.keep, 2) else (d.tick.saved, 0)
def short (d : DS) (f : Bool) (n : Nat) : DS := if f then { d with b := d.b.take n } else { d with a := d.a.take n }
def cut (d : DS) (f n : Int) : DS × Int :=
  if d.dead then (d, 2) else
  match fileNo f with
  | none => (d, 90)
  | some f => if n < 0 ∨ n > d.size f ∨ of f d.u ≠ [] then (d, 92) else
    if d.goes then (d.tick.die d.keep, 2) else (d.tick.short f n.toNat, 0)
def arm (d : DS) (n k : Int) : DS × Int :=
  if d.dead then (d, 2) else if n < 0 ∨ k < 0 then (d, 1) else ({ d with armed := n.toNat, keep := k.toNat }, 0)
def crash (d : DS) (k : Int) : DS × Int :=
  if d.dead then (d, 2) else if k < 0 then (d, 1) else (d.die k.toNat, 0)
def revive (d : DS) : DS := { d with dead := false, armed := 0 }
def read (d : DS) (f : Int) : List UInt8 × Int :=
  if d.dead then ([], 2) else match fileNo f with | none => ([], 90) | some f => (d.file f, 0)
def sizeI (d : DS) (f : Int) : Int := match fileNo f with | none => -1 | some f => d.size f
/-- What every disk keeps: no file is too long; numbers are ints. -/
structure Ok (d : DS) : Prop where
  s0 : d.size false ≤ 1048576
  s1 : d.size true ≤ 1048576
  armed : d.armed ≤ 9223372036854775807
  keep : d.keep ≤ 9223372036854775807

theorem of_append (f : Bool) (u v : List (Bool × UInt8)) : of f (u ++ v) = of f u ++ of f v := by simp [of]
theorem of_map_same (f : Bool) (s : List UInt8) : of f (s.map (f, ·)) = s := by simp [of, List.filter_map, Function.comp_def]
theorem of_map_other (f g : Bool) (s : List UInt8) (h : g ≠ f) : of f (s.map (g, ·)) = [] := by simp [of, h]
theorem of_take_length_le (f : Bool) (u : List (Bool × UInt8)) (k : Nat) : (of f (u.take k)).length ≤ (of f u).length := by
  simp only [of, List.length_map]; exact ((List.take_sublist k u).filter _).length_le
theorem of_length (u : List (Bool × UInt8)) : (of false u).length + (of true u).length = u.length := by
  induction u with
  | nil => rfl
  | cons x u ih => obtain ⟨f, b⟩ := x; cases f <;> simp [of] at ih ⊢ <;> omega
theorem fileNo_of (f : Bool) : fileNo (fi f) = some f := by cases f <;> rfl
theorem fileNo_none {f : Int} (h : ¬ (f = 0 ∨ f = 1)) : fileNo f = none := by unfold fileNo; rw [if_neg (by omega), if_neg (by omega)]
theorem fileNo_zero : fileNo 0 = some false := rfl
theorem fileNo_one : fileNo 1 = some true := rfl

theorem size_lay (d : DS) (f g : Bool) (s : List UInt8) : (d.lay f s).size g = d.size g + if f = g then s.length else 0 := by
  simp only [size, file, lay, base, of_append]
  by_cases h : f = g
  · subst h; simp [of_map_same]; omega
  · simp [of_map_other g f s h, h]
theorem size_die_le (d : DS) (k : Nat) (f : Bool) : (d.die k).size f ≤ d.size f := by
  have := of_take_length_le f d.u k
  cases f <;> simp [size, file, die, base, left, of] at this ⊢ <;> omega
theorem size_tick (d : DS) (f : Bool) : d.tick.size f = d.size f := rfl
theorem size_saved (d : DS) (f : Bool) : d.saved.size f = d.size f := by cases f <;> simp [size, file, saved, base, of]
theorem die_tick (d : DS) (k : Nat) : d.tick.die k = d.die k := rfl

/-! The unsafe bytes as rows: how the program keeps them. -/
def flat (r : List (Bool × List UInt8)) : List (Bool × UInt8) := r.flatMap fun x => x.2.map (x.1, ·)
theorem flat_append (r s : List (Bool × List UInt8)) : flat (r ++ s) = flat r ++ flat s := by simp [flat]
theorem flat_one (f : Bool) (s : List UInt8) : flat [(f, s)] = s.map (f, ·) := by simp [flat]
theorem flat_take_succ {r : List (Bool × List UInt8)} {j : Nat} {f : Bool} {s : List UInt8} (h : r[j]? = some (f, s)) : flat (r.take (j + 1)) = flat (r.take j) ++ s.map (f, ·) := by
  rw [List.take_add_one, flat_append, h]; simp [flat]
theorem flat_take_le (r : List (Bool × List UInt8)) (j : Nat) : (flat (r.take j)).length ≤ (flat r).length := by
  conv => rhs; rw [← List.take_append_drop j r, flat_append]
  simp

/-- What stands in the loop of 'left' behind j rows: what k has become, and both files. -/
structure LeftRel (d : DS) (r : List (Bool × List UInt8)) (k : Int) (j : Nat) (kk : Int) (t0 t1 : List UInt8) : Prop where
  kk : kk = k - (((flat (r.take j)).take k.toNat).length : Int)
  t0 : t0 = d.base false ++ of false ((flat (r.take j)).take k.toNat)
  t1 : t1 = d.base true ++ of true ((flat (r.take j)).take k.toNat)
theorem LeftRel.zero (d : DS) (r : List (Bool × List UInt8)) (k : Int) : LeftRel d r k 0 k (d.base false) (d.base true) := by
  constructor <;> simp [flat, of]
theorem LeftRel.step {d : DS} {r : List (Bool × List UInt8)} {k : Int} {j : Nat} {kk : Int} {t0 t1 : List UInt8} (h : LeftRel d r k j kk t0 t1) {f : Bool} {s : List UInt8} (hj : r[j]? = some (f, s)) {m : Nat} (hm : (m : Int) = min (max 0 kk) s.length) :
    LeftRel d r k (j + 1) (kk - m) (t0 ++ if f then [] else s.take m) (t1 ++ if f then s.take m else []) := by
  obtain ⟨h1, h2, h3⟩ := h
  have e : (flat (r.take (j + 1))).take k.toNat = (flat (r.take j)).take k.toNat ++ (s.take m).map (f, ·) := by
    rw [flat_take_succ hj, List.take_append, List.map_take]
    congr 1
    have hl : ((flat (r.take j)).take k.toNat).length = min k.toNat (flat (r.take j)).length := List.length_take
    rw [hl] at h1
    by_cases hs : k.toNat - (flat (r.take j)).length ≤ s.length
    · congr 1; omega
    · rw [List.take_of_length_le (by simp; omega), List.take_of_length_le (by simp; omega)]
  have hm' : m ≤ s.length := by omega
  have ho : ∀ g : Bool, of g ((s.take m).map (f, ·)) = if f = g then s.take m else [] := fun g => by
    by_cases h : f = g
    · subst h; simpa using of_map_same f (s.take m)
    · simpa [h] using of_map_other g f (s.take m) h
  constructor
  · rw [e, List.length_append, List.length_map]; have := List.length_take (i := m) (l := s); omega
  · rw [e, of_append, h2, ho]; cases f <;> simp
  · rw [e, of_append, h3, ho]; cases f <;> simp
theorem LeftRel.done {d : DS} {r : List (Bool × List UInt8)} {k : Int} {kk : Int} {t0 t1 : List UInt8} (h : LeftRel d r k r.length kk t0 t1) (hu : flat r = d.u) : t0 = d.left k.toNat false ∧ t1 = d.left k.toNat true := by
  obtain ⟨_, h2, h3⟩ := h
  rw [List.take_length, hu] at h2 h3
  exact ⟨h2, h3⟩
theorem LeftRel.len {d : DS} {r : List (Bool × List UInt8)} {k : Int} {j : Nat} {kk : Int} {t0 t1 : List UInt8} (h : LeftRel d r k j kk t0 t1) (hu : flat r = d.u) (hok : d.Ok) : t0.length ≤ 1048576 ∧ t1.length ≤ 1048576 := by
  obtain ⟨_, h2, h3⟩ := h
  have hs : List.Sublist ((flat (r.take j)).take k.toNat) (flat r) := by
    refine (List.take_sublist _ _).trans ?_
    conv => rhs; rw [← List.take_append_drop j r, flat_append]
    exact List.sublist_append_left _ _
  have hl : ∀ f, (of f ((flat (r.take j)).take k.toNat)).length ≤ (of f d.u).length := fun f => by
    simp only [of, List.length_map]; rw [← hu]; exact (hs.filter _).length_le
  have h0 := hl false; have h1 := hl true
  have s0 := hok.s0; have s1 := hok.s1
  simp only [size, file, List.length_append] at s0 s1
  rw [h2, h3]; simp only [List.length_append]; omega
theorem Ok.u_len {d : DS} (hok : d.Ok) : d.u.length ≤ 2097152 := by
  have s0 := hok.s0; have s1 := hok.s1; have := of_length d.u
  simp only [size, file, List.length_append] at s0 s1; omega
theorem row_len {d : DS} {r : List (Bool × List UInt8)} (hu : flat r = d.u) (hok : d.Ok) {j : Nat} {f : Bool} {s : List UInt8} (hj : r[j]? = some (f, s)) : s.length ≤ 2097152 := by
  have h1 := hok.u_len
  have h2 := flat_take_le r (j + 1)
  rw [flat_take_succ hj, List.length_append, List.length_map, hu] at h2
  omega
/-- What stands in the loop of 'Size' behind j rows. -/
theorem count_zero (f : Bool) (r : List (Bool × List UInt8)) : (of f (flat (r.take 0))).length = 0 := by simp [flat, of]
theorem count_same {r : List (Bool × List UInt8)} {j : Nat} {f : Bool} {s : List UInt8} (h : r[j]? = some (f, s)) : (of f (flat (r.take (j + 1)))).length = (of f (flat (r.take j))).length + s.length := by
  rw [flat_take_succ h, of_append, of_map_same, List.length_append]
theorem count_other {r : List (Bool × List UInt8)} {j : Nat} {f g : Bool} {s : List UInt8} (h : r[j]? = some (g, s)) (hg : g ≠ f) : (of f (flat (r.take (j + 1)))).length = (of f (flat (r.take j))).length := by
  rw [flat_take_succ h, of_append, of_map_other f g s hg, List.append_nil]
theorem count_le {r : List (Bool × List UInt8)} (j : Nat) (f : Bool) : (of f (flat (r.take j))).length ≤ (of f (flat r)).length := by
  conv => rhs; rw [← List.take_append_drop j r, flat_append, of_append]
  simp
theorem base_len (d : DS) (f : Bool) (h : d.Ok) : (d.base f).length + (of f d.u).length ≤ 1048576 := by
  have s0 := h.s0; have s1 := h.s1
  simp only [size, file, List.length_append] at s0 s1
  cases f
  · exact s0
  · exact s1
theorem flat_len_succ {r : List (Bool × List UInt8)} {j : Nat} {f : Bool} {s : List UInt8} (h : r[j]? = some (f, s)) : (flat (r.take (j + 1))).length = (flat (r.take j)).length + s.length := by
  rw [flat_take_succ h]; simp
theorem sizeI_of (d : DS) (f : Bool) : d.sizeI (fi f) = (d.base f).length + (of f d.u).length := by
  simp [sizeI, fileNo_of, size, file]
theorem left_all (d : DS) (f : Bool) : d.left d.u.length f = d.file f := by simp [left, file]
theorem fi_of {f : Int} (h : f = 0 ∨ f = 1) : ∃ q : Bool, f = fi q := by
  rcases h with rfl | rfl
  · exact ⟨false, rfl⟩
  · exact ⟨true, rfl⟩
theorem goes_zero {d : DS} (h : d.armed = 0) : d.goes = false ∧ d.tick = d := by
  obtain ⟨a, b, u, n, k, dd⟩ := d
  simp only at h; subst h
  exact ⟨rfl, rfl⟩
theorem goes_pos {d : DS} (_h : 0 < d.armed) : ((d.armed : Int) - 1 == 0) = d.goes := by
  unfold goes
  by_cases h1 : d.armed = 1
  · simp [h1]
  · have h2 : ((d.armed : Int) - 1 == 0) = false := by simp; omega
    have h3 : (d.armed == 1) = false := by simp [h1]
    rw [h2, h3]
theorem tick_cast {d : DS} (h : 0 < d.armed) : ((d.tick.armed : Nat) : Int) = (d.armed : Int) - 1 := by simp only [tick]; omega
theorem Ok.tick {d : DS} (h : d.Ok) : d.tick.Ok := ⟨h.s0, h.s1, by have := h.armed; simp only [DS.tick]; omega, h.keep⟩
theorem Ok.die {d : DS} (h : d.Ok) (k : Nat) : (d.die k).Ok :=
  ⟨Nat.le_trans (size_die_le d k false) h.s0, Nat.le_trans (size_die_le d k true) h.s1, by simp [DS.die], h.keep⟩
theorem Ok.lay {d : DS} (h : d.Ok) (f : Bool) (s : List UInt8) (hs : d.size f + s.length ≤ 1048576) : (d.lay f s).Ok := by
  constructor
  · rw [size_lay]; have := h.s0; cases f <;> simp <;> omega
  · rw [size_lay]; have := h.s1; cases f <;> simp <;> omega
  · exact h.armed
  · exact h.keep
theorem Ok.saved {d : DS} (h : d.Ok) : d.saved.Ok := ⟨by rw [size_saved]; exact h.s0, by rw [size_saved]; exact h.s1, h.armed, h.keep⟩
theorem Ok.short {d : DS} (h : d.Ok) (f : Bool) (n : Nat) : (d.short f n).Ok := by
  have s0 := h.s0; have s1 := h.s1
  cases f
  all_goals constructor
  all_goals first
    | exact h.armed
    | exact h.keep
    | (simp [size, file, base, DS.short] at s0 s1 ⊢; omega)
theorem Ok.revive {d : DS} (h : d.Ok) : d.revive.Ok := ⟨h.s0, h.s1, by simp [DS.revive], h.keep⟩
theorem Ok.arm {d : DS} (h : d.Ok) {n k : Int} (hn : n ≤ 9223372036854775807) (hk : k ≤ 9223372036854775807) : (d.arm n k).1.Ok := by
  unfold DS.arm
  split
  · exact h
  · split
    · exact h
    · exact ⟨h.s0, h.s1, by simp; omega, by simp; omega⟩
theorem Ok.crash {d : DS} (h : d.Ok) (k : Int) : (d.crash k).1.Ok := by
  unfold DS.crash
  split
  · exact h
  · split
    · exact h
    · exact h.die _
theorem Ok.sync {d : DS} (h : d.Ok) : d.sync.1.Ok := by
  unfold DS.sync
  split
  · exact h
  · split
    · exact h.tick.die _
    · exact h.tick.saved
theorem Ok.append {d : DS} (h : d.Ok) (f : Int) (s : List UInt8) : (d.append f s).1.Ok := by
  unfold DS.append
  split
  · exact h
  · split
    · exact h
    · split
      · exact h
      · have := h.tick.lay _ s (by rw [size_tick]; exact Nat.le_of_not_lt ‹_›)
        split
        · exact this.die _
        · exact this
theorem Ok.cut {d : DS} (h : d.Ok) (f n : Int) : (d.cut f n).1.Ok := by
  unfold DS.cut
  split
  · exact h
  · split
    · exact h
    · split
      · exact h
      · split
        · exact h.tick.die _
        · exact h.tick.short _ _
theorem Ok.base_len' {d : DS} (h : d.Ok) (f : Bool) : d.size f ≤ 1048576 := by
  cases f
  · exact h.s0
  · exact h.s1
end DS
end Go.Proofs.Ytpjpknndfhablaa
