/- Calls of chapter 09's laws, as plain Lean: a script of calls on one disk; what holds behind it. -/
import Derived.Test.YtpjpknndfhablaaDiskM
namespace Go.Proofs.Ytpjpknndfhablaa

structure OpV where
  on : Int
  kind : Int
  a : Int
  b : Int
  s : List UInt8

/-- What a log may call. -/
def DS.play1 (d : DS) (o : OpV) : DS := if o.kind = 1 then (d.append o.a o.s).1 else if o.kind = 2 then d.sync.1 else if o.kind = 3 then (d.cut o.a o.b).1 else d
def DS.plays (d : DS) (l : List OpV) : DS := l.foldl DS.play1 d
theorem DS.plays_succ {d : DS} {l : List OpV} {j : Nat} {o : OpV} (h : l[j]? = some o) : d.plays (l.take (j + 1)) = (d.plays (l.take j)).play1 o := by
  rw [List.take_add_one, h]; simp [DS.plays]
theorem DS.Ok.play1 {d : DS} (h : d.Ok) (o : OpV) : (d.play1 o).Ok := by
  unfold DS.play1
  split
  · exact h.append _ _
  · split
    · exact h.sync
    · split
      · exact h.cut _ _
      · exact h
theorem DS.Ok.plays {d : DS} (h : d.Ok) : ∀ l : List OpV, (d.plays l).Ok := fun l => by
  unfold DS.plays
  induction l generalizing d with
  | nil => exact h
  | cons o l ih => exact ih (h.play1 o)

/-- The power is there, and nothing is armed. -/
structure DS.Idle (d : DS) : Prop where
  dead : d.dead = false
  armed : d.armed = 0
theorem DS.Idle.goes {d : DS} (h : d.Idle) : d.goes = false := by simp [DS.goes, h.armed]
theorem DS.Idle.tick {d : DS} (h : d.Idle) : d.tick = d := (DS.goes_zero h.armed).2
theorem DS.Idle.play1 {d : DS} (h : d.Idle) (o : OpV) : (d.play1 o).Idle := by
  unfold DS.play1
  split
  · unfold DS.append
    rw [if_neg (by simp [h.dead])]
    split
    · exact h
    · split
      · exact h
      · rw [if_neg (by simp [h.goes]), h.tick]; exact ⟨h.dead, h.armed⟩
  · split
    · unfold DS.sync
      rw [if_neg (by simp [h.dead]), if_neg (by simp [h.goes]), h.tick]; exact ⟨h.dead, h.armed⟩
    · split
      · unfold DS.cut
        rw [if_neg (by simp [h.dead])]
        split
        · exact h
        · split
          · exact h
          · rw [if_neg (by simp [h.goes]), h.tick]
            unfold DS.short
            split <;> exact ⟨h.dead, h.armed⟩
      · exact h
theorem DS.Idle.plays {d : DS} (h : d.Idle) : ∀ l : List OpV, (d.plays l).Idle := fun l => by
  unfold DS.plays
  induction l generalizing d with
  | nil => exact h
  | cons o l ih => exact ih (h.play1 o)

theorem DS.Idle.sync {d : DS} (h : d.Idle) : d.sync = (d.saved, 0) := by
  unfold DS.sync
  rw [if_neg (by simp [h.dead]), if_neg (by simp [h.goes]), h.tick]
theorem DS.Idle.saved {d : DS} (h : d.Idle) : d.saved.Idle := ⟨h.dead, h.armed⟩
theorem DS.Idle.short {d : DS} (h : d.Idle) (f : Bool) (n : Nat) : (d.short f n).Idle := by unfold DS.short; split <;> exact ⟨h.dead, h.armed⟩
theorem DS.file_saved (d : DS) (f : Bool) : d.saved.file f = d.file f := by cases f <;> simp [DS.file, DS.saved, DS.base, DS.of]
theorem DS.left_saved (d : DS) (k : Nat) (f : Bool) : d.saved.left k f = d.file f := by cases f <;> simp [DS.left, DS.file, DS.saved, DS.base, DS.of]
theorem DS.u_saved (d : DS) : d.saved.u = [] := rfl
theorem DS.u_short (d : DS) (f : Bool) (n : Nat) : (d.short f n).u = d.u := by unfold DS.short; split <;> rfl
theorem DS.file_short (d : DS) (hu : d.u = []) (f : Bool) (n : Nat) : (d.short f n).file f = (d.file f).take n := by cases f <;> simp [DS.file, DS.short, DS.base, DS.of, hu]
theorem DS.file_short_other (d : DS) (f : Bool) (n : Nat) : (d.short f n).file (!f) = d.file (!f) := by cases f <;> simp [DS.file, DS.short, DS.base, DS.of]
theorem DS.Idle.cut {d : DS} (h : d.Idle) (hu : d.u = []) (f : Bool) (n : Int) (h0 : 0 ≤ n) (h1 : n ≤ (d.file f).length) : d.cut (DS.fi f) n = (d.short f n.toNat, 0) := by
  unfold DS.cut
  rw [if_neg (by simp [h.dead]), DS.fileNo_of]
  simp only []
  rw [if_neg (by rw [hu, DS.size]; simp [DS.of]; omega), if_neg (by simp [h.goes]), h.tick]
theorem DS.read_of {d : DS} (h : d.Idle) (f : Bool) : d.read (DS.fi f) = (d.file f, 0) := by
  unfold DS.read; rw [if_neg (by simp [h.dead]), DS.fileNo_of]
theorem DS.sizeI_file (d : DS) (f : Bool) : d.sizeI (DS.fi f) = ((d.file f).length : Int) := by simp [DS.sizeI, DS.fileNo_of, DS.size]
end Go.Proofs.Ytpjpknndfhablaa
