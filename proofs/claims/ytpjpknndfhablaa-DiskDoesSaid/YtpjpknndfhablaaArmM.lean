/- What an armed change does, as plain Lean: beside a disk without it. -/
import Derived.Test.YtpjpknndfhablaaLawM
namespace Go.Proofs.Ytpjpknndfhablaa

def DS.under (d : DS) (n k : Nat) : DS := { d with armed := n, keep := k }
theorem DS.file_under (d : DS) (n k : Nat) (f : Bool) : (d.under n k).file f = d.file f := by cases f <;> rfl
theorem DS.size_under (d : DS) (n k : Nat) (f : Bool) : (d.under n k).size f = d.size f := by cases f <;> rfl
theorem DS.Idle.arm {d : DS} (h : d.Idle) {n k : Int} (hn : 0 ≤ n) (hk : 0 ≤ k) : d.arm n k = (d.under n.toNat k.toNat, 0) := by
  unfold DS.arm
  rw [if_neg (by simp [h.dead]), if_neg (by omega)]; rfl
theorem DS.Idle.crash {d : DS} (h : d.Idle) {k : Int} (hk : 0 ≤ k) : d.crash k = (d.die k.toNat, 0) := by
  unfold DS.crash
  rw [if_neg (by simp [h.dead]), if_neg (by omega)]

/-- What a change does to the armed disk (r), to the other (x); a crash then falls on y. -/
inductive DS.Fate (d : DS) (n k : Nat) (r x : DS × Int) (y : DS) : Prop
  | no (e : Int) (h0 : e ≠ 0) (h2 : e ≠ 2) (hr : r = (d.under n k, e)) (hx : x = (d, e))
  | on (d' : DS) (hi : d'.Idle) (hx : x = (d', 0)) (hn : 2 ≤ n) (hr : r = (d'.under (n - 1) k, 0))
  | off (d' z : DS) (hi : y.Idle) (hx : x = (d', 0)) (hn : n = 1) (hr : r = (z, 2)) (hz : z.dead = true) (hf : ∀ f, z.file f = (y.die k).file f)

theorem DS.Idle.fate_append {d : DS} (h : d.Idle) (n k : Nat) (hn : 1 ≤ n) (f : Int) (s : List UInt8) : DS.Fate d n k ((d.under n k).append f s) (d.append f s) (d.append f s).1 := by
  by_cases hf : f = 0 ∨ f = 1
  · obtain ⟨g, hg⟩ : ∃ g, DS.fileNo f = some g := by rcases hf with rfl | rfl <;> exact ⟨_, rfl⟩
    by_cases hs : d.size g + s.length > 1048576
    · refine .no 91 (by decide) (by decide) ?_ ?_
      · unfold DS.append
        rw [if_neg (by simp [DS.under, h.dead]), hg]
        simp only []
        rw [if_pos (by rw [DS.size_under]; exact hs)]
      · unfold DS.append
        rw [if_neg (by simp [h.dead]), hg]
        simp only []
        rw [if_pos hs]
    · have hx : d.append f s = (d.lay g s, 0) := by
        unfold DS.append
        rw [if_neg (by simp [h.dead]), hg]
        simp only []
        rw [if_neg hs, if_neg (by simp [h.goes]), h.tick]
      have hr : (d.under n k).append f s = if (d.under n k).goes then (((d.under n k).tick.lay g s).die (d.under n k).keep, 2) else ((d.under n k).tick.lay g s, 0) := by
        unfold DS.append
        rw [if_neg (by simp [DS.under, h.dead]), hg]
        simp only []
        rw [if_neg (by rw [DS.size_under]; exact hs)]
      by_cases h1 : n = 1
      · subst h1
        refine .off (d.lay g s) (((d.under 1 k).tick.lay g s).die k) ?_ hx rfl ?_ rfl ?_
        · rw [hx]; exact ⟨h.dead, h.armed⟩
        · rw [hr, if_pos (by rfl)]; rfl
        · rw [hx]; intro f; cases f <;> rfl
      · refine .on (d.lay g s) ⟨h.dead, h.armed⟩ hx (by omega) ?_
        rw [hr, if_neg (by simp [DS.goes, DS.under, h1])]; rfl
  · have hg := DS.fileNo_none hf
    refine .no 90 (by decide) (by decide) ?_ ?_ <;> unfold DS.append
    · rw [if_neg (by simp [DS.under, h.dead]), hg]
    · rw [if_neg (by simp [h.dead]), hg]

theorem DS.Idle.fate_sync {d : DS} (h : d.Idle) (n k : Nat) (hn : 1 ≤ n) : DS.Fate d n k (d.under n k).sync d.sync d := by
  have hr : (d.under n k).sync = if (d.under n k).goes then ((d.under n k).tick.die (d.under n k).keep, 2) else ((d.under n k).tick.saved, 0) := by
    unfold DS.sync
    rw [if_neg (by simp [DS.under, h.dead])]
  by_cases h1 : n = 1
  · subst h1
    refine .off d.saved ((d.under 1 k).tick.die k) h h.sync rfl ?_ rfl (fun f => by cases f <;> rfl)
    rw [hr, if_pos (by rfl)]; rfl
  · refine .on d.saved ⟨h.dead, h.armed⟩ h.sync (by omega) ?_
    rw [hr, if_neg (by simp [DS.goes, DS.under, h1])]
    simp [DS.tick, DS.saved, DS.under, DS.file, DS.base]

theorem DS.Idle.fate_cut {d : DS} (h : d.Idle) (n k : Nat) (hn : 1 ≤ n) (f m : Int) : DS.Fate d n k ((d.under n k).cut f m) (d.cut f m) d := by
  by_cases hf : f = 0 ∨ f = 1
  · obtain ⟨g, hg⟩ : ∃ g, DS.fileNo f = some g := by rcases hf with rfl | rfl <;> exact ⟨_, rfl⟩
    by_cases hs : m < 0 ∨ m > d.size g ∨ DS.of g d.u ≠ []
    · refine .no 92 (by decide) (by decide) ?_ ?_
      · unfold DS.cut
        rw [if_neg (by simp [DS.under, h.dead]), hg]
        simp only []
        rw [if_pos (by rw [DS.size_under]; exact hs)]
      · unfold DS.cut
        rw [if_neg (by simp [h.dead]), hg]
        simp only []
        rw [if_pos hs]
    · have hx : d.cut f m = (d.short g m.toNat, 0) := by
        unfold DS.cut
        rw [if_neg (by simp [h.dead]), hg]
        simp only []
        rw [if_neg hs, if_neg (by simp [h.goes]), h.tick]
      have hr : (d.under n k).cut f m = if (d.under n k).goes then ((d.under n k).tick.die (d.under n k).keep, 2) else ((d.under n k).tick.short g m.toNat, 0) := by
        unfold DS.cut
        rw [if_neg (by simp [DS.under, h.dead]), hg]
        simp only []
        rw [if_neg (by rw [DS.size_under]; exact hs)]
      by_cases h1 : n = 1
      · subst h1
        refine .off (d.short g m.toNat) ((d.under 1 k).tick.die k) h hx rfl ?_ rfl (fun f => by cases f <;> rfl)
        rw [hr, if_pos (by rfl)]; rfl
      · refine .on (d.short g m.toNat) (h.short g _) hx (by omega) ?_
        rw [hr, if_neg (by simp [DS.goes, DS.under, h1])]
        cases g <;> rfl
  · have hg := DS.fileNo_none hf
    refine .no 90 (by decide) (by decide) ?_ ?_ <;> unfold DS.cut
    · rw [if_neg (by simp [DS.under, h.dead]), hg]
    · rw [if_neg (by simp [h.dead]), hg]
end Go.Proofs.Ytpjpknndfhablaa
