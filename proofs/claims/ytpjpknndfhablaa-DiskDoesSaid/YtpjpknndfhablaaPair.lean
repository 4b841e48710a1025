/- Two disks that the call itself made, apart from each other: the contracts once more. -/
import Derived.Test.YtpjpknndfhablaaLawC
namespace Go.Proofs.Ytpjpknndfhablaa
open Go.RowKit

theorem disk_not_row {w : World} {c c' : Nat} {d d' : DS} {m m' : Nat} {rb rb' : Option Nat} (h : DiskAt w c d m rb) (h' : DiskAt w c' d' m' rb') : rb ≠ some c' := by
  obtain ⟨_, rs, r, h, _, rfl⟩ := h
  obtain ⟨_, rs', r', h', _, rfl⟩ := h'
  intro hk
  have hb := h'.blk
  rcases h.own.2 with ⟨rfl, _⟩ | ⟨g', cap, cur, rfl, _, hg', _⟩
  · cases hk
  · have e : g' = c' := Option.some.inj hk
    subst e
    rw [hb] at hg'
    exact absurd (Option.some.inj hg') (by simp [diskBlock])

/-- In w: a disk in block c, another in block c', all new since w0, without a block in common. -/
structure Pair (w0 w : World) (c c' : Nat) (d d' : DS) (m m' : Nat) (rb rb' : Option Nat) : Prop where
  lo : w0.heap.size ≤ c
  lo' : w0.heap.size ≤ c'
  old : Below w0.heap.size w0 w
  ne : c ≠ c'
  one : DiskAt w c d m rb
  two : DiskAt w c' d' m' rb'
  new1 : ∀ k, rb = some k → w0.heap.size ≤ k
  new2 : ∀ k, rb' = some k → w0.heap.size ≤ k
  apart : ∀ k, rb = some k → rb' ≠ some k
theorem Pair.swap {w0 w : World} {c c' : Nat} {d d' : DS} {m m' : Nat} {rb rb' : Option Nat} (h : Pair w0 w c c' d d' m m' rb rb') : Pair w0 w c' c d' d m' m rb' rb :=
  ⟨h.lo', h.lo, h.old, h.ne.symm, h.two, h.one, h.new2, h.new1, fun k hk hk' => h.apart k hk' hk⟩
theorem Pair.turn {w0 w w' : World} {c c' : Nat} {d d' d1 : DS} {m m' m1 : Nat} {rb rb' rb1 : Option Nat} (h : Pair w0 w c c' d d' m m' rb rb') (h1 : DiskAt w' c d1 m1 rb1) (hn : Newer w rb rb1) (ht : Touch (own2 c rb) w w') :
    Pair w0 w' c c' d1 d' m1 m' rb1 rb' := by
  refine ⟨h.lo, h.lo', h.old.trans (ht.below h.old.size fun k hk ho => ?_), h.ne, h1, h.two.touch ht fun k hk ho => ?_, fun k hk => ?_, h.new2, fun k hk hk' => ?_⟩
  · have := h.lo
    rcases ho with rfl | ho
    · omega
    · have := h.new1 k ho; omega
  · rcases hk with rfl | hk
    · rcases ho with ho | ho
      · exact h.ne ho.symm
      · exact disk_not_row h.one h.two ho
    · rcases ho with rfl | ho
      · exact disk_not_row h.two h.one hk
      · exact h.apart k ho hk
  · rcases hn k hk with h2 | h2
    · exact h.new1 k h2
    · exact Nat.le_trans h.old.size h2
  · rcases hn k hk with h2 | h2
    · exact h.apart k h2 hk'
    · have := h.two.rb_lt k hk'; omega

def Duo (w0 w : World) (c c' : Nat) (d d' : DS) (m m' : Nat) : Prop := ∃ rb rb', Pair w0 w c c' d d' m m' rb rb'
theorem Duo.swap {w0 w : World} {c c' : Nat} {d d' : DS} {m m' : Nat} (h : Duo w0 w c c' d d' m m') : Duo w0 w c' c d' d m' m := by
  obtain ⟨rb, rb', h⟩ := h; exact ⟨_, _, h.swap⟩
theorem Duo.ok {w0 w : World} {c c' : Nat} {d d' : DS} {m m' : Nat} (h : Duo w0 w c c' d d' m m') : d.Ok := by obtain ⟨rb, rb', h⟩ := h; exact h.one.1
theorem Duo.old {w0 w : World} {c c' : Nat} {d d' : DS} {m m' : Nat} (h : Duo w0 w c c' d d' m m') : Below w0.heap.size w0 w := by obtain ⟨rb, rb', h⟩ := h; exact h.old
theorem Duo.mono {w0 w : World} {c c' : Nat} {d d' : DS} {m m' n n' : Nat} (h : Duo w0 w c c' d d' m m') (h1 : m ≤ n) (h2 : m' ≤ n') : Duo w0 w c c' d d' n n' := by
  obtain ⟨rb, rb', h⟩ := h; exact ⟨rb, rb', { h with one := h.one.mono h1, two := h.two.mono h2 }⟩
theorem Duo.below {w0 w w' : World} {c c' : Nat} {d d' : DS} {m m' : Nat} (h : Duo w0 w c c' d d' m m') (hb : Below w.heap.size w w') : Duo w0 w' c c' d d' m m' := by
  obtain ⟨rb, rb', h⟩ := h
  exact ⟨rb, rb', { h with old := h.old.trans (hb.mono h.old.size), one := h.one.below hb, two := h.two.below hb }⟩

section
variable {w0 w : World} {c c' : Nat} {d d' : DS} {m m' : Nat} (h : Duo w0 w c c' d d' m m')
include h
theorem append_duo (f : Int) (s : List UInt8) (hs : s.length ≤ 9223372036854775807) (hm : m < 5000000000000) :
    Calls Try.prog 31 #[.pointer (some ⟨c, 0, none⟩), .int .i64 f, .string ⟨s.toArray⟩] w fun e w' => e = .returned (.int .i64 (d.append f s).2) ∧ Duo w0 w' c c' (d.append f s).1 d' (m + 1) m' ∧ KeepsND w w' := by
  obtain ⟨rb, rb', h⟩ := h
  exact (append_any c w d m rb f s h.one hs hm).mono fun e w' ⟨he, rb1, h', hn, ht⟩ => ⟨he, ⟨_, _, h.turn h' hn ht⟩, keeps_of_touch h.one ht⟩
theorem sync_duo : Calls Try.prog 16 #[.pointer (some ⟨c, 0, none⟩)] w fun e w' => e = .returned (.int .i64 d.sync.2) ∧ Duo w0 w' c c' d.sync.1 d' m m' ∧ KeepsND w w' := by
  obtain ⟨rb, rb', h⟩ := h
  exact (sync_any c w d m rb h.one).mono fun e w' ⟨he, rb1, h', hn, ht⟩ => ⟨he, ⟨_, _, h.turn h' hn ht⟩, keeps_of_touch h.one ht⟩
theorem cut_duo (f n : Int) : Calls Try.prog 21 #[.pointer (some ⟨c, 0, none⟩), .int .i64 f, .int .i64 n] w fun e w' => e = .returned (.int .i64 (d.cut f n).2) ∧ Duo w0 w' c c' (d.cut f n).1 d' m m' ∧ KeepsND w w' := by
  obtain ⟨rb, rb', h⟩ := h
  exact (cut_any c w d m rb f n h.one).mono fun e w' ⟨he, rb1, h', hn, ht⟩ => ⟨he, ⟨_, _, h.turn h' hn ht⟩, keeps_of_touch h.one ht⟩
theorem crash_duo (k : Int) (hk : k ≤ 9223372036854775807) : Calls Try.prog 29 #[.pointer (some ⟨c, 0, none⟩), .int .i64 k] w fun e w' => e = .returned (.int .i64 (d.crash k).2) ∧ Duo w0 w' c c' (d.crash k).1 d' m m' ∧ KeepsND w w' := by
  obtain ⟨rb, rb', h⟩ := h
  exact (crash_any c w d m rb k h.one hk).mono fun e w' ⟨he, rb1, h', hn, ht⟩ => ⟨he, ⟨_, _, h.turn h' hn ht⟩, keeps_of_touch h.one ht⟩
theorem arm_duo (n k : Int) (hn : n ≤ 9223372036854775807) (hk : k ≤ 9223372036854775807) : Calls Try.prog 30 #[.pointer (some ⟨c, 0, none⟩), .int .i64 n, .int .i64 k] w fun e w' => e = .returned (.int .i64 (d.arm n k).2) ∧ Duo w0 w' c c' (d.arm n k).1 d' m m' ∧ KeepsND w w' := by
  obtain ⟨rb, rb', h⟩ := h
  exact (arm_any c w d m rb n k h.one hn hk).mono fun e w' ⟨he, h', ht⟩ => ⟨he, ⟨_, _, h.turn h' (Newer.refl _ _) ht⟩, keeps_of_touch h.one ht⟩
theorem dead_duo : Calls Try.prog 32 #[.pointer (some ⟨c, 0, none⟩)] w fun e w' => e = .returned (.bool d.dead) ∧ w = w' := by
  obtain ⟨rb, rb', h⟩ := h
  exact dead_any c w d m rb h.one
theorem waiting_duo : Calls Try.prog 17 #[.pointer (some ⟨c, 0, none⟩)] w fun e w' => e = .returned (.int .i64 d.u.length) ∧ Duo w0 w' c c' d d' m m' ∧ Below w.heap.size w w' := by
  have h0 := h
  obtain ⟨rb, rb', h⟩ := h
  obtain ⟨hok, rs, r, h1, _, _⟩ := h.one
  exact (waiting_any c w d rs r h1 hok).mono fun e w' ⟨he, hb'⟩ => ⟨he, h0.below hb', hb'⟩
theorem files_duo : Calls Try.prog 15 #[.pointer (some ⟨c, 0, none⟩)] w fun e w' => ∃ g, e = .returned (.slice (some ⟨g, 0, none⟩) 2 2) ∧ w.heap.size ≤ g ∧ Two w' g (d.file false) (d.file true) ∧ Duo w0 w' c c' d d' m m' ∧ Below w.heap.size w w' := by
  have h0 := h
  obtain ⟨rb, rb', h⟩ := h
  exact (files_any c w d m rb h.one).mono fun e w' ⟨g, he, hg, ht, hb'⟩ => ⟨g, he, hg, ht, h0.below hb', hb'⟩
theorem after_duo (k : Int) (k0 : -9223372036854775808 ≤ k) (k1 : k ≤ 9223372036854775807) : Calls Try.prog 19 #[.pointer (some ⟨c, 0, none⟩), .int .i64 k] w fun e w' => ∃ g, e = .returned (.slice (some ⟨g, 0, none⟩) 2 2) ∧ w.heap.size ≤ g ∧ Two w' g (d.left k.toNat false) (d.left k.toNat true) ∧ Duo w0 w' c c' d d' m m' ∧ Below w.heap.size w w' := by
  have h0 := h
  obtain ⟨rb, rb', h⟩ := h
  exact (after_any c w d m rb k h.one k0 k1).mono fun e w' ⟨g, he, hg, ht, hb'⟩ => ⟨g, he, hg, ht, h0.below hb', hb'⟩
end
theorem clone_duo {w0 w : World} {c : Nat} {d : DS} {m : Nat} (h : DiskNew w0 w c d m) (hm : m < 5000000000000) :
    Calls Try.prog 25 #[.pointer (some ⟨c, 0, none⟩)] w fun e w' => ∃ c', e = .returned (.pointer (some ⟨c', 0, none⟩)) ∧ Duo w0 w' c c' d d m m ∧ Below w.heap.size w w' := by
  obtain ⟨hc, hb, rb, h, hr⟩ := h
  refine (clone_any c w d m rb h hm).mono fun e w' ⟨c', rb', he, hc', h', hr', hb'⟩ => ⟨c', he, ⟨rb, rb', ⟨hc, Nat.le_trans hb.size hc', hb.trans (hb'.mono hb.size), ?_, h.below hb', h', hr, fun k hk => Nat.le_trans hb.size (hr' k hk), fun k hk hk' => ?_⟩⟩, hb'⟩
  · have := h.lt; omega
  · have := h.rb_lt k hk; have := hr' k hk'; omega
end Go.Proofs.Ytpjpknndfhablaa
