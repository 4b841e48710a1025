/- A disk that the call itself made: the contracts once more, for laws over one disk. And small functions of the law's own. -/
import Derived.Test.YtpjpknndfhablaaRefJ
namespace Go.Proofs.Ytpjpknndfhablaa
open Go.RowKit

/-- In w block c is a disk in state d, all its blocks made since w0; nothing older has turned. -/
def DiskNew (w0 w : World) (c : Nat) (d : DS) (m : Nat) : Prop := w0.heap.size ≤ c ∧ Below w0.heap.size w0 w ∧ ∃ rb, DiskAt w c d m rb ∧ ∀ k, rb = some k → w0.heap.size ≤ k

theorem DiskNew.ok {w0 w : World} {c : Nat} {d : DS} {m : Nat} (h : DiskNew w0 w c d m) : d.Ok := by obtain ⟨_, _, rb, h, _⟩ := h; exact h.1
theorem DiskNew.size {w0 w : World} {c : Nat} {d : DS} {m : Nat} (h : DiskNew w0 w c d m) : w0.heap.size ≤ w.heap.size := h.2.1.size
theorem DiskNew.turn {w0 w w' : World} {c : Nat} {d' : DS} {m' : Nat} {rb rb' : Option Nat} (hc : w0.heap.size ≤ c) (hb : Below w0.heap.size w0 w) (hr : ∀ k, rb = some k → w0.heap.size ≤ k)
    (h' : DiskAt w' c d' m' rb') (hn : Newer w rb rb') (ht : Touch (own2 c rb) w w') : DiskNew w0 w' c d' m' := by
  refine ⟨hc, hb.trans (ht.below hb.size (fun k hk ho => ?_)), rb', h', fun k hk => ?_⟩
  · rcases ho with rfl | ho
    · omega
    · have := hr k ho; omega
  · rcases hn k hk with h | h
    · exact hr k h
    · exact Nat.le_trans hb.size h
theorem DiskNew.below {w0 w w' : World} {c : Nat} {d : DS} {m : Nat} (h : DiskNew w0 w c d m) (hb : Below w.heap.size w w') : DiskNew w0 w' c d m := by
  obtain ⟨hc, hb0, rb, h, hr⟩ := h
  exact ⟨hc, hb0.trans (hb.mono hb0.size), rb, h.below hb, hr⟩
theorem DiskNew.mono {w0 w : World} {c : Nat} {d : DS} {m n : Nat} (h : DiskNew w0 w c d m) (hmn : m ≤ n) : DiskNew w0 w c d n := by
  obtain ⟨hc, hb0, rb, h, hr⟩ := h
  exact ⟨hc, hb0, rb, h.mono hmn, hr⟩
section
variable {w0 w : World} {c : Nat} {d : DS} {m : Nat} (h : DiskNew w0 w c d m)
include h
theorem append_new (f : Int) (s : List UInt8) (hs : s.length ≤ 9223372036854775807) (hm : m < 5000000000000) :
    Calls Try.prog 31 #[.pointer (some ⟨c, 0, none⟩), .int .i64 f, .string ⟨s.toArray⟩] w fun e w' => e = .returned (.int .i64 (d.append f s).2) ∧ DiskNew w0 w' c (d.append f s).1 (m + 1) := by
  obtain ⟨hc, hb, rb, h, hr⟩ := h
  exact (append_any c w d m rb f s h hs hm).mono fun e w' ⟨he, rb', h', hn, ht⟩ => ⟨he, .turn hc hb hr h' hn ht⟩
theorem sync_new : Calls Try.prog 16 #[.pointer (some ⟨c, 0, none⟩)] w fun e w' => e = .returned (.int .i64 d.sync.2) ∧ DiskNew w0 w' c d.sync.1 m := by
  obtain ⟨hc, hb, rb, h, hr⟩ := h
  exact (sync_any c w d m rb h).mono fun e w' ⟨he, rb', h', hn, ht⟩ => ⟨he, .turn hc hb hr h' hn ht⟩
theorem cut_new (f n : Int) : Calls Try.prog 21 #[.pointer (some ⟨c, 0, none⟩), .int .i64 f, .int .i64 n] w fun e w' => e = .returned (.int .i64 (d.cut f n).2) ∧ DiskNew w0 w' c (d.cut f n).1 m := by
  obtain ⟨hc, hb, rb, h, hr⟩ := h
  exact (cut_any c w d m rb f n h).mono fun e w' ⟨he, rb', h', hn, ht⟩ => ⟨he, .turn hc hb hr h' hn ht⟩
theorem crash_new (k : Int) (hk : k ≤ 9223372036854775807) : Calls Try.prog 29 #[.pointer (some ⟨c, 0, none⟩), .int .i64 k] w fun e w' => e = .returned (.int .i64 (d.crash k).2) ∧ DiskNew w0 w' c (d.crash k).1 m := by
  obtain ⟨hc, hb, rb, h, hr⟩ := h
  exact (crash_any c w d m rb k h hk).mono fun e w' ⟨he, rb', h', hn, ht⟩ => ⟨he, .turn hc hb hr h' hn ht⟩
theorem arm_new (n k : Int) (hn : n ≤ 9223372036854775807) (hk : k ≤ 9223372036854775807) : Calls Try.prog 30 #[.pointer (some ⟨c, 0, none⟩), .int .i64 n, .int .i64 k] w fun e w' => e = .returned (.int .i64 (d.arm n k).2) ∧ DiskNew w0 w' c (d.arm n k).1 m := by
  obtain ⟨hc, hb, rb, h, hr⟩ := h
  exact (arm_any c w d m rb n k h hn hk).mono fun e w' ⟨he, h', ht⟩ => ⟨he, .turn hc hb hr h' (Newer.refl _ _) ht⟩
theorem revive_new : Calls Try.prog 45 #[.pointer (some ⟨c, 0, none⟩)] w fun e w' => e = .returned (.tuple #[]) ∧ DiskNew w0 w' c d.revive m := by
  obtain ⟨hc, hb, rb, h, hr⟩ := h
  exact (revive_any c w d m rb h).mono fun e w' ⟨he, h', ht⟩ => ⟨he, .turn hc hb hr h' (Newer.refl _ _) ht⟩
theorem dead_new : Calls Try.prog 32 #[.pointer (some ⟨c, 0, none⟩)] w fun e w' => e = .returned (.bool d.dead) ∧ w = w' := by
  obtain ⟨hc, hb, rb, h, hr⟩ := h
  exact dead_any c w d m rb h
theorem waiting_new : Calls Try.prog 17 #[.pointer (some ⟨c, 0, none⟩)] w fun e w' => e = .returned (.int .i64 d.u.length) ∧ DiskNew w0 w' c d m ∧ Below w.heap.size w w' := by
  have h0 := h
  obtain ⟨hc, hb, rb, ⟨hok, rs, r, h, _, _⟩, hr⟩ := h
  exact (waiting_any c w d rs r h hok).mono fun e w' ⟨he, hb'⟩ => ⟨he, h0.below hb', hb'⟩
theorem size_new (f : Int) : Calls Try.prog 22 #[.pointer (some ⟨c, 0, none⟩), .int .i64 f] w fun e w' => e = .returned (.int .i64 (d.sizeI f)) ∧ DiskNew w0 w' c d m ∧ Below w.heap.size w w' := by
  have h0 := h
  obtain ⟨hc, hb, rb, ⟨hok, rs, r, h, _, _⟩, hr⟩ := h
  exact (size_any c w d rs r f h hok).mono fun e w' ⟨he, hb'⟩ => ⟨he, h0.below hb', hb'⟩
theorem read_new (f : Int) : Calls Try.prog 23 #[.pointer (some ⟨c, 0, none⟩), .int .i64 f] w fun e w' => e = .returned (.tuple #[.string ⟨(d.read f).1.toArray⟩, .int .i64 (d.read f).2]) ∧ DiskNew w0 w' c d m ∧ Below w.heap.size w w' := by
  have h0 := h
  obtain ⟨hc, hb, rb, h, hr⟩ := h
  exact (read_any c w d m rb f h).mono fun e w' ⟨he, hb'⟩ => ⟨he, h0.below hb', hb'⟩
theorem files_new : Calls Try.prog 15 #[.pointer (some ⟨c, 0, none⟩)] w fun e w' => ∃ g, e = .returned (.slice (some ⟨g, 0, none⟩) 2 2) ∧ w.heap.size ≤ g ∧ Two w' g (d.file false) (d.file true) ∧ DiskNew w0 w' c d m ∧ Below w.heap.size w w' := by
  have h0 := h
  obtain ⟨hc, hb, rb, h, hr⟩ := h
  exact (files_any c w d m rb h).mono fun e w' ⟨g, he, hg, ht, hb'⟩ => ⟨g, he, hg, ht, h0.below hb', hb'⟩
theorem after_new (k : Int) (h0 : -9223372036854775808 ≤ k) (h1 : k ≤ 9223372036854775807) : Calls Try.prog 19 #[.pointer (some ⟨c, 0, none⟩), .int .i64 k] w fun e w' => ∃ g, e = .returned (.slice (some ⟨g, 0, none⟩) 2 2) ∧ w.heap.size ≤ g ∧ Two w' g (d.left k.toNat false) (d.left k.toNat true) ∧ DiskNew w0 w' c d m ∧ Below w.heap.size w w' := by
  have hN := h
  obtain ⟨hc, hb, rb, h, hr⟩ := h
  exact (after_any c w d m rb k h h0 h1).mono fun e w' ⟨g, he, hg, ht, hb'⟩ => ⟨g, he, hg, ht, hN.below hb', hb'⟩
end

/-- Whatever is no disk's lies as it lay. -/
def NotDisk (o : Obj) : Prop := ∀ c f, o ≠ .cells c 103 f ∧ o ≠ .cells c 106 f
def KeepsND (w w' : World) : Prop := ∀ (g : Nat) (o : Obj), w.heap[g]? = some o → NotDisk o → w'.heap[g]? = some o
theorem KeepsND.below {w w' : World} (h : Below w.heap.size w w') : KeepsND w w' := fun _ _ hg _ => stays hg h
theorem KeepsND.trans {w w1 w2 : World} (h : KeepsND w w1) (h' : KeepsND w1 w2) : KeepsND w w2 := fun g o hg hn => h' g o (h g o hg hn) hn
theorem keeps_of_touch {w w' : World} {c : Nat} {d : DS} {m : Nat} {rb : Option Nat} (h : DiskAt w c d m rb) (ht : Touch (own2 c rb) w w') : KeepsND w w' := by
  intro g o hg hn
  refine (ht.block g (heap_lt hg) ?_).trans hg
  obtain ⟨_, rs, r, h, _, rfl⟩ := h
  rintro (rfl | ho)
  · have := h.blk; rw [hg] at this
    exact (hn _ _).1 (Option.some.inj this)
  · rcases h.own.2 with ⟨rfl, _⟩ | ⟨g', cap, cur, rfl, _, hg', _⟩
    · cases ho
    · have e : g' = g := Option.some.inj ho
      subst e
      rw [hg] at hg'
      exact (hn _ _).2 (Option.some.inj hg')
theorem Two.keeps {w w' : World} {g : Nat} {s t : List UInt8} (h : Two w g s t) (hk : KeepsND w w') : Two w' g s t := by
  obtain ⟨cur, hg, h0, h1⟩ := h
  exact ⟨cur, hk g _ hg (fun c f => ⟨by simp, by simp⟩), h0, h1⟩
section
variable {w0 w : World} {c : Nat} {d : DS} {m : Nat} (h : DiskNew w0 w c d m)
include h
theorem append_newK (f : Int) (s : List UInt8) (hs : s.length ≤ 9223372036854775807) (hm : m < 5000000000000) :
    Calls Try.prog 31 #[.pointer (some ⟨c, 0, none⟩), .int .i64 f, .string ⟨s.toArray⟩] w fun e w' => e = .returned (.int .i64 (d.append f s).2) ∧ DiskNew w0 w' c (d.append f s).1 (m + 1) ∧ KeepsND w w' := by
  obtain ⟨hc, hb, rb, h, hr⟩ := h
  exact (append_any c w d m rb f s h hs hm).mono fun e w' ⟨he, rb', h', hn, ht⟩ => ⟨he, .turn hc hb hr h' hn ht, keeps_of_touch h ht⟩
theorem sync_newK : Calls Try.prog 16 #[.pointer (some ⟨c, 0, none⟩)] w fun e w' => e = .returned (.int .i64 d.sync.2) ∧ DiskNew w0 w' c d.sync.1 m ∧ KeepsND w w' := by
  obtain ⟨hc, hb, rb, h, hr⟩ := h
  exact (sync_any c w d m rb h).mono fun e w' ⟨he, rb', h', hn, ht⟩ => ⟨he, .turn hc hb hr h' hn ht, keeps_of_touch h ht⟩
theorem cut_newK (f n : Int) : Calls Try.prog 21 #[.pointer (some ⟨c, 0, none⟩), .int .i64 f, .int .i64 n] w fun e w' => e = .returned (.int .i64 (d.cut f n).2) ∧ DiskNew w0 w' c (d.cut f n).1 m ∧ KeepsND w w' := by
  obtain ⟨hc, hb, rb, h, hr⟩ := h
  exact (cut_any c w d m rb f n h).mono fun e w' ⟨he, rb', h', hn, ht⟩ => ⟨he, .turn hc hb hr h' hn ht, keeps_of_touch h ht⟩
theorem crash_newK (k : Int) (hk : k ≤ 9223372036854775807) : Calls Try.prog 29 #[.pointer (some ⟨c, 0, none⟩), .int .i64 k] w fun e w' => e = .returned (.int .i64 (d.crash k).2) ∧ DiskNew w0 w' c (d.crash k).1 m ∧ KeepsND w w' := by
  obtain ⟨hc, hb, rb, h, hr⟩ := h
  exact (crash_any c w d m rb k h hk).mono fun e w' ⟨he, rb', h', hn, ht⟩ => ⟨he, .turn hc hb hr h' hn ht, keeps_of_touch h ht⟩
end

theorem tmod_neg {n m : Int} (hm : 0 < m) (h : n.tmod m < 0) : n.tmod m + m = n % m := by
  have := Int.tmod_eq_emod (a := n) (b := m)
  have h1 := Int.emod_nonneg n (show m ≠ 0 by omega)
  have h2 := Int.emod_lt_of_pos n hm
  split at this <;> omega
theorem tmod_pos {n m : Int} (hm : 0 < m) (h : 0 ≤ n.tmod m) : n.tmod m = n % m := by
  have := Int.tmod_eq_emod (a := n) (b := m)
  have h1 := Int.emod_nonneg n (show m ≠ 0 by omega)
  have h2 := Int.emod_lt_of_pos n hm
  split at this <;> omega
theorem tmod_lo {n m : Int} (hm : 0 < m) : -m < n.tmod m ∧ n.tmod m < m := by
  have := Int.tmod_eq_emod (a := n) (b := m)
  have h1 := Int.emod_nonneg n (show m ≠ 0 by omega)
  have h2 := Int.emod_lt_of_pos n hm
  split at this <;> omega

set_option maxHeartbeats 1000000 in
theorem place9_any (n m : Int) (w : World) (h0 : 0 < m) (h1 : m ≤ 4611686018427387904) :
    Calls Try.prog 20 #[.int .i64 n, .int .i64 m] w fun e w' => e = .returned (.int .i64 (n % m)) ∧ w = w' := by
  obtain ⟨l1, l2⟩ := tmod_lo (n := n) h0
  go_enter Try.func20, Try.ntmps20
  go_wp2
  all_goals go_ret
  · exact ⟨ret_int (tmod_neg h0 (by assumption)), rfl⟩
  · exact ⟨ret_int (tmod_pos h0 (by assumption)), rfl⟩
end Go.Proofs.Ytpjpknndfhablaa
