/- One log of the program on a disk that the call itself made: the contracts once more. -/
import Derived.Test.YtpjpknndfhablaaKeep
import Derived.Test.YtpjpknndfhablaaWalQ
namespace Go.Proofs.Ytpjpknndfhablaa
open Go.RowKit
def diskT : List TypeId := [103, 106]
def logT : List TypeId := [103, 106, 113]
theorem keeps_diskT {w w' : World} (h : KeepsOff diskT w w') : KeepsOff logT w w' := h.mono (fun t ht => by simp [diskT] at ht; rcases ht with rfl | rfl <;> simp [logT])
theorem DiskNew.of_below {w0 w1 w : World} {c : Nat} {d : DS} {m : Nat} (h : DiskNew w1 w c d m) (hb : Below w0.heap.size w0 w1) : DiskNew w0 w c d m := by
  obtain ⟨hc, hb1, rb, h, hr⟩ := h
  exact ⟨Nat.le_trans hb.size hc, hb.trans (hb1.mono hb.size), rb, h, fun k hk => Nat.le_trans hb.size (hr k hk)⟩
section
variable {w0 w : World} {c : Nat} {d : DS} {m : Nat} (h : DiskNew w0 w c d m)
include h
theorem arm_newO (n k : Int) (hn : n ≤ 9223372036854775807) (hk : k ≤ 9223372036854775807) : Calls Try.prog 30 #[.pointer (some ⟨c, 0, none⟩), .int .i64 n, .int .i64 k] w fun e w' => e = .returned (.int .i64 (d.arm n k).2) ∧ DiskNew w0 w' c (d.arm n k).1 m ∧ KeepsOff diskT w w' := by
  obtain ⟨hc, hb, rb, h, hr⟩ := h
  exact (arm_any c w d m rb n k h hn hk).mono fun e w' ⟨he, h', ht⟩ => ⟨he, .turn hc hb hr h' (Newer.refl _ _) ht, .of_touch h.typed ht⟩
theorem revive_newO : Calls Try.prog 45 #[.pointer (some ⟨c, 0, none⟩)] w fun e w' => e = .returned (.tuple #[]) ∧ DiskNew w0 w' c d.revive m ∧ KeepsOff diskT w w' := by
  obtain ⟨hc, hb, rb, h, hr⟩ := h
  exact (revive_any c w d m rb h).mono fun e w' ⟨he, h', ht⟩ => ⟨he, .turn hc hb hr h' (Newer.refl _ _) ht, .of_touch h.typed ht⟩
theorem crash_newO (k : Int) (hk : k ≤ 9223372036854775807) : Calls Try.prog 29 #[.pointer (some ⟨c, 0, none⟩), .int .i64 k] w fun e w' => e = .returned (.int .i64 (d.crash k).2) ∧ DiskNew w0 w' c (d.crash k).1 m ∧ KeepsOff diskT w w' ∧ ((d.crash k).1.dead = true → d.dead = false → DiskNew w0 w' c (d.crash k).1 0) := by
  obtain ⟨hc, hb, rb, h, hr⟩ := h
  exact (crash_anyN c w d m rb k h hk).mono fun e w' ⟨he, rb', h', hn, ht, hz⟩ => ⟨he, .turn hc hb hr h' hn ht, .of_touch h.typed ht, fun h1 h2 => by
    have h3 := hz h1 h2
    subst h3
    exact .turn hc hb hr h'.fresh hn ht⟩
end
/-- In w a log in block x over the disk in block c, both made since w0. -/
structure One (w0 w : World) (x c : Nat) (l : Wal.LS) (d : DS) (m : Nat) : Prop where
  x0 : w0.heap.size ≤ x
  log : LogAt w x c l
  disk : DiskNew w0 w c d m
theorem One.below {w0 w w' : World} {x c : Nat} {l : Wal.LS} {d : DS} {m : Nat} (h : One w0 w x c l d m) (hb : Below w.heap.size w w') : One w0 w' x c l d m := ⟨h.x0, h.log.below hb, h.disk.below hb⟩
theorem One.mono {w0 w : World} {x c : Nat} {l : Wal.LS} {d : DS} {m n : Nat} (h : One w0 w x c l d m) (hmn : m ≤ n) : One w0 w x c l d n := ⟨h.x0, h.log, h.disk.mono hmn⟩
/-- What a piece of work leaves of it. -/
def OneLeft (w0 w : World) (x c : Nat) (l' : Wal.LS) (d d' : DS) (m' : Nat) (w' : World) : Prop :=
  One w0 w' x c l' d' m' ∧ KeepsOff logT w w' ∧ (d'.dead = true → d.dead = false → DiskNew w0 w' c d' 0)
theorem One.left {w0 w w' : World} {x c : Nat} {l l' : Wal.LS} {d d' : DS} {m m' : Nat} {rb : Option Nat} (x0 : w0.heap.size ≤ x) (hl : LogAt w x c l) (hc : w0.heap.size ≤ c) (hb : Below w0.heap.size w0 w) (hd : DiskAt w c d m rb) (hr : ∀ k, rb = some k → w0.heap.size ≤ k)
    (hw : Worked x c l' d d' m' rb w w') : OneLeft w0 w x c l' d d' m' w' := by
  obtain ⟨rb', h1, h2, h3⟩ := hw.disk
  have hold : Below w0.heap.size w0 w' := hb.trans (hw.touch.below hb.size fun k hk ho => by
    rcases ho with (rfl | ho) | rfl
    · omega
    · have := hr k ho; omega
    · omega)
  have hr' : ∀ k, rb' = some k → w0.heap.size ≤ k := fun k hk => (h2 k hk).elim (hr k) (Nat.le_trans hb.size)
  refine ⟨⟨x0, hw.log, hc, hold, rb', h1, hr'⟩, .of_touch (hl.typed3 hd) hw.touch, fun a b => ?_⟩
  have h4 := h3 a b
  subst h4
  exact ⟨hc, hold, none, h1.fresh, fun k hk => by cases hk⟩
section
variable {w0 w : World} {x c : Nat} {l : Wal.LS} {d : DS} {m : Nat} (h : One w0 w x c l d m)
include h
theorem append_one (s : List UInt8) (hm : m < 5000000000000) (hs : s.length ≤ 140737488355328) (hln : l.n ≤ 4611686018427387904) :
    Calls Try.prog 38 #[.pointer (some ⟨x, 0, none⟩), .string ⟨s.toArray⟩] w fun e w' => e = .returned (.int .i64 (Wal.append l d s).2.2) ∧ OneLeft w0 w x c (Wal.append l d s).1 d (Wal.append l d s).2.1 (m + 1) w' := by
  obtain ⟨x0, hl, hc, hb, rb, hd, hr⟩ := h
  exact (wappend_any x c w l d m rb s hl hd hm hs hln).mono fun e w' ⟨he, hw⟩ => ⟨he, One.left x0 hl hc hb hd hr hw⟩
theorem sync_one : Calls Try.prog 74 #[.pointer (some ⟨x, 0, none⟩)] w fun e w' => e = .returned (.int .i64 (Wal.sync l d).2.2) ∧ OneLeft w0 w x c (Wal.sync l d).1 d (Wal.sync l d).2.1 m w' := by
  obtain ⟨x0, hl, hc, hb, rb, hd, hr⟩ := h
  exact (wsync_any x c w l d m rb hl hd).mono fun e w' ⟨he, hw⟩ => ⟨he, One.left x0 hl hc hb hd hr hw⟩
theorem check_one (s : List UInt8) (hm : m < 5000000000000) (hs : s.length ≤ 140737488355328) (hlg : l.g ≤ 4611686018427387904) :
    Calls Try.prog 39 #[.pointer (some ⟨x, 0, none⟩), .string ⟨s.toArray⟩] w fun e w' => e = .returned (.int .i64 (Wal.checkpoint l d s).2.2) ∧ OneLeft w0 w x c (Wal.checkpoint l d s).1 d (Wal.checkpoint l d s).2.1 (m + 1) w' := by
  obtain ⟨x0, hl, hc, hb, rb, hd, hr⟩ := h
  exact (wcheck_any x c w l d m rb s hl hd hm hs hlg).mono fun e w' ⟨he, hw⟩ => ⟨he, One.left x0 hl hc hb hd hr hw⟩
theorem room_one : Calls Try.prog 37 #[.pointer (some ⟨x, 0, none⟩)] w fun e w' => e = .returned (.int .i64 (Wal.room l d)) ∧ One w0 w' x c l d m ∧ Below w.heap.size w w' := by
  have h0 := h
  obtain ⟨x0, hl, hc, hb, rb, hd, hr⟩ := h
  exact (room_any x c w l d m rb hl hd).mono fun e w' ⟨he, hb'⟩ => ⟨he, h0.below hb', hb'⟩
theorem records_one : Calls Try.prog 49 #[.pointer (some ⟨x, 0, none⟩)] w fun e w' => e = .returned (.int .i64 l.n) ∧ w = w' := records_any x c w l h.log
theorem dead_one : Calls Try.prog 75 #[.pointer (some ⟨x, 0, none⟩)] w fun e w' => e = .returned (.bool l.dead) ∧ w = w' := wdead_any x c w l h.log
end
/-- How Open ends on a disk that the call itself made. -/
def OpenLeft (w0 w : World) (c : Nat) (o : Option Wal.Opened) (d d' : DS) (m : Nat) (r : Int) (e : Ending) (w' : World) : Prop :=
  ∃ v s rv, e = .returned (.tuple #[v, .string s, rv, .int .i64 r]) ∧
    (∀ q, o = some q → s = ⟨q.snap.toArray⟩ ∧ RecsAt w' w.heap.size rv q.rs ∧ ∃ x, v = .pointer (some ⟨x, 0, none⟩) ∧ w.heap.size ≤ x ∧ One w0 w' x c q.l d' m) ∧ (o = none → v = .pointer none ∧ s = ⟨#[]⟩ ∧ rv = .slice none 0 0) ∧
    DiskNew w0 w' c d' m ∧ KeepsOff diskT w w' ∧ (d'.dead = true → d.dead = false → DiskNew w0 w' c d' 0)
theorem open_one {w0 w : World} {c : Nat} {d : DS} {m : Nat} (h : DiskNew w0 w c d m) :
    Calls Try.prog 48 #[.pointer (some ⟨c, 0, none⟩)] w (OpenLeft w0 w c (Wal.open_ d).1 d (Wal.open_ d).2.1 m (Wal.open_ d).2.2) := by
  obtain ⟨hc, hb, rb, hd, hr⟩ := h
  refine (wopen_any c w d m rb hd).mono fun e w' ⟨v, s, rv, he, h1, h2, rb', h3, h4, h5, h6⟩ => ?_
  have hn : DiskNew w0 w' c (Wal.open_ d).2.1 m := .turn hc hb hr h3 h4 h5
  refine ⟨v, s, rv, he, fun q hq => ?_, h2, hn, .of_touch hd.typed h5, fun a b => ?_⟩
  · obtain ⟨a1, a2, x, a3, a4, a5⟩ := h1 q hq
    exact ⟨a1, a2, x, a3, a4, Nat.le_trans hb.size a4, a5, hn⟩
  · have h7 := h6 a b
    subst h7
    exact .turn hc hb hr h3.fresh h4 h5
end Go.Proofs.Ytpjpknndfhablaa
