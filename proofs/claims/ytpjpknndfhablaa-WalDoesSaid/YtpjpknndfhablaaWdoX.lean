/- Pairs of logs, the program's and the document's, each over its disk: herds of them, and what a call on one leaves; the walk of the law's pair: same. -/
import Derived.Test.YtpjpknndfhablaaTwin
import Derived.Test.YtpjpknndfhablaaArg
namespace Go.Proofs.Ytpjpknndfhablaa
section
open Go.RowKit
/-- A pair: its block, the logs' and the disks' blocks, how they stand. -/
structure EntW where
  p : Nat
  x : Nat
  c : Nat
  z : Nat
  y : Nat
  rb : Option Nat
  ub : Option Nat
  l : Wal.LS
  d : DS
def pairBlock (x c z y : Nat) : Obj := .cells #[.pointer (some ⟨x, 0, none⟩), .pointer (some ⟨c, 0, none⟩), .pointer (some ⟨z, 0, none⟩), .pointer (some ⟨y, 0, none⟩)] 92 (0, 0)
/-- The blocks that a call on it writes. -/
def Foot (e : EntW) (k : Nat) : Prop := k = e.p ∨ k = e.x ∨ own2 e.c e.rb k ∨ k = e.z ∨ k = e.y
def footT : List TypeId := [92, 113, 103, 106, 120, 75]
structure EntAt (w : World) (e : EntW) (m : Nat) : Prop where
  pair : w.heap[e.p]? = some (pairBlock e.x e.c e.z e.y)
  log : LogAt w e.x e.c e.l
  disk : DiskAt w e.c e.d m e.rb
  rlog : RlogAt w e.z e.y e.l
  ref : RefAt w e.y e.d e.ub
  n : e.l.n ≤ 2000000 + m
  g : e.l.g ≤ 4611686018427387904
theorem EntAt.typed {w : World} {e : EntW} {m : Nat} (h : EntAt w e m) : Typed footT w (Foot e) := by
  rintro k (rfl | rfl | hk | rfl | rfl)
  · exact ⟨_, _, _, h.pair, by simp [footT]⟩
  · exact ⟨_, _, _, h.log, by simp [footT]⟩
  · obtain ⟨a, t, f, h1, h2⟩ := h.disk.typed k hk
    exact ⟨a, t, f, h1, by simp at h2; rcases h2 with rfl | rfl <;> simp [footT]⟩
  · exact ⟨_, _, _, h.rlog, by simp [footT]⟩
  · obtain ⟨a, t, f, h1, h2⟩ := h.ref.typed e.y rfl
    exact ⟨a, t, f, h1, by simp at h2; subst h2; simp [footT]⟩
theorem EntAt.lt {w : World} {e : EntW} {m : Nat} (h : EntAt w e m) {k : Nat} (hk : Foot e k) : k < w.heap.size := by
  obtain ⟨_, _, _, h1, _⟩ := h.typed k hk
  exact heap_lt h1
theorem EntAt.mono {w : World} {e : EntW} {m n : Nat} (h : EntAt w e m) (hmn : m ≤ n) : EntAt w e n := ⟨h.pair, h.log, h.disk.mono hmn, h.rlog, h.ref, by have := h.n; omega, h.g⟩
theorem EntAt.below {w w' : World} {e : EntW} {m : Nat} (h : EntAt w e m) (hb : Below w.heap.size w w') : EntAt w' e m := ⟨stays h.pair hb, h.log.below hb, h.disk.below hb, h.rlog.below hb, h.ref.below hb, h.n, h.g⟩
theorem RefAt.keepT {ts : List TypeId} {w w' : World} {S : Nat → Prop} (hty : Typed ts w S) (hB : 131 ∉ ts) (ht : Touch S w w') {y : Nat} {d : DS} {ub : Option Nat} (h : RefAt w y d ub) (hy : ¬ S y) : RefAt w' y d ub := by
  refine h.touch ht (fun k hk hs => ?_)
  rcases hk with rfl | hk
  · exact hy hs
  · obtain ⟨_, us, hr, hrb⟩ := h
    rw [← hrb] at hk
    obtain ⟨a, t, f, h1, h2⟩ := typed_own (ts := [131]) hr.own (by simp) k hk
    obtain ⟨a', t', f', h3, h4⟩ := hty k hs
    rw [h1] at h3
    simp at h2 h3
    rw [← h3.2.1, h2] at h4
    exact hB h4
theorem EntAt.keep {ts : List TypeId} {w w' : World} {S : Nat → Prop} (hty : Typed ts w S) (hB : 131 ∉ ts) (ht : Touch S w w') {e : EntW} {m : Nat} (h : EntAt w e m) (hd : ∀ k, Foot e k → ¬ S k) : EntAt w' e m :=
  ⟨(ht.block e.p (heap_lt h.pair) (hd _ (.inl rfl))).trans h.pair, h.log.touch ht (hd _ (.inr (.inl rfl))), h.disk.touch ht (fun k hk => hd k (.inr (.inr (.inl hk)))), h.rlog.touch ht (hd _ (.inr (.inr (.inr (.inl rfl))))), h.ref.keepT hty hB ht (hd _ (.inr (.inr (.inr (.inr rfl))))), h.n, h.g⟩
/-- A call on a pair: it stands as e' now, and nothing else has turned. -/
structure Turned (w w' : World) (e e' : EntW) (m' : Nat) : Prop where
  stands : EntAt w' e' m'
  same : e'.p = e.p
  touch : Touch (Foot e) w w'
  newer : ∀ k, Foot e' k → Foot e k ∨ w.heap.size ≤ k
theorem Turned.refl {w w' : World} {e : EntW} {m : Nat} (h : EntAt w e m) (hb : Below w.heap.size w w') : Turned w w' e e m := ⟨h.below hb, rfl, Touch.of_below hb, fun _ hk => .inl hk⟩
theorem Turned.trans {w w1 w2 : World} {e e1 e2 : EntW} {m1 m2 : Nat} (h : Turned w w1 e e1 m1) (h' : Turned w1 w2 e1 e2 m2) : Turned w w2 e e2 m2 := by
  refine ⟨h'.stands, h'.same.trans h.same, Touch.trans h.touch h'.touch (fun k hk hf => (h.newer k hf).resolve_right (by omega)), fun k hk => ?_⟩
  rcases h'.newer k hk with hf | hf
  · exact h.newer k hf
  · exact .inr (Nat.le_trans h.touch.size hf)
theorem Turned.before {w w1 w2 : World} {e e2 : EntW} {m m2 : Nat} (h : EntAt w e m) (hb : Below w.heap.size w w1) (h' : Turned w1 w2 e e2 m2) : Turned w w2 e e2 m2 := (Turned.refl h hb).trans h'
theorem Turned.later {w w1 w2 : World} {e e1 : EntW} {m1 : Nat} (h : Turned w w1 e e1 m1) (hb : Below w1.heap.size w1 w2) : Turned w w2 e e1 m1 := h.trans (Turned.refl h.stands hb)
/-- The program's half of a call is done. -/
structure Mid (w w1 : World) (e : EntW) (l' : Wal.LS) (d' : DS) (m' : Nat) (rb' : Option Nat) : Prop where
  pair : w1.heap[e.p]? = some (pairBlock e.x e.c e.z e.y)
  log : LogAt w1 e.x e.c l'
  disk : DiskAt w1 e.c d' m' rb'
  rlog : RlogAt w1 e.z e.y e.l
  ref : RefAt w1 e.y e.d e.ub
  newer : Newer w e.rb rb'
  touch : Touch (Foot e) w w1
theorem mid_of_worked {w w1 : World} {e : EntW} {m m' : Nat} {l' : Wal.LS} {d' : DS} (h : EntAt w e m) (hw : Worked e.x e.c l' e.d d' m' e.rb w w1) : ∃ rb', Mid w w1 e l' d' m' rb' := by
  obtain ⟨rb', h1, h2, _⟩ := hw.disk
  have hk := KeepsOff.of_touch (h.log.typed3 h.disk) hw.touch
  exact ⟨rb', hk.cells h.pair (by decide), hw.log, h1, h.rlog.keepsOff hk (by decide), h.ref.keepsOff hk (by decide) (by decide), h2, hw.touch.mono (fun k _ hf => by rcases hf with hf | hf; exact .inr (.inr (.inl hf)); exact .inr (.inl hf))⟩
theorem mid_of_disk {w w1 : World} {e : EntW} {m m' : Nat} {d' : DS} {rb' : Option Nat} (h : EntAt w e m) (hd : DiskAt w1 e.c d' m' rb') (hn : Newer w e.rb rb') (ht : Touch (own2 e.c e.rb) w w1) : Mid w w1 e e.l d' m' rb' := by
  have hk := KeepsOff.of_touch h.disk.typed ht
  exact ⟨hk.cells h.pair (by decide), h.log.keepsOff hk (by decide), hd, h.rlog.keepsOff hk (by decide), h.ref.keepsOff hk (by decide) (by decide), hn, ht.mono (fun k _ hf => .inr (.inr (.inl hf)))⟩
theorem foot_newer {w : World} {e e' : EntW} (hp : e'.p = e.p) (hx : e'.x = e.x) (hc : e'.c = e.c) (hz : e'.z = e.z) (hy : e'.y = e.y) (hn : Newer w e.rb e'.rb) : ∀ k, Foot e' k → Foot e k ∨ w.heap.size ≤ k := by
  intro k hk
  rcases hk with hk | hk | (hk | hk) | hk | hk
  · exact .inl (.inl (hk.trans hp))
  · exact .inl (.inr (.inl (hk.trans hx)))
  · exact .inl (.inr (.inr (.inl (.inl (hk.trans hc)))))
  · rcases hn k hk with h | h
    · exact .inl (.inr (.inr (.inl (.inr h))))
    · exact .inr h
  · exact .inl (.inr (.inr (.inr (.inl (hk.trans hz)))))
  · exact .inl (.inr (.inr (.inr (.inr (hk.trans hy)))))
theorem mid_end {w w1 w2 : World} {e : EntW} {l' : Wal.LS} {d' : DS} {m' : Nat} {rb' : Option Nat} (h : Mid w w1 e l' d' m' rb') (hr : RWorked e.z e.y l' d' e.ub w1 w2) (hn : l'.n ≤ 2000000 + m') (hg : l'.g ≤ 4611686018427387904) : ∃ e', Turned w w2 e e' m' ∧ w2.heap[e.p]? = some (pairBlock e.x e.c e.z e.y) := by
  obtain ⟨ub', h1, _⟩ := hr.disk
  have hk := KeepsOff.of_touch (h.rlog.typed2 h.ref) hr.touch
  refine ⟨{ e with rb := rb', ub := ub', l := l', d := d' }, ⟨⟨hk.cells h.pair (by decide), h.log.keepsOff hk (by decide), h.disk.keepsOff hk (by decide) (by decide), hr.log, h1, hn, hg⟩, rfl, Touch.trans h.touch hr.touch (fun k _ hf => by rcases hf with hf | hf; exact .inr (.inr (.inr (.inr hf))); exact .inr (.inr (.inr (.inl hf)))), foot_newer rfl rfl rfl rfl rfl h.newer⟩, hk.cells h.pair (by decide)⟩
theorem mid_end_ref {w w1 w2 : World} {e : EntW} {d' : DS} {m' : Nat} {rb' ub' : Option Nat} (h : Mid w w1 e e.l d' m' rb') (hd : RefAt w2 e.y d' ub') (ht : Touch (· = e.y) w1 w2) (hn : e.l.n ≤ 2000000 + m') (hg : e.l.g ≤ 4611686018427387904) : ∃ e', Turned w w2 e e' m' ∧ w2.heap[e.p]? = some (pairBlock e.x e.c e.z e.y) ∧ e'.l = e.l ∧ e'.d = d' ∧ e'.x = e.x ∧ e'.c = e.c ∧ e'.z = e.z ∧ e'.y = e.y := by
  have hk := KeepsOff.of_touch h.ref.typed ht
  exact ⟨{ e with rb := rb', ub := ub', d := d' }, ⟨⟨hk.cells h.pair (by decide), h.log.keepsOff hk (by decide), h.disk.keepsOff hk (by decide) (by decide), h.rlog.keepsOff hk (by decide), hd, hn, hg⟩, rfl, Touch.trans h.touch ht (fun k _ hf => .inr (.inr (.inr (.inr hf)))), foot_newer rfl rfl rfl rfl rfl h.newer⟩, hk.cells h.pair (by decide), rfl, rfl, rfl, rfl, rfl, rfl⟩
/-- What opening leaves of a pair, its logs not yet exchanged. -/
theorem open_turned {w w' : World} {e : EntW} {m : Nat} {o : Option Wal.Opened} {d' : DS} {v u : Value} (h : EntAt w e m) (hb : BothOpen e.c e.y o e.d d' m e.rb e.ub w v u w') : ∃ e', Turned w w' e e' m ∧ e'.l = e.l ∧ e'.d = d' ∧ e'.x = e.x ∧ e'.c = e.c ∧ e'.z = e.z ∧ e'.y = e.y := by
  obtain ⟨rb', ub', a1, a2, a3, a4, _⟩ := hb.disks
  have hty : Typed [103, 106, 75] w (fun k => own2 e.c e.rb k ∨ k = e.y) := by
    rintro k (hk | rfl)
    · obtain ⟨a, t, f, h1, h2⟩ := h.disk.typed k hk
      exact ⟨a, t, f, h1, by simp at h2; rcases h2 with rfl | rfl <;> simp⟩
    · obtain ⟨a, t, f, h1, h2⟩ := h.ref.typed e.y rfl
      exact ⟨a, t, f, h1, by simp at h2; subst h2; simp⟩
  have hk := KeepsOff.of_touch hty hb.touch
  exact ⟨{ e with rb := rb', ub := ub', d := d' }, ⟨⟨hk.cells h.pair (by decide), h.log.keepsOff hk (by decide), a1, h.rlog.keepsOff hk (by decide), a2, h.n, h.g⟩, rfl, hb.touch.mono (fun k _ hf => by rcases hf with hf | hf; exact .inr (.inr (.inl hf)); exact .inr (.inr (.inr (.inr hf)))), foot_newer rfl rfl rfl rfl rfl a3⟩, rfl, rfl, rfl, rfl, rfl, rfl⟩
theorem open_pair {w w' : World} {e : EntW} {m : Nat} {o : Option Wal.Opened} {d' : DS} {v u : Value} (h : EntAt w e m) (hb : BothOpen e.c e.y o e.d d' m e.rb e.ub w v u w') : w'.heap[e.p]? = some (pairBlock e.x e.c e.z e.y) := by
  refine (hb.touch.block e.p (heap_lt h.pair) ?_).trans h.pair
  rintro (hk | hk)
  · exact not_own h.pair (by decide) (by decide) h.disk hk
  · obtain ⟨a, t, f, h1, h2⟩ := h.ref.typed e.y rfl
    rw [← hk, h.pair] at h1
    simp [pairBlock] at h1 h2
    rw [h2] at h1
    exact absurd h1.2.1 (by decide)
/-- The logs are exchanged for those just opened. -/
theorem open_set {w w' : World} {e : EntW} {m : Nat} {l' : Wal.LS} {x z : Nat} (h : EntAt w' e m) (hl : LogAt w' x e.c l') (hr : RlogAt w' z e.y l') (hx : w.heap.size ≤ x) (hz : w.heap.size ≤ z) (hn : l'.n ≤ 2000000 + m) (hg : l'.g ≤ 4611686018427387904) :
    ∃ e', EntAt ((w'.setCell ⟨e.p, 0, none⟩ (.pointer (some ⟨x, 0, none⟩))).setCell ⟨e.p, 2, none⟩ (.pointer (some ⟨z, 0, none⟩))) e' m ∧ e'.p = e.p ∧ e'.l = l' ∧ e'.d = e.d ∧ Touch (Foot e) w' ((w'.setCell ⟨e.p, 0, none⟩ (.pointer (some ⟨x, 0, none⟩))).setCell ⟨e.p, 2, none⟩ (.pointer (some ⟨z, 0, none⟩))) ∧ ∀ k, Foot e' k → Foot e k ∨ w.heap.size ≤ k := by
  have ht : Touch (· = e.p) w' ((w'.setCell ⟨e.p, 0, none⟩ (.pointer (some ⟨x, 0, none⟩))).setCell ⟨e.p, 2, none⟩ (.pointer (some ⟨z, 0, none⟩))) := ((Touch.refl (· = e.p) w').setCell (a := ⟨e.p, 0, none⟩) _ (fun _ => rfl)).setCell (a := ⟨e.p, 2, none⟩) _ (fun _ => rfl)
  have hk : KeepsOff [92] w' _ := KeepsOff.of_touch (by rintro k rfl; exact ⟨_, _, _, h.pair, by simp⟩) ht
  have hp : ((w'.setCell ⟨e.p, 0, none⟩ (.pointer (some ⟨x, 0, none⟩))).setCell ⟨e.p, 2, none⟩ (.pointer (some ⟨z, 0, none⟩))).heap[e.p]? = some (pairBlock x e.c z e.y) := by
    have := heap_set (i := 2) (.pointer (some ⟨z, 0, none⟩)) (heap_set (i := 0) (.pointer (some ⟨x, 0, none⟩)) h.pair)
    simpa [pairBlock] using this
  refine ⟨{ e with x := x, z := z, l := l' }, ⟨hp, hl.keepsOff hk (by decide), h.disk.keepsOff hk (by decide) (by decide), hr.keepsOff hk (by decide), h.ref.keepsOff hk (by decide) (by decide), hn, hg⟩, rfl, rfl, rfl, ht.mono (fun k _ hf => .inl hf), fun k hk => ?_⟩
  rcases hk with hk | hk | hk | hk | hk
  · exact .inl (.inl hk)
  · have e1 : k = x := hk
    exact .inr (by omega)
  · exact .inl (.inr (.inr (.inl hk)))
  · have e1 : k = z := hk
    exact .inr (by omega)
  · exact .inl (.inr (.inr (.inr (.inr hk))))
/-! Herds. -/
theorem setw_cases {α : Type} {L : List α} {i j : Nat} {x e : α} (h : (L.set i x)[j]? = some e) : (j = i ∧ e = x) ∨ (j ≠ i ∧ L[j]? = some e) := by
  by_cases hij : j = i
  · subst hij
    rw [List.getElem?_set_self'] at h
    cases hL : L[j]? with
    | none => rw [hL] at h; cases h
    | some y => rw [hL] at h; exact .inl ⟨rfl, (Option.some.inj h).symm⟩
  · rw [List.getElem?_set_ne (fun e => hij e.symm)] at h
    exact .inr ⟨hij, h⟩
structure Flock (w0 w : World) (L : List EntW) (m : Nat) : Prop where
  old : Below w0.heap.size w0 w
  one : ∀ (i : Nat) (e : EntW), L[i]? = some e → EntAt w e m
  lo : ∀ (i : Nat) (e : EntW), L[i]? = some e → ∀ k, Foot e k → w0.heap.size ≤ k
  apart : ∀ (i j : Nat) (e f : EntW), L[i]? = some e → L[j]? = some f → i ≠ j → ∀ k, Foot e k → ¬ Foot f k
theorem Flock.below {w0 w w' : World} {L : List EntW} {m : Nat} (h : Flock w0 w L m) (hb : Below w.heap.size w w') : Flock w0 w' L m :=
  ⟨h.old.trans (hb.mono h.old.size), fun i e hi => (h.one i e hi).below hb, h.lo, h.apart⟩
theorem Flock.mono {w0 w : World} {L : List EntW} {m n : Nat} (h : Flock w0 w L m) (hmn : m ≤ n) : Flock w0 w L n := ⟨h.old, fun i e hi => (h.one i e hi).mono hmn, h.lo, h.apart⟩
theorem Flock.turn {w0 w w' : World} {L : List EntW} {m m' : Nat} (h : Flock w0 w L m) {i : Nat} {e e' : EntW} (hi : L[i]? = some e) (ht : Turned w w' e e' m') (hm : m ≤ m') : Flock w0 w' (L.set i e') m' := by
  refine ⟨h.old.trans (ht.touch.below h.old.size (fun k hk hf => by have := h.lo i e hi k hf; omega)), fun j f hj => ?_, fun j f hj k hk => ?_, fun j q f f' hj hq hjq k hk => ?_⟩
  · rcases setw_cases hj with ⟨rfl, rfl⟩ | ⟨hji, hj2⟩
    · exact ht.stands
    · exact (EntAt.keep (h.one i e hi).typed (by decide) ht.touch (h.one j f hj2) (fun k hk => h.apart j i f e hj2 hi hji k hk)).mono hm
  · rcases setw_cases hj with ⟨rfl, rfl⟩ | ⟨hji, hj2⟩
    · rcases ht.newer k hk with hf | hf
      · exact h.lo _ e hi k hf
      · exact Nat.le_trans h.old.size hf
    · exact h.lo j f hj2 k hk
  · have key : ∀ (q : Nat) (f : EntW), L[q]? = some f → q ≠ i → ∀ k, Foot e' k → ¬ Foot f k := fun q f hq hqi k hk hf => by
      rcases ht.newer k hk with h1 | h1
      · exact h.apart i q e f hi hq (fun e => hqi e.symm) k h1 hf
      · have := (h.one q f hq).lt hf; omega
    rcases setw_cases hj with ⟨rfl, rfl⟩ | ⟨hji, hj2⟩
    · rcases setw_cases hq with ⟨rfl, rfl⟩ | ⟨hqi, hq2⟩
      · exact absurd rfl hjq
      · exact key q f' hq2 hqi k hk
    · rcases setw_cases hq with ⟨rfl, rfl⟩ | ⟨hqi, hq2⟩
      · exact fun hf => key j f hj2 hji k hf hk
      · exact h.apart j q f f' hj2 hq2 hjq k hk
/-- One more pair, of blocks that are new since w. -/
theorem Flock.push {w0 w w' : World} {L : List EntW} {m : Nat} (h : Flock w0 w L m) (h' : Flock w0 w' L m) {e : EntW} (he : EntAt w' e m) (hn : ∀ k, Foot e k → w.heap.size ≤ k) : Flock w0 w' (L ++ [e]) m := by
  have hsz := h.old.size
  have key : ∀ (i : Nat) (f : EntW), (L ++ [e])[i]? = some f → (L[i]? = some f ∧ i < L.length) ∨ (f = e ∧ i = L.length) := fun i f hi => by
    by_cases hl : i < L.length
    · rw [List.getElem?_append_left hl] at hi; exact .inl ⟨hi, hl⟩
    · rw [List.getElem?_append_right (by omega)] at hi
      have hi0 : i - L.length = 0 := by
        apply Classical.byContradiction
        intro hn
        rw [List.getElem?_eq_none (by simp; omega)] at hi; cases hi
      rw [hi0] at hi
      exact .inr ⟨(Option.some.inj hi).symm, by omega⟩
  refine ⟨h'.old, fun i f hi => ?_, fun i f hi k hk => ?_, fun i j f f' hi hj hij k hk hk' => ?_⟩
  · rcases key i f hi with ⟨hi, _⟩ | ⟨rfl, _⟩
    · exact h'.one i f hi
    · exact he
  · rcases key i f hi with ⟨hi, _⟩ | ⟨rfl, _⟩
    · exact h.lo i f hi k hk
    · have := hn k hk; omega
  · rcases key i f hi with ⟨hi2, hil⟩ | ⟨he1, hil⟩
    · rcases key j f' hj with ⟨hj2, hjl⟩ | ⟨he2, hjl⟩
      · exact h.apart i j f f' hi2 hj2 hij k hk hk'
      · rw [he2] at hk'
        have := (h.one i f hi2).lt hk; have := hn k hk'; omega
    · rw [he1] at hk
      rcases key j f' hj with ⟨hj2, hjl⟩ | ⟨he2, hjl⟩
      · have := (h.one j f' hj2).lt hk'; have := hn k hk; omega
      · omega
/-! What calls make of the numbers. -/
theorem Wal.append_ng (l : Wal.LS) (d : DS) (s : List UInt8) : (Wal.append l d s).1.n ≤ l.n + 1 ∧ (Wal.append l d s).1.g = l.g := by
  unfold Wal.append
  split
  · exact ⟨by simp, rfl⟩
  · split
    · exact ⟨by simp, rfl⟩
    · split
      · exact ⟨by simp, rfl⟩
      · split
        · exact ⟨by simp, rfl⟩
        · exact ⟨Nat.le_refl _, rfl⟩
theorem Wal.sync_ng (l : Wal.LS) (d : DS) : (Wal.sync l d).1.n = l.n ∧ (Wal.sync l d).1.g = l.g := by
  unfold Wal.sync
  split
  · exact ⟨rfl, rfl⟩
  · split <;> exact ⟨rfl, rfl⟩
theorem Wal.check_ng (l : Wal.LS) (d : DS) (s : List UInt8) (h : l.g ≤ 4611686018427387904) : (Wal.checkpoint l d s).1.n ≤ l.n ∧ (Wal.checkpoint l d s).1.g ≤ 4611686018427387904 := by
  unfold Wal.checkpoint
  split
  · exact ⟨Nat.le_refl _, h⟩
  · split
    · exact ⟨Nat.le_refl _, h⟩
    · split
      · exact ⟨Nat.le_refl _, h⟩
      · rename_i hg
        split
        · exact ⟨Nat.le_refl _, h⟩
        · split
          · exact ⟨Nat.le_refl _, h⟩
          · exact ⟨Nat.zero_le _, by show l.g + 1 ≤ _; omega⟩
end
section
open Go.RowKit
theorem twow_texts {w : World} {g : Nat} {s t : List UInt8} (h : Two w g s t) : Texts w (some ⟨g, 0, none⟩) [s, t] := by
  obtain ⟨h0, h1, _⟩ := h.cells
  refine ⟨by simp, fun i x hi => ⟨g, 0, rfl, ?_⟩⟩
  match i, hi with
  | 0, hi => simp at hi; subst hi; exact h0
  | 1, hi => simp at hi; subst hi; exact h1
set_option maxHeartbeats 8000000 in
set_option maxRecDepth 100000 in
theorem psame_any (w : World) (e : EntW) (m : Nat) (h : EntAt w e m) :
    Calls Try.prog 55 #[.pointer (some ⟨e.p, 0, none⟩)] w fun r w' => r = .returned (.bool true) ∧ Below w.heap.size w w' := by
  obtain ⟨p, x, c, z, y, rb, ub, l, d⟩ := e
  have HL := Lib.hid h.log
  have HD := Lib.hid h.disk
  have HRL := Lib.hid h.rlog
  have HRR := Lib.hid h.ref
  obtain ⟨hok, us, hr, _⟩ := h.ref
  have HOK := Lib.hid hok
  have HR := Lib.hid hr
  obtain ⟨_, _, e2, _, _, e5, _, _⟩ := hr.cells
  obtain ⟨ao, cap, rfl, _, _⟩ := hr.slice
  obtain ⟨_, _, _, z3, z4, _, _⟩ := h.rlog.cells
  have p0 := cell_of (i := 0) h.pair rfl
  have p1 := cell_of (i := 1) h.pair rfl
  have p2 := cell_of (i := 2) h.pair rfl
  have p3 := cell_of (i := 3) h.pair rfl
  have HBB : Hid (∀ w' : World, Below w.heap.size w w' → (Below w.heap.size w w' ∧ w'.cell? ⟨p, 0, none⟩ = some (.pointer (some ⟨x, 0, none⟩)) ∧ w'.cell? ⟨p, 1, none⟩ = some (.pointer (some ⟨c, 0, none⟩)) ∧ w'.cell? ⟨p, 2, none⟩ = some (.pointer (some ⟨z, 0, none⟩)) ∧ w'.cell? ⟨p, 3, none⟩ = some (.pointer (some ⟨y, 0, none⟩)) ∧ w'.cell? ⟨z, 3, none⟩ = some (.int .i64 l.n) ∧ w'.cell? ⟨z, 4, none⟩ = some (.bool l.dead) ∧ w'.cell? ⟨y, 2, none⟩ = some (.slice ao d.u.length cap) ∧ w'.cell? ⟨y, 5, none⟩ = some (.bool d.dead))) :=
    fun w' hb => ⟨hb, cell_later hb p0, cell_later hb p1, cell_later hb p2, cell_later hb p3, cell_later hb z3, cell_later hb z4, cell_later hb e2, cell_later hb e5⟩
  clear h hok hr p0 p1 p2 p3 z3 z4 e2 e5
  go_enter Try.func55, Try.ntmps55
  go_wp2
  go_region_held3 (fun w' => Below w.heap.size w w' ∧ w'.cell? ⟨p, 0, none⟩ = some (.pointer (some ⟨x, 0, none⟩)) ∧ w'.cell? ⟨p, 1, none⟩ = some (.pointer (some ⟨c, 0, none⟩)) ∧ w'.cell? ⟨p, 2, none⟩ = some (.pointer (some ⟨z, 0, none⟩)) ∧ w'.cell? ⟨p, 3, none⟩ = some (.pointer (some ⟨y, 0, none⟩)) ∧ w'.cell? ⟨z, 3, none⟩ = some (.int .i64 l.n) ∧ w'.cell? ⟨z, 4, none⟩ = some (.bool l.dead) ∧ w'.cell? ⟨y, 2, none⟩ = some (.slice ao d.u.length cap) ∧ w'.cell? ⟨y, 5, none⟩ = some (.bool d.dead))
    (first | exact HBB.out _ (Below.refl _ _).drew | exact HBB.out _ (bthen (by assumption : Below w.heap.size w _ ∧ _).1 (by assumption)))
    (first
      | (go_at_call 49; refine (records_any x c _ l (HL.out.below (by assumption : Below w.heap.size w _ ∧ _).1)).mono ?_; rintro r w1 ⟨rfl, rfl⟩; have hb := Below.refl w.drew.heap.size w.drew)
      | (go_at_call 75; refine (wdead_any x c _ l (HL.out.below (by assumption : Below w.heap.size w _ ∧ _).1)).mono ?_; rintro r w2 ⟨rfl, rfl⟩; have hb := Below.refl w.drew.heap.size w.drew)
      | (go_at_call 37; refine (room_any x c _ l d m rb (HL.out.below (by assumption : Below w.heap.size w _ ∧ _).1) (HD.out.below (by assumption : Below w.heap.size w _ ∧ _).1)).mono ?_; rintro r w3 ⟨rfl, hb⟩)
      | (go_at_call 94; refine (rroomL_any z y _ l d ub (HRL.out.below (by assumption : Below w.heap.size w _ ∧ _).1) (HRR.out.below (by assumption : Below w.heap.size w _ ∧ _).1)).mono ?_; rintro r w4 ⟨rfl, hb⟩)
      | (go_at_call 15; refine (files_any c _ d m rb (HD.out.below (by assumption : Below w.heap.size w _ ∧ _).1)).mono ?_; rintro r w5 ⟨q1, rfl, _, t1, hb⟩; have T1 := Lib.hid t1; clear t1)
      | (go_at_call 44; refine (rfiles_any y _ d _ (HR.out.below (by assumption : Below w.heap.size w _ ∧ _).1) HOK.out).mono ?_; rintro r w6 ⟨q2, rfl, _, t2, hb⟩; have T2 := Lib.hid t2; have T3 := Lib.hid (T1.out.below hb); clear t2)
      | (go_at_call 18; refine (same_any _ _ _ 2 2 _ _ (twow_texts T3.out) (twow_texts T2.out)).mono ?_; rw [show decide ([d.file false, d.file true] = [d.file false, d.file true]) = true from decide_eq_true rfl]; rintro r w7 ⟨rfl, hb⟩)
      | (go_at_call 17; obtain ⟨_, rs, rr, h1, _, _⟩ := HD.out.below (by assumption : Below w.heap.size w _ ∧ _).1; refine (waiting_any c _ d rs rr h1 HOK.out).mono ?_; clear h1; rintro r w8 ⟨rfl, hb⟩)
      | (go_at_call 32; refine (dead_any c _ d m rb (HD.out.below (by assumption : Below w.heap.size w _ ∧ _).1)).mono ?_; rintro r w9 ⟨rfl, rfl⟩; have hb := Below.refl w8.heap.size w8))
  go_wp2
  go_ret
  exact ⟨rfl, (by assumption : Below w.heap.size w _ ∧ _).1⟩
end
end Go.Proofs.Ytpjpknndfhablaa
