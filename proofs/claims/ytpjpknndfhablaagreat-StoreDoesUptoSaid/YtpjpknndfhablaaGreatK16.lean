/- A store of the program with all its transactions: what belongs to it, and what each call leaves. A store with its transactions, its blocks under one name; what lies apart from them stays. The law's deed on a store: done. Changes that came in, opened, where all that came in is of bulk at most 1048576. Walks of the document's Frame, Whole, Counts. The document's log: where it lies; over, Sync, Room, Copy. The document's log: Append, Copy. -/
import Derived.BigQuiet
import Derived.Test.YtpjpknndfhablaaGreatK4
import Derived.Test.YtpjpknndfhablaaGreatK6
import Derived.Test.YtpjpknndfhablaaGreatK10
import Derived.Test.YtpjpknndfhablaaGreatK15
namespace Go.Proofs.YtpjpknndfhablaaGreat
open Go.RowKit
/-- A transaction, with its blocks. -/
structure TRow where
 y : Nat
 pm : Option Nat
 wm : Nat
 t : TS
/-- Of two transactions neither turns what the other reads. -/
def TRow.off (r r' : TRow) : Prop := r.y ≠ r'.y ∧ (∀ b, r.pm = some b → r'.pm ≠ some b ∧ r'.wm ≠ b)
/-- The blocks of a store, its disk, its log, its transactions. -/
def Foot11 (x lg c mb : Nat) (rb : Option Nat) (rows : List TRow) : Nat → Prop := fun k => own3 c rb lg k ∨ k = x ∨ k = mb ∨ ∃ r ∈ rows, k = r.y ∨ r.pm = some k ∨ k = r.wm
structure Scn (w : World) (x lg c mb : Nat) (rb : Option Nat) (s : SS) (d : DS) (m : Nat) (rows : List TRow) : Prop where
 store : StoAt w x lg c mb s
 disk : DiskAt w c d m rb
 txs : ∀ (i : Nat) r, rows[i]? = some r → TxAt w x r.y r.pm r.wm r.t ∧ r.pm ≠ some mb
 apart : ∀ (i j : Nat) r r', rows[i]? = some r → rows[j]? = some r' → i ≠ j → r.off r'
/-- What a call leaves of it: it has turned nothing else, and what belongs to it now belonged to it or is new. -/
def STurn (w w' : World) (F F' : Nat → Prop) : Prop := Touch F w w' ∧ ∀ k, F' k → F k ∨ w.heap.size ≤ k
section
variable {w : World} {x lg c mb : Nat} {rb : Option Nat} {s : SS} {d : DS} {m : Nat} {rows : List TRow} (h : Scn w x lg c mb rb s d m rows)
theorem Scn.below {w' : World} (h : Scn w x lg c mb rb s d m rows) (hb : Below w.heap.size w w') : Scn w' x lg c mb rb s d m rows :=
 ⟨h.store.below hb, h.disk.below hb, fun i r hi => ⟨(h.txs i r hi).1.below hb, (h.txs i r hi).2⟩, h.apart⟩
theorem Scn.lt (h : Scn w x lg c mb rb s d m rows) {k : Nat} (hk : ∃ r ∈ rows, k = r.y ∨ r.pm = some k ∨ k = r.wm) : k < w.heap.size := by
 obtain ⟨r, hr, e⟩ := hk
 obtain ⟨i, hi⟩ := List.mem_iff_getElem?.1 hr
 have ht := (h.txs i r hi).1
 rcases e with rfl | e | rfl
 ·exact heap_lt ht.blk
 ·exact ht.now.lt k e
 ·exact ht.was.lt
/-- Behind a piece of work on the store itself. -/
theorem Scn.worked (h : Scn w x lg c mb rb s d m rows) {s' : SS} {d' : DS} {m' : Nat} {w' : World} (hw : SWorked x lg c mb s' d d' m' rb w w') :
  ∃ mb' rb', Scn w' x lg c mb' rb' s' d' m' rows ∧ STurn w w' (Foot11 x lg c mb rb rows) (Foot11 x lg c mb' rb' rows) ∧ (d'.dead = true → d.dead = false → rb' = none) := by
 obtain ⟨⟨mb', a1, a2⟩, ⟨rb', b1, b2, b3⟩, c1⟩ := hw
 refine ⟨mb', rb', ⟨a1, b1, fun i r hi => ⟨(h.txs i r hi).1.worked h.store h.disk c1, fun e => ?_⟩, h.apart⟩, ⟨c1.mono (fun k _ e => e.imp id .inl), fun k hk => ?_⟩, b3⟩
 ·rcases a2 with rfl | a2
  ·exact (h.txs i r hi).2 e
  ·have := (h.txs i r hi).1.now.lt mb' e
   omega
 ·rcases hk with ((rfl | hk) | rfl) | rfl | rfl | hk
  ·exact .inl (.inl (.inl (.inl rfl)))
  ·rcases b2 k hk with e | e
   ·exact .inl (.inl (.inl (.inr e)))
   ·exact .inr e
  ·exact .inl (.inl (.inr rfl))
  ·exact .inl (.inr (.inl rfl))
  ·rcases a2 with rfl | a2
   ·exact .inl (.inr (.inr (.inl rfl)))
   ·exact .inr a2
  ·exact .inl (.inr (.inr (.inr hk)))
theorem set_row {rows : List TRow} {i j : Nat} {r r' : TRow} (h : (rows.set i r)[j]? = some r') : (i = j ∧ r' = r ∧ i < rows.length) ∨ (i ≠ j ∧ rows[j]? = some r') := by
 rw [List.getElem?_set] at h
 by_cases e : i = j
 ·rw [if_pos e] at h
  split at h
  ·exact .inl ⟨e, (Option.some.inj h).symm, by assumption⟩
  ·cases h
 ·rw [if_neg e] at h
  exact .inr ⟨e, h⟩
theorem mem_set_row {rows : List TRow} {i : Nat} {r q : TRow} (h : q ∈ rows.set i r) : q = r ∨ q ∈ rows := by
 rcases List.mem_or_eq_of_mem_set h with h | h
 ·exact .inr h
 ·exact .inl h
/-- A transaction has turned its own map. -/
theorem Scn.mine (h : Scn w x lg c mb rb s d m rows) {i : Nat} {r : TRow} (hi : rows[i]? = some r) {t' : TS} {w' : World} (ht : TxAt w' x r.y r.pm r.wm t') (hT : Touch (fun b => r.pm = some b) w w') :
  Scn w' x lg c mb rb s d m (rows.set i { r with t := t' }) ∧ STurn w w' (Foot11 x lg c mb rb rows) (Foot11 x lg c mb rb (rows.set i { r with t := t' })) := by
 have hr := h.txs i r hi
 have hmem := List.mem_of_getElem? hi
 have hfar : ∀ k, r.pm = some k → ¬ (own3 c rb lg k ∨ k = x) ∧ ∀ (a : Array Value) t f, w.heap[k]? ≠ some (.cells a t f) := fun k hk => by
  have h1 := hr.1.now
  rw [hk] at h1
  have h2 : MapAt w k r.t.now := h1
  refine ⟨h.store.farMap h.disk h2, fun a t f e => ?_⟩
  obtain ⟨es, cl, h4⟩ := h2.isMap
  rw [e] at h4
  cases h4
 refine ⟨⟨h.store.touch hT (fun e => (hfar x e).1 (.inr rfl)) (fun e => (hfar lg e).1 (.inl (.inr rfl))) hr.2, h.disk.touch hT (fun k hk e => (hfar k e).1 (.inl (.inl hk))), fun j r' hj => ?_, fun j k r1 r2 h1 h2 hne => ?_⟩, hT.mono (fun k _ e => .inr (.inr (.inr ⟨r, hmem, .inr (.inl e)⟩))), fun k hk => ?_⟩
 ·rcases set_row hj with ⟨_, rfl, _⟩ | ⟨hij, hj⟩
  ·exact ⟨ht, hr.2⟩
  ·have hr' := h.txs j r' hj
   have ho := h.apart i j r r' hi hj hij
   exact ⟨hr'.1.touch hT (fun e => (hfar _ e).2 _ _ _ hr'.1.blk) (fun e => (ho.2 _ e).2 rfl) (fun b hb e => (ho.2 b e).1 hb), hr'.2⟩
 ·rcases set_row h1 with ⟨e1, rfl, _⟩ | ⟨e1, h1⟩ <;> rcases set_row h2 with ⟨e2, rfl, _⟩ | ⟨e2, h2⟩
  ·omega
  ·exact h.apart i k r r2 hi h2 e2
  ·exact h.apart j i r1 r h1 hi (fun e => e1 e.symm)
  ·exact h.apart j k r1 r2 h1 h2 hne
 ·rcases hk with hk | hk | hk | ⟨q, hq, hk⟩
  ·exact .inl (.inl hk)
  ·exact .inl (.inr (.inl hk))
  ·exact .inl (.inr (.inr (.inl hk)))
  ·rcases mem_set_row hq with rfl | hq
   ·exact .inl (.inr (.inr (.inr ⟨r, hmem, hk⟩)))
   ·exact .inl (.inr (.inr (.inr ⟨q, hq, hk⟩)))
include h
theorem sync_scn : Calls Tryz.prog 41 #[.pointer (some ⟨x, 0, none⟩)] w fun e w' => e = .returned (.int .i64 (s.sync d).2.2) ∧ ∃ mb' rb', Scn w' x lg c mb' rb' (s.sync d).1 (s.sync d).2.1 m rows ∧ STurn w w' (Foot11 x lg c mb rb rows) (Foot11 x lg c mb' rb' rows) ∧ ((s.sync d).2.1.dead = true → d.dead = false → rb' = none) :=
 (sync11_any x lg c mb w s d m rb h.store h.disk).mono fun _ _ ⟨he, hw⟩ => ⟨he, h.worked hw⟩
theorem check_scn (hm : m < 5000000000000) (hlg : s.l.g ≤ 4611686018427387904) : Calls Tryz.prog 60 #[.pointer (some ⟨x, 0, none⟩)] w fun e w' => e = .returned (.int .i64 (s.check d).2.2) ∧ ∃ mb' rb', Scn w' x lg c mb' rb' (s.check d).1 (s.check d).2.1 (m + 1) rows ∧ STurn w w' (Foot11 x lg c mb rb rows) (Foot11 x lg c mb' rb' rows) ∧ ((s.check d).2.1.dead = true → d.dead = false → rb' = none) :=
 (check11_any x lg c mb w s d m rb h.store h.disk hm hlg).mono fun _ _ ⟨he, hw⟩ => ⟨he, h.worked hw⟩
theorem begin_scn : Calls Tryz.prog 23 #[.pointer (some ⟨x, 0, none⟩)] w fun e w' => ∃ r : TRow, e = .returned (.pointer (some ⟨r.y, 0, none⟩)) ∧ r.t = s.begin_ ∧ Scn w' x lg c mb rb s d m (rows ++ [r]) ∧ STurn w w' (Foot11 x lg c mb rb rows) (Foot11 x lg c mb rb (rows ++ [r])) ∧ Below w.heap.size w w' := by
 refine (begin11_any x lg c mb w s h.store).mono ?_
 rintro e w' ⟨y, pm, wm, rfl, ht, hy, hp, hw, hb⟩
 have hml := h.store.map.lt
 refine ⟨⟨y, some pm, wm, s.begin_⟩, rfl, rfl, ⟨h.store.below hb, h.disk.below hb, fun i r hi => ?_, fun i j r r' hi hj hne => ?_⟩, ⟨Touch.of_below hb, fun k hk => ?_⟩, hb⟩
 ·rw [List.getElem?_append] at hi
  split at hi
  ·exact ⟨(h.txs i r hi).1.below hb, (h.txs i r hi).2⟩
  ·have : i - rows.length = 0 := by
    have := (List.getElem?_eq_some_iff.1 hi).1
    simp at this; omega
   rw [this] at hi
   cases hi
   exact ⟨ht, fun e => by have := Option.some.inj e; omega⟩
 ·rw [List.getElem?_append] at hi hj
  split at hi <;> split at hj
  ·exact h.apart i j r r' hi hj hne
  ·have : j - rows.length = 0 := by
    have := (List.getElem?_eq_some_iff.1 hj).1
    simp at this; omega
   rw [this] at hj
   cases hj
   have hl := fun k e => h.lt (k := k) ⟨r, List.mem_of_getElem? hi, e⟩
   refine ⟨fun e => ?_, fun b e => ⟨fun e' => ?_, fun e' => ?_⟩⟩
   ·have := hl r.y (.inl rfl); simp only at e; omega
   ·have := hl b (.inr (.inl e)); have := Option.some.inj e'; omega
   ·have := hl b (.inr (.inl e)); simp only at e'; omega
  ·have : i - rows.length = 0 := by
    have := (List.getElem?_eq_some_iff.1 hi).1
    simp at this; omega
   rw [this] at hi
   cases hi
   have hl := fun k e => h.lt (k := k) ⟨r', List.mem_of_getElem? hj, e⟩
   refine ⟨fun e => ?_, fun b e => ⟨fun e' => ?_, fun e' => ?_⟩⟩
   ·have := hl r'.y (.inl rfl); simp only at e; omega
   ·have := hl b (.inr (.inl e')); have := Option.some.inj e; omega
   ·have := hl r'.wm (.inr (.inr rfl)); have := Option.some.inj e; omega
  ·have h1 := (List.getElem?_eq_some_iff.1 hi).1
   have h2 := (List.getElem?_eq_some_iff.1 hj).1
   simp at h1 h2
   omega
 ·rcases hk with hk | hk | hk | ⟨q, hq, hk⟩
  ·exact .inl (.inl hk)
  ·exact .inl (.inr (.inl hk))
  ·exact .inl (.inr (.inr (.inl hk)))
  ·rcases List.mem_append.1 hq with hq | hq
   ·exact .inl (.inr (.inr (.inr ⟨q, hq, hk⟩)))
   ·simp at hq
    subst hq
    rcases hk with rfl | hk | rfl
    ·exact .inr hy
    ·have := Option.some.inj hk; exact .inr (by omega)
    ·exact .inr hw
end
section
variable {w : World} {x lg c mb : Nat} {rb : Option Nat} {s : SS} {d : DS} {m : Nat} {rows : List TRow} (h : Scn w x lg c mb rb s d m rows) {i : Nat} {r : TRow} (hi : rows[i]? = some r)
include h hi
theorem put_scn (k v : Sto.S) (hk : k.length ≤ maxLen) (hv : v.length ≤ maxLen) (hl : r.t.now.length < maxLen) : Calls Tryz.prog 24 #[.pointer (some ⟨r.y, 0, none⟩), .string ⟨k.toArray⟩, .string ⟨v.toArray⟩] w fun e w' => e = .returned (.int .i64 (r.t.put k v).2) ∧
  Scn w' x lg c mb rb s d m (rows.set i { r with t := (r.t.put k v).1 }) ∧ STurn w w' (Foot11 x lg c mb rb rows) (Foot11 x lg c mb rb (rows.set i { r with t := (r.t.put k v).1 })) :=
 (put11_any (h.txs i r hi).1 k v hk hv hl).mono fun _ _ ⟨he, ht, hT⟩ => ⟨he, h.mine hi ht hT⟩
theorem del_scn (k : Sto.S) (hk : k.length ≤ maxLen) : Calls Tryz.prog 25 #[.pointer (some ⟨r.y, 0, none⟩), .string ⟨k.toArray⟩] w fun e w' => e = .returned (.int .i64 (r.t.del k).2) ∧
  Scn w' x lg c mb rb s d m (rows.set i { r with t := (r.t.del k).1 }) ∧ STurn w w' (Foot11 x lg c mb rb rows) (Foot11 x lg c mb rb (rows.set i { r with t := (r.t.del k).1 })) :=
 (delete11_any (h.txs i r hi).1 k hk).mono fun _ _ ⟨he, ht, hT⟩ => ⟨he, h.mine hi ht hT⟩
/-- A transaction over. -/
def TRow.ended (r : TRow) : TRow := if r.t.over then r else { r with pm := none, t := r.t.ends }
theorem commit_scn (hm : m < 4999999999999) (hlg : s.l.g ≤ 4611686018427387904) (hln : s.l.n ≤ 4611686018427387904) (hl1 : r.t.now.length ≤ 4194304) (hl2 : r.t.was.length ≤ 4096) (hturn : s.turn ≤ 4611686018427387904) :
  Calls Tryz.prog 27 #[.pointer (some ⟨r.y, 0, none⟩)] w fun e w' => e = .returned (.int .i64 (s.commit r.t d).2.2) ∧ ∃ mb' rb', Scn w' x lg c mb' rb' (s.commit r.t d).1 (s.commit r.t d).2.1 (m + 2) (rows.set i r.ended) ∧
   STurn w w' (Foot11 x lg c mb rb rows) (Foot11 x lg c mb' rb' (rows.set i r.ended)) ∧ ((s.commit r.t d).2.1.dead = true → d.dead = false → rb' = none) := by
 have hr := h.txs i r hi
 have hmem := List.mem_of_getElem? hi
 refine (commit11_any x lg c mb r.y r.wm r.pm w s r.t d m rb h.store h.disk hr.1 hm hlg hln hl1 hl2 hturn).mono ?_
 rintro e w' ⟨rfl, ⟨mb', a1, a2⟩, ⟨rb', b1, b2, b3⟩, c1, t1⟩
 have he : r.ended.y = r.y ∧ r.ended.wm = r.wm ∧ r.ended.pm = (if r.t.over then r.pm else none) ∧ r.ended.t = (if r.t.over then r.t else r.t.ends) := by
  unfold TRow.ended
  cases r.t.over <;> exact ⟨rfl, rfl, rfl, rfl⟩
 have hpm : ∀ b, r.ended.pm = some b → r.pm = some b := fun b e => by
  rw [he.2.2.1] at e
  split at e
  ·exact e
  ·cases e
 have hmbs : ∀ (r' : TRow), r'.pm ≠ some mb → (∀ b, r'.pm = some b → b < w.heap.size) → r'.pm ≠ some mb' := fun r' h1 h2 e => by
  rcases a2 with rfl | a2
  ·exact h1 e
  ·have := h2 mb' e; omega
 refine ⟨rfl, mb', rb', ⟨a1, b1, fun j r' hj => ?_, fun j k r1 r2 h1 h2 hne => ?_⟩, ⟨c1.mono (fun k _ e => ?_), fun k hk => ?_⟩, b3⟩
 ·rcases set_row hj with ⟨_, rfl, _⟩ | ⟨hij, hj⟩
  ·refine ⟨?_, hmbs r.ended (fun e => hr.2 (hpm _ e)) (fun b e => hr.1.now.lt b (hpm b e))⟩
   rw [he.1, he.2.1, he.2.2.1, he.2.2.2]
   exact t1
  ·have hr' := h.txs j r' hj
   have ho := h.apart i j r r' hi hj hij
   have hcell : ∀ k (l : Sto.Pairs), MapAt w k l → k ≠ r.y := fun k l hk e => by
    obtain ⟨es, cl, h4⟩ := hk.isMap
    rw [e, hr.1.blk] at h4
    cases h4
   refine ⟨hr'.1.touch c1 ?_ ?_ (fun b hb => ?_), hmbs r' hr'.2 (fun b e => hr'.1.now.lt b e)⟩
   ·have hf := h.store.far h.disk hr'.1.blk (fun a t f e => by cases e; decide)
    rintro (e | e | e)
    ·exact hf (.inl e)
    ·exact hf (.inr e)
    ·exact ho.1 e.symm
   ·have hf := h.store.farMap h.disk hr'.1.was
    rintro (e | e | e)
    ·exact hf (.inl e)
    ·exact hf (.inr e)
    ·exact hcell _ _ hr'.1.was e
   ·have hn := hr'.1.now
    rw [hb] at hn
    have hf := h.store.farMap h.disk (l := r'.t.now) hn
    rintro (e | e | e)
    ·exact hf (.inl e)
    ·exact hf (.inr e)
    ·exact hcell b r'.t.now hn e
 ·have hoff1 : ∀ q, r.off q → r.ended.off q := fun q hq => ⟨by rw [he.1]; exact hq.1, fun b e => hq.2 b (hpm b e)⟩
  have hoff2 : ∀ q : TRow, q.off r → q.off r.ended := fun q hq => ⟨by rw [he.1]; exact hq.1, fun b e => ⟨fun e' => (hq.2 b e).1 (hpm b e'), by rw [he.2.1]; exact (hq.2 b e).2⟩⟩
  rcases set_row h1 with ⟨e1, rfl, _⟩ | ⟨e1, h1⟩ <;> rcases set_row h2 with ⟨e2, rfl, _⟩ | ⟨e2, h2⟩
  ·omega
  ·exact hoff1 _ (h.apart i k r r2 hi h2 e2)
  ·exact hoff2 _ (h.apart j i r1 r h1 hi (fun e => e1 e.symm))
  ·exact h.apart j k r1 r2 h1 h2 hne
 ·rcases e with e | rfl | rfl
  ·exact .inl e
  ·exact .inr (.inl rfl)
  ·exact .inr (.inr (.inr ⟨r, hmem, .inl rfl⟩))
 ·rcases hk with ((rfl | hk) | rfl) | rfl | rfl | ⟨q, hq, hk⟩
  ·exact .inl (.inl (.inl (.inl rfl)))
  ·rcases b2 k hk with e | e
   ·exact .inl (.inl (.inl (.inr e)))
   ·exact .inr e
  ·exact .inl (.inl (.inr rfl))
  ·exact .inl (.inr (.inl rfl))
  ·rcases a2 with rfl | a2
   ·exact .inl (.inr (.inr (.inl rfl)))
   ·exact .inr a2
  ·rcases mem_set_row hq with rfl | hq
   ·refine .inl (.inr (.inr (.inr ⟨r, hmem, ?_⟩)))
    rcases hk with e | e | e
    ·exact .inl (e.trans he.1)
    ·exact .inr (.inl (hpm k e))
    ·exact .inr (.inr (e.trans he.2.1))
   ·exact .inl (.inr (.inr (.inr ⟨q, hq, hk⟩)))
end
end Go.Proofs.YtpjpknndfhablaaGreat
namespace Go.Proofs.YtpjpknndfhablaaGreat
open Go.RowKit
/-- In w a store in block x over the disk in block c, with these transactions (their blocks, what they are); F: all that belongs to it. -/
def Sc (w : World) (F : Nat → Prop) (x c : Nat) (s : SS) (d : DS) (m : Nat) (ts : List (Nat × TS)) : Prop :=
 ∃ lg mb rb rows, F = Foot11 x lg c mb rb rows ∧ Scn w x lg c mb rb s d m rows ∧ rows.map (fun r => (r.y, r.t)) = ts
/-- A block that lies apart. -/
structure Kept (w : World) (F : Nat → Prop) (k : Nat) (o : Obj) : Prop where
 blk : w.heap[k]? = some o
 off : ¬ F k
theorem Kept.turn {w w' : World} {F F' : Nat → Prop} {k : Nat} {o : Obj} (h : Kept w F k o) (ht : STurn w w' F F') : Kept w' F' k o :=
 ⟨(ht.1.block k (heap_lt h.blk) h.off).trans h.blk, fun e => by rcases ht.2 k e with e | e; exact h.off e; have := heap_lt h.blk; omega⟩
theorem Kept.below {w w' : World} {F : Nat → Prop} {k : Nat} {o : Obj} (h : Kept w F k o) (hb : Below w.heap.size w w') : Kept w' F k o := ⟨stays h.blk hb, h.off⟩
/-- Pairs that lie apart. -/
structure KeptP (w : World) (F : Nat → Prop) (v : Value) (l : Sto.Pairs) : Prop where
 pairs : PairsAt w v l
 off : ∀ g, v.ownBlock = some g → ¬ F g ∧ g < w.heap.size
theorem PairsAt.blk {w : World} {v : Value} {l : Sto.Pairs} (h : PairsAt w v l) {g : Nat} (hg : v.ownBlock = some g) : g < w.heap.size := by
 rcases h.2 with ⟨rfl, _⟩ | ⟨g', cap, rfl, _, hlt, _⟩
 ·cases hg
 ·cases hg; exact hlt
theorem KeptP.turn {w w' : World} {F F' : Nat → Prop} {v : Value} {l : Sto.Pairs} (h : KeptP w F v l) (ht : STurn w w' F F') : KeptP w' F' v l :=
 ⟨h.pairs.touch ht.1 (fun k hk => (h.off k hk).1), fun g hg => ⟨fun e => by rcases ht.2 g e with e | e; exact (h.off g hg).1 e; have := (h.off g hg).2; omega, Nat.lt_of_lt_of_le (h.off g hg).2 ht.1.size⟩⟩
theorem KeptP.below {w w' : World} {F : Nat → Prop} {v : Value} {l : Sto.Pairs} (h : KeptP w F v l) (hb : Below w.heap.size w w') : KeptP w' F v l :=
 ⟨h.pairs.below hb, fun g hg => ⟨(h.off g hg).1, Nat.lt_of_lt_of_le (h.off g hg).2 hb.size⟩⟩
/-- All that belongs to it has been made since w0, and what lay in w0 lies as it lay. -/
structure Since (w0 w : World) (F : Nat → Prop) : Prop where
 old : Below w0.heap.size w0 w
 low : ∀ k, F k → w0.heap.size ≤ k
theorem Since.turn {w0 w w' : World} {F F' : Nat → Prop} (h : Since w0 w F) (ht : STurn w w' F F') : Since w0 w' F' :=
 ⟨h.old.trans (ht.1.below h.old.size fun k hk e => by have := h.low k e; omega), fun k e => by rcases ht.2 k e with e | e; exact h.low k e; exact Nat.le_trans h.old.size e⟩
theorem Since.below {w0 w w' : World} {F : Nat → Prop} (h : Since w0 w F) (hb : Below w.heap.size w w') : Since w0 w' F := ⟨h.old.trans (hb.mono h.old.size), h.low⟩
theorem STurn.refl (w : World) (F : Nat → Prop) : STurn w w F F := ⟨Touch.refl _ _, fun _ h => .inl h⟩
theorem STurn.below {w w' : World} {F : Nat → Prop} (hb : Below w.heap.size w w') : STurn w w' F F := ⟨Touch.of_below hb, fun _ h => .inl h⟩
theorem STurn.trans {w w1 w2 : World} {F F1 F2 : Nat → Prop} (h : STurn w w1 F F1) (h' : STurn w1 w2 F1 F2) : STurn w w2 F F2 :=
 ⟨h.1.trans h'.1 (fun k hk e => by rcases h.2 k e with e | e; exact e; omega), fun k e => by rcases h'.2 k e with e | e; exact h.2 k e; exact .inr (Nat.le_trans h.1.size e)⟩
section
variable {w : World} {F : Nat → Prop} {x c : Nat} {s : SS} {d : DS} {m : Nat} {ts : List (Nat × TS)}
theorem Sc.below {w' : World} (h : Sc w F x c s d m ts) (hb : Below w.heap.size w w') : Sc w' F x c s d m ts := by
 obtain ⟨lg, mb, rb, rows, h1, h2, h3⟩ := h
 exact ⟨lg, mb, rb, rows, h1, h2.below hb, h3⟩
theorem Sc.mono {n : Nat} (h : Sc w F x c s d m ts) (hmn : m ≤ n) : Sc w F x c s d n ts := by
 obtain ⟨lg, mb, rb, rows, h1, h2, h3⟩ := h
 exact ⟨lg, mb, rb, rows, h1, ⟨h2.store, h2.disk.mono hmn, h2.txs, h2.apart⟩, h3⟩
theorem Sc.good (h : Sc w F x c s d m ts) : d.Ok ∧ Sto.Good s.ps ∧ Sto.fits s.ps = true := by
 obtain ⟨lg, mb, rb, rows, _, h2, _⟩ := h
 exact ⟨h2.disk.1, h2.store.good, h2.store.fits⟩
theorem Sc.goodT (h : Sc w F x c s d m ts) {i y : Nat} {t : TS} (hi : ts[i]? = some (y, t)) : Sto.Good t.now ∧ Sto.Good t.was := by
 obtain ⟨lg, mb, rb, rows, _, h2, rfl⟩ := h
 rw [List.getElem?_map] at hi
 cases hr : rows[i]? with
 | none => rw [hr] at hi; cases hi
 | some r =>
  rw [hr] at hi
  cases hi
  exact ⟨(h2.txs i r hr).1.gnow, (h2.txs i r hr).1.gwas⟩
theorem map_set_row {rows : List TRow} {i : Nat} {r : TRow} : (rows.set i r).map (fun r => (r.y, r.t)) = (rows.map (fun r => (r.y, r.t))).set i (r.y, r.t) := by
 rw [List.map_set]
theorem sync_sc (h : Sc w F x c s d m ts) : Calls Tryz.prog 41 #[.pointer (some ⟨x, 0, none⟩)] w fun e w' => e = .returned (.int .i64 (s.sync d).2.2) ∧ ∃ F', Sc w' F' x c (s.sync d).1 (s.sync d).2.1 m ts ∧ STurn w w' F F' ∧ ((s.sync d).2.1.dead = true → d.dead = false → Sc w' F' x c (s.sync d).1 (s.sync d).2.1 0 ts) := by
 obtain ⟨lg, mb, rb, rows, rfl, h2, h3⟩ := h
 refine (sync_scn h2).mono ?_
 rintro e w' ⟨he, mb', rb', a1, a2, a3⟩
 exact ⟨he, _, ⟨lg, mb', rb', rows, rfl, a1, h3⟩, a2, fun e1 e2 => by obtain rfl := a3 e1 e2; exact ⟨lg, mb', none, rows, rfl, ⟨a1.store, a1.disk.fresh, a1.txs, a1.apart⟩, h3⟩⟩
theorem check_sc (h : Sc w F x c s d m ts) (hm : m < 5000000000000) (hlg : s.l.g ≤ 4611686018427387904) : Calls Tryz.prog 60 #[.pointer (some ⟨x, 0, none⟩)] w fun e w' => e = .returned (.int .i64 (s.check d).2.2) ∧ ∃ F', Sc w' F' x c (s.check d).1 (s.check d).2.1 (m + 1) ts ∧ STurn w w' F F' ∧ ((s.check d).2.1.dead = true → d.dead = false → Sc w' F' x c (s.check d).1 (s.check d).2.1 0 ts) := by
 obtain ⟨lg, mb, rb, rows, rfl, h2, h3⟩ := h
 refine (check_scn h2 hm hlg).mono ?_
 rintro e w' ⟨he, mb', rb', a1, a2, a3⟩
 exact ⟨he, _, ⟨lg, mb', rb', rows, rfl, a1, h3⟩, a2, fun e1 e2 => by obtain rfl := a3 e1 e2; exact ⟨lg, mb', none, rows, rfl, ⟨a1.store, a1.disk.fresh, a1.txs, a1.apart⟩, h3⟩⟩
theorem begin_sc (h : Sc w F x c s d m ts) : Calls Tryz.prog 23 #[.pointer (some ⟨x, 0, none⟩)] w fun e w' => ∃ y F', e = .returned (.pointer (some ⟨y, 0, none⟩)) ∧ Sc w' F' x c s d m (ts ++ [(y, s.begin_)]) ∧ STurn w w' F F' := by
 obtain ⟨lg, mb, rb, rows, rfl, h2, h3⟩ := h
 refine (begin_scn h2).mono ?_
 rintro e w' ⟨r, rfl, hrt, a1, a2, _⟩
 exact ⟨r.y, _, rfl, ⟨lg, mb, rb, rows ++ [r], rfl, a1, by rw [List.map_append, h3, List.map_singleton, hrt]⟩, a2⟩
theorem scan_sc (h : Sc w F x c s d m ts) (k : Sto.S) (most : Int) (hm1 : most ≤ 9223372036854775807) (hm2 : -9223372036854775808 ≤ most) : Calls Tryz.prog 20 #[.pointer (some ⟨x, 0, none⟩), .string ⟨k.toArray⟩, .int .i64 most] w fun e w' => ∃ v, e = .returned v ∧ PairsAt w' v (Sto.scan s.ps k most.toNat) ∧ (∀ g, v.ownBlock = some g → w.heap.size ≤ g) ∧ Below w.heap.size w w' := by
 obtain ⟨lg, mb, rb, rows, _, h2, _⟩ := h
 exact scan11_any h2.store k most hm1 hm2
theorem dead_sc (h : Sc w F x c s d m ts) : Calls Tryz.prog 29 #[.pointer (some ⟨x, 0, none⟩)] w fun e w' => e = .returned (.bool s.dead) ∧ w' = w := by
 obtain ⟨lg, mb, rb, rows, _, h2, _⟩ := h
 exact dead11_any h2.store
theorem Sc.lt (h : Sc w F x c s d m ts) : ∀ k, F k → k < w.heap.size := by
 obtain ⟨lg, mb, rb, rows, rfl, h2, _⟩ := h
 intro k hk
 rcases hk with hk | rfl | rfl | hk
 ·obtain ⟨a, t, f, h1, _⟩ := h2.store.log.typed3 h2.disk k hk
  exact heap_lt h1
 ·exact heap_lt h2.store.blk
 ·exact h2.store.map.lt
 ·exact h2.lt hk
theorem row_of (h : Sc w F x c s d m ts) {i y : Nat} {t : TS} (hi : ts[i]? = some (y, t)) : ∃ lg mb rb rows r, F = Foot11 x lg c mb rb rows ∧ Scn w x lg c mb rb s d m rows ∧ rows.map (fun r => (r.y, r.t)) = ts ∧ rows[i]? = some r ∧ r.y = y ∧ r.t = t := by
 obtain ⟨lg, mb, rb, rows, h1, h2, h3⟩ := h
 rw [← h3, List.getElem?_map] at hi
 cases hr : rows[i]? with
 | none => rw [hr] at hi; cases hi
 | some r =>
  rw [hr] at hi
  cases hi
  exact ⟨lg, mb, rb, rows, r, h1, h2, h3, hr, rfl, rfl⟩
theorem put_sc (h : Sc w F x c s d m ts) {i y : Nat} {t : TS} (hi : ts[i]? = some (y, t)) (k v : Sto.S) (hk : k.length ≤ maxLen) (hv : v.length ≤ maxLen) (hl : t.now.length < maxLen) : Calls Tryz.prog 24 #[.pointer (some ⟨y, 0, none⟩), .string ⟨k.toArray⟩, .string ⟨v.toArray⟩] w fun e w' => e = .returned (.int .i64 (t.put k v).2) ∧ ∃ F', Sc w' F' x c s d m (ts.set i (y, (t.put k v).1)) ∧ STurn w w' F F' := by
 obtain ⟨lg, mb, rb, rows, r, rfl, h2, h3, hr, rfl, rfl⟩ := row_of h hi
 refine (put_scn h2 hr k v hk hv hl).mono ?_
 rintro e w' ⟨he, a1, a2⟩
 exact ⟨he, _, ⟨lg, mb, rb, _, rfl, a1, by rw [map_set_row, h3]⟩, a2⟩
theorem del_sc (h : Sc w F x c s d m ts) {i y : Nat} {t : TS} (hi : ts[i]? = some (y, t)) (k : Sto.S) (hk : k.length ≤ maxLen) : Calls Tryz.prog 25 #[.pointer (some ⟨y, 0, none⟩), .string ⟨k.toArray⟩] w fun e w' => e = .returned (.int .i64 (t.del k).2) ∧ ∃ F', Sc w' F' x c s d m (ts.set i (y, (t.del k).1)) ∧ STurn w w' F F' := by
 obtain ⟨lg, mb, rb, rows, r, rfl, h2, h3, hr, rfl, rfl⟩ := row_of h hi
 refine (del_scn h2 hr k hk).mono ?_
 rintro e w' ⟨he, a1, a2⟩
 exact ⟨he, _, ⟨lg, mb, rb, _, rfl, a1, by rw [map_set_row, h3]⟩, a2⟩
theorem txscan_sc (h : Sc w F x c s d m ts) {i y : Nat} {t : TS} (hi : ts[i]? = some (y, t)) (k : Sto.S) (most : Int) (hlen : t.now.length ≤ 4398046511104) (hm1 : most ≤ 9223372036854775807) (hm2 : -9223372036854775808 ≤ most) : Calls Tryz.prog 26 #[.pointer (some ⟨y, 0, none⟩), .string ⟨k.toArray⟩, .int .i64 most] w fun e w' => ∃ v, e = .returned v ∧ PairsAt w' v (Sto.scan t.now k most.toNat) ∧ (∀ g, v.ownBlock = some g → w.heap.size ≤ g) ∧ Below w.heap.size w w' := by
 obtain ⟨lg, mb, rb, rows, r, rfl, h2, h3, hr, rfl, rfl⟩ := row_of h hi
 exact txscan11_any (h2.txs i r hr).1 k most hlen hm1 hm2
theorem txget_sc (h : Sc w F x c s d m ts) {i y : Nat} {t : TS} (hi : ts[i]? = some (y, t)) (k : Sto.S) (hk : k.length ≤ maxLen) : Calls Tryz.prog 39 #[.pointer (some ⟨y, 0, none⟩), .string ⟨k.toArray⟩] w fun e w' => e = .returned (.tuple #[.string ⟨((Sto.get t.now k).getD []).toArray⟩, .bool (Sto.here t.now k)]) ∧ w' = w := by
 obtain ⟨lg, mb, rb, rows, r, rfl, h2, h3, hr, rfl, rfl⟩ := row_of h hi
 exact txget11_any (h2.txs i r hr).1 k hk
def TS.ended (t : TS) : TS := if t.over then t else t.ends
theorem commit_sc (h : Sc w F x c s d m ts) {i y : Nat} {t : TS} (hi : ts[i]? = some (y, t)) (hm : m < 4999999999999) (hlg : s.l.g ≤ 4611686018427387904) (hln : s.l.n ≤ 4611686018427387904) (hl1 : t.now.length ≤ 4194304) (hl2 : t.was.length ≤ 4096) (hturn : s.turn ≤ 4611686018427387904) :
  Calls Tryz.prog 27 #[.pointer (some ⟨y, 0, none⟩)] w fun e w' => e = .returned (.int .i64 (s.commit t d).2.2) ∧ ∃ F', Sc w' F' x c (s.commit t d).1 (s.commit t d).2.1 (m + 2) (ts.set i (y, t.ended)) ∧ STurn w w' F F' ∧ ((s.commit t d).2.1.dead = true → d.dead = false → Sc w' F' x c (s.commit t d).1 (s.commit t d).2.1 0 (ts.set i (y, t.ended))) := by
 obtain ⟨lg, mb, rb, rows, r, rfl, h2, h3, hr, rfl, rfl⟩ := row_of h hi
 refine (commit_scn h2 hr hm hlg hln hl1 hl2 hturn).mono ?_
 rintro e w' ⟨he, mb', rb', a1, a2, a3⟩
 have hmap : (rows.set i r.ended).map (fun r => (r.y, r.t)) = ts.set i (r.y, r.t.ended) := by
  rw [map_set_row, h3]
  unfold TRow.ended TS.ended
  cases r.t.over <;> rfl
 exact ⟨he, _, ⟨lg, mb', rb', _, rfl, a1, hmap⟩, a2, fun e1 e2 => by obtain rfl := a3 e1 e2; exact ⟨lg, mb', none, _, rfl, ⟨a1.store, a1.disk.fresh, a1.txs, a1.apart⟩, hmap⟩⟩
end
end Go.Proofs.YtpjpknndfhablaaGreat
namespace Go.Proofs.YtpjpknndfhablaaGreat
open Go.RowKit
/-- Changes that came in: a slice of them is read. -/
structure CsAt (w : World) (ao : Option Addr) (l : List Sto.Ch) : Prop where
 len : l.length ≤ 1048576
 cell : ∀ i o, l[i]? = some o → ∃ b off, ao = some ⟨b, off, none⟩ ∧ b < w.heap.size ∧ w.cell? ⟨b, off + i * 3, none⟩ = some (.bool o.put) ∧ w.cell? ⟨b, off + i * 3 + 1, none⟩ = some (.string ⟨o.key.toArray⟩) ∧ w.cell? ⟨b, off + i * 3 + 2, none⟩ = some (.string ⟨o.value.toArray⟩)
 fits : ∀ o ∈ l, o.key.length ≤ maxLen ∧ o.value.length ≤ maxLen
theorem CsAt.below {w w' : World} {ao : Option Addr} {l : List Sto.Ch} (h : CsAt w ao l) (hb : Below w.heap.size w w') : CsAt w' ao l :=
 ⟨h.len, fun i o hi => by
  obtain ⟨b, off, e, hl, c0, c1, c2⟩ := h.cell i o hi
  exact ⟨b, off, e, Nat.lt_of_lt_of_le hl hb.size, cell_later hb c0, cell_later hb c1, cell_later hb c2⟩, h.fits⟩
theorem Sto.put_len : ∀ (l : Sto.Pairs) (k v : Sto.S), (Sto.put l k v).length ≤ l.length + 1
 | [], k, v => by simp [Sto.put]
 | p :: r, k, v => by
  unfold Sto.put
  have := Sto.put_len r k v
  split
  ·simp; omega
  ·split
   ·simp
   ·simp
namespace TS
/-- A change on a transaction. -/
def turn1 (t : TS) (c : Sto.Ch) : TS := if c.put then (t.put c.key c.value).1 else (t.del c.key).1
def turns (t : TS) (l : List Sto.Ch) : TS := l.foldl turn1 t
theorem put_len (t : TS) (k v : Sto.S) : (t.put k v).1.now.length ≤ t.now.length + 1 ∧ (t.put k v).1.was = t.was ∧ (t.put k v).1.turn = t.turn ∧ (t.put k v).1.over = t.over := by
 unfold TS.put
 split
 ·exact ⟨Nat.le_succ _, rfl, rfl, rfl⟩
 ·split
  ·exact ⟨Nat.le_succ _, rfl, rfl, rfl⟩
  ·split
   ·exact ⟨Nat.le_succ _, rfl, rfl, rfl⟩
   ·exact ⟨Sto.put_len t.now k v, rfl, rfl, rfl⟩
theorem del_len (t : TS) (k : Sto.S) : (t.del k).1.now.length ≤ t.now.length + 1 ∧ (t.del k).1.was = t.was ∧ (t.del k).1.turn = t.turn ∧ (t.del k).1.over = t.over := by
 unfold TS.del
 split
 ·exact ⟨Nat.le_succ _, rfl, rfl, rfl⟩
 ·split
  ·exact ⟨Nat.le_succ _, rfl, rfl, rfl⟩
  ·exact ⟨Nat.le_succ_of_le (Sto.del_length t.now k), rfl, rfl, rfl⟩
end TS
theorem wappend_g {l : Wal.LS} {d : DS} {r : List UInt8} : (Wal.append l d r).1.g = l.g := by
 unfold Wal.append
 split
 ·rfl
 ·split
  ·rfl
  ·split
   ·rfl
   ·split <;> rfl
/-- A deed's end: perhaps a sync, perhaps a checkpoint. -/
def SS.deed2 (p : Sto.Pairs) (e : Int) (s : SS) (d : DS) (th : Int) : Sto.Pairs × Int × SS × DS :=
 if e = 0 ∧ th = 1 then (p, (s.sync d).2.2, (s.sync d).1, (s.sync d).2.1)
 else if e = 0 ∧ th = 2 then (p, (s.check d).2.2, (s.check d).1, (s.check d).2.1)
 else (p, e, s, d)
/-- A deed: what is told, and what is left. -/
def SS.deed (s : SS) (d : DS) (l : List Sto.Ch) (th : Int) : Sto.Pairs × Int × SS × DS :=
 SS.deed2 (if (s.commit (s.begin_.turns l) d).2.2 ≠ 0 ∧ (s.commit (s.begin_.turns l) d).2.2 ≠ 2 then Sto.scan (s.commit (s.begin_.turns l) d).1.ps [] 99999 else Sto.scan (s.begin_.turns l).now [] 99999)
  (if (s.commit (s.begin_.turns l) d).2.2 = 2 then 2 else 0) (s.commit (s.begin_.turns l) d).1 (s.commit (s.begin_.turns l) d).2.1 th
/-- How many rows are counted behind a call that may have died. -/
theorem Sc.count {w : World} {F : Nat → Prop} {x c : Nat} {s : SS} {d d0 : DS} {m : Nat} {ts : List (Nat × TS)} (h : Sc w F x c s d m ts) (h0 : d.dead = true → d0.dead = false → Sc w F x c s d 0 ts) : ∃ n, n ≤ m ∧ Sc w F x c s d n ts ∧ (d.dead = true → d0.dead = false → n = 0) := by
 by_cases hc : d.dead = true ∧ d0.dead = false
 ·exact ⟨0, Nat.zero_le _, h0 hc.1 hc.2, fun _ _ => rfl⟩
 ·exact ⟨m, Nat.le_refl _, h, fun a b => absurd ⟨a, b⟩ hc⟩
end Go.Proofs.YtpjpknndfhablaaGreat
namespace Go.Proofs.YtpjpknndfhablaaGreat
open Go.ChangeShapes Go.WideShapes Go.ChangeAt Go.RowKit Go.Deep
theorem bulk_one {H : Type} (d : DataW H) : 1 ≤ Rows.uptoBulk d := by
 cases d with
 | lit l => cases l <;> simp [Rows.uptoBulk]
 | _ => simp [Rows.uptoBulk]
theorem bulk_length {H : Type} : ∀ (l : List (DataW H)), l.length ≤ Rows.uptoBulkAll l
 | [] => by simp
 | x :: r => by
  have h1 := bulk_one x
  have h2 := bulk_length r
  simp only [Rows.uptoBulkAll, List.length_cons]
  omega
theorem bulk_part {H : Type} {x : DataW H} : ∀ {l : List (DataW H)}, x ∈ l → Rows.uptoBulk x ≤ Rows.uptoBulkAll l
 | y :: r, h => by
  simp only [Rows.uptoBulkAll]
  rcases List.mem_cons.1 h with rfl | h
  ·omega
  ·have := bulk_part h
   omega
theorem bulk_slice {H : Type} {e s : List (DataW H)} {n : Nat} (h : Rows.uptoBulk (.slice e s) ≤ n) : e.length ≤ n := by
 have h1 := bulk_length e
 simp only [Rows.uptoBulk] at h
 omega
section
variable {H : Type} {enc : TypeId × Value → H} {W : World} {sp : Nat → Bool} {held : Bool}
theorem weights_of {ts : List TypeId} {ds : List (DataW H)} (hsz : (DataW.weightsEach Tryz.prog ts ds).all (· ≤ reachBytes) = true) {j : Nat} {t : TypeId} {d : DataW H} (ht : ts[j]? = some t) (hd : ds[j]? = some d) : ∀ k ∈ d.weights Tryz.prog t, k ≤ reachBytes := fun k hk =>
 of_decide_eq_true (List.all_eq_true.1 hsz _ (DataW.weights_mem_each ht hd k hk))
end
end Go.Proofs.YtpjpknndfhablaaGreat
namespace Go.Proofs.YtpjpknndfhablaaGreat
open Go.RowKit
set_option maxHeartbeats 2000000 in
theorem rframe_any (s : List UInt8) (w : World) (hs : s.length ≤ 1048576) :
  Calls Tryz.prog 92 #[.string ⟨s.toArray⟩] w fun e w' => e = .returned (.string ⟨(Wal.frame s).toArray⟩) ∧ Below w.heap.size w w' := by
 obtain ⟨A, hA⟩ : ∃ A, Sha.big s.length 4 = A := ⟨_, rfl⟩
 obtain ⟨c, hc⟩ : ∃ c, Wal.crc s = c := ⟨_, rfl⟩
 have hcl := Wal.crc_lt s
 rw [hc] at hcl
 obtain ⟨B, hB⟩ : ∃ B, Sha.big c 4 = B := ⟨_, rfl⟩
 have hAl : A.length = 4 := by rw [← hA]; exact Sha.big_length _ _
 have hBl : B.length = 4 := by rw [← hB]; exact Sha.big_length _ _
 have HF : Hid (Wal.frame s = A ++ B ++ s) := Lib.hid (by unfold Wal.frame; rw [hA, hc, hB])
 have HA := Lib.hid hA
 have HB := Lib.hid hB
 have HC := Lib.hid hc
 clear hA hB hc
 have hap1 := bytes_append A B
 have hap2 := bytes_append (A ++ B) s
 go_enter Tryz.func92, Tryz.ntmps92
 go_wp2_with fail
 refine (rbytes_any s.length 4 w (by decide) (by omega)).mono ?_
 rw [HA.out]
 rintro e w1 ⟨rfl, b1⟩
 have B1 := Lib.hid b1
 clear b1
 go_wp2_with fail
 refine (rwsum_any s w1 (by omega)).mono ?_
 rw [HC.out]
 rintro e w2 ⟨rfl, rfl⟩
 go_wp2_with fail
 refine (rbytes_any c 4 w1 (by decide) (by omega)).mono ?_
 rw [HB.out]
 rintro e w2 ⟨rfl, b2⟩
 have B2 := Lib.hid (bthen B1.out b2)
 clear b2
 go_wp2_with fail
 go_ret
 exact ⟨by rw [HF.out, List.append_assoc]; rfl, B2.out⟩
set_option maxHeartbeats 4000000 in
set_option maxRecDepth 100000 in
theorem rwhole_any (l : List UInt8) (p most : Nat) (w : World) (hl : l.length ≤ 2097152) (hp : p ≤ 4194304) (hm : most ≤ 1048576) :
  Calls Tryz.prog 103 #[.string ⟨l.toArray⟩, .int .i64 p, .int .i64 most] w fun e w' => e = .returned (.tuple #[.string ⟨(Wal.whole l p most).1.toArray⟩, .bool (Wal.whole l p most).2]) ∧ Below w.heap.size w w' := by
 by_cases h1 : l.length < p + 8
 ·have HW := Lib.hid (Wal.whole_short (most := most) h1)
  go_enter Tryz.func103, Tryz.ntmps103
  go_wp2
  go_ret2
  exact ⟨by rw [HW.out]; rfl, Below.refl _ _⟩
 ·obtain ⟨l4, hl4⟩ : ∃ l4, (l.drop p).take 4 = l4 := ⟨_, rfl⟩
  have hl4L : l4.length = 4 := by rw [← hl4]; simp; omega
  obtain ⟨n, hn⟩ : ∃ n, Sha.val l4 = n := ⟨_, rfl⟩
  have hnl : n < 4294967296 := by
   have h := Sha.val_lt l4
   rw [hl4L, hn] at h
   exact h
  have hext1 := ext_take l p 4
  rw [hl4] at hext1
  have HN := Lib.hid hn
  have HL4 := Lib.hid hl4L
  by_cases h2 : most < n
  ·have HW : Hid (Wal.whole l p most = ([], false)) := Lib.hid (by unfold Wal.whole; rw [if_neg h1, hl4, hn, if_pos (.inl h2)])
   clear hn hl4 hl4L
   go_enter Tryz.func103, Tryz.ntmps103
   go_wp2_with fail
   refine (rvalue_any l4 w (by rw [HL4.out]; decide)).mono ?_
   rw [HN.out]
   rintro e w1 ⟨rfl, rfl⟩
   go_wp2
   go_ret2
   exact ⟨by rw [HW.out]; rfl, Below.refl _ _⟩
  by_cases h3 : l.length - p - 8 < n
  ·have HW : Hid (Wal.whole l p most = ([], false)) := Lib.hid (by unfold Wal.whole; rw [if_neg h1, hl4, hn, if_pos (.inr h3)])
   clear hn hl4 hl4L
   go_enter Tryz.func103, Tryz.ntmps103
   go_wp2_with fail
   refine (rvalue_any l4 w (by rw [HL4.out]; decide)).mono ?_
   rw [HN.out]
   rintro e w1 ⟨rfl, rfl⟩
   go_wp2
   go_ret2
   exact ⟨by rw [HW.out]; rfl, Below.refl _ _⟩
  ·obtain ⟨s, hs⟩ : ∃ s, (l.drop (p + 8)).take n = s := ⟨_, rfl⟩
   obtain ⟨c4, hc4⟩ : ∃ c4, (l.drop (p + 4)).take 4 = c4 := ⟨_, rfl⟩
   have hc4L : c4.length = 4 := by rw [← hc4]; simp; omega
   have hsl : s.length ≤ 2097152 := by rw [← hs]; simp; omega
   obtain ⟨c, hc⟩ : ∃ c, Wal.crc s = c := ⟨_, rfl⟩
   obtain ⟨v, hv⟩ : ∃ v, Sha.val c4 = v := ⟨_, rfl⟩
   have hcl := Wal.crc_lt s
   rw [hc] at hcl
   have hext2 := ext_take l (p + 8) n
   rw [hs] at hext2
   have hext3 := ext_take l (p + 4) 4
   rw [hc4, show p + 4 + 4 = p + 8 by omega] at hext3
   have HW : Hid (Wal.whole l p most = (s, c == v)) := Lib.hid (by unfold Wal.whole; rw [if_neg h1, hl4, hn, if_neg (by omega), hs, hc4, hc, hv])
   have HC := Lib.hid hc
   have HV := Lib.hid hv
   have HC4 := Lib.hid hc4L
   have HEQ : Hid (((v : Int) == (c : Int)) = (c == v)) := Lib.hid (by rw [Bool.eq_iff_iff]; simp; omega)
   clear hn hl4 hl4L hs hc4 hc4L hc hv
   have hmx : Tryz.prog.follows .mixedOrders = true := by kernel_rfl
   go_enter Tryz.func103, Tryz.ntmps103
   go_wp2_with fail
   refine (rvalue_any l4 w (by rw [HL4.out]; decide)).mono ?_
   rw [HN.out]
   rintro e w1 ⟨rfl, rfl⟩
   go_wp2_with fail
   have q1 : ∀ W, Calls Tryz.prog 144 #[.string ⟨s.toArray⟩] W fun e w' => e = .returned (.int .u32 c) ∧ w' = W := fun W => by
    have := rwsum_any s W (by omega)
    rw [HC.out] at this
    exact this.mono fun _ _ h => ⟨h.1, h.2.symm⟩
   have q2 : ∀ W, Calls Tryz.prog 151 #[.string ⟨c4.toArray⟩] W fun e w' => e = .returned (.int .u64 v) ∧ w' = W := fun W => by
    have := rvalue_any c4 W (by rw [HC4.out]; decide)
    rw [HV.out] at this
    exact this.mono fun _ _ h => ⟨h.1, h.2.symm⟩
   have Q1 := Lib.hid q1
   have Q2 := Lib.hid q2
   clear q1 q2
   refine (Q2.out w).mono ?_
   rintro e w1 ⟨rfl, rfl⟩
   go_wp2_with fail
   refine (Q1.out _).mono ?_
   rintro e w1 ⟨rfl, rfl⟩
   go_wp2
   go_ret2
   exact ⟨by rw [HW.out, ← HEQ.out]; rfl, Below.refl _ _⟩
set_option maxHeartbeats 4000000 in
set_option maxRecDepth 100000 in
theorem rcounts_any (l : List UInt8) (w : World) (hl : l.length ≤ 2097152) :
  Calls Tryz.prog 102 #[.string ⟨l.toArray⟩] w fun e w' => e = .returned (.tuple #[.int .u64 (Wal.counts l).1, .string ⟨(Wal.counts l).2.1.toArray⟩, .int .i64 (Wal.counts l).2.2]) ∧ Below w.heap.size w w' := by
 by_cases h12 : l.length < 12
 ·have HW : Hid (Wal.counts l = (0, [], 0)) := Lib.hid (by unfold Wal.counts; rw [if_pos (.inl h12)])
  go_enter Tryz.func102, Tryz.ntmps102
  go_wp2_with fail
  go_ret3
  exact ⟨by rw [HW.out]; rfl, Below.refl _ _⟩
 obtain ⟨b, hb⟩ : ∃ b, decide (l.take 4 = Wal.magic) = b := ⟨_, rfl⟩
 have hext0 := bytes_extract l 4
 have hne : (l.take 4 == [83, 78, 76, 49]) = b := by
  rw [← hb, ← magic_eq]
 obtain ⟨m4, hm4⟩ : ∃ m4, l.take 4 = m4 := ⟨_, rfl⟩
 rw [hm4] at hext0 hne
 have HM4 := Lib.hid hm4
 clear hm4
 cases b with
 | false =>
  have HW : Hid (Wal.counts l = (0, [], 0)) := Lib.hid (by unfold Wal.counts; rw [if_pos (.inr (of_decide_eq_false hb))])
  clear hb
  go_enter Tryz.func102, Tryz.ntmps102
  go_wp2_with fail
  go_ret3
  exact ⟨by rw [HW.out]; rfl, Below.refl _ _⟩
 | true =>
  have hmag := of_decide_eq_true hb
  obtain ⟨l8, hl8⟩ : ∃ l8, (l.drop 4).take 8 = l8 := ⟨_, rfl⟩
  have hl8L : l8.length = 8 := by rw [← hl8]; simp; omega
  obtain ⟨n, hn⟩ : ∃ n, Sha.val l8 = n := ⟨_, rfl⟩
  have hnl : n < 18446744073709551616 := by
   have h := Sha.val_lt l8
   rw [hl8L, hn] at h
   exact h
  have hext := ext_take l 4 8
  rw [hl8] at hext
  obtain ⟨s, ok, hs⟩ : ∃ s ok, Wal.whole l 12 524288 = (s, ok) := ⟨_, _, rfl⟩
  have hsl : s.length ≤ 2097152 := by
   have h1 : (Wal.whole l 12 524288).1.length ≤ l.length := by
    unfold Wal.whole
    split
    ·simp
    ·split
     ·simp
     ·simp; omega
   rw [hs] at h1
   exact Nat.le_trans h1 hl
  have HWH : Hid (∀ W, Calls Tryz.prog 103 #[.string ⟨l.toArray⟩, .int .i64 12, .int .i64 524288] W fun e w' => e = .returned (.tuple #[.string ⟨s.toArray⟩, .bool ok]) ∧ Below W.heap.size W w') := Lib.hid fun W => by
   have := rwhole_any l 12 524288 W hl (by decide) (by decide)
   rw [hs] at this
   exact this
  have HOF : Hid (∀ W, Calls Tryz.prog 151 #[.string ⟨l8.toArray⟩] W fun e w' => e = .returned (.int .u64 n) ∧ W = w') := Lib.hid fun W => by
   have := rvalue_any l8 W (by omega)
   rw [hn] at this
   exact this
  have hcount : Wal.counts l = if ok = false ∨ 4611686018427387904 < n then (0, [], 0) else (n, s, 20 + s.length) := by
   unfold Wal.counts
   rw [if_neg (by simp [hmag]; omega), hl8, hn, hs]
  have h3 : ok = false ∨ (ok = true ∧ 4611686018427387904 < n) ∨ (ok = true ∧ ¬ 4611686018427387904 < n) := by cases ok <;> simp <;> omega
  have HW0 : (ok = false ∨ 4611686018427387904 < n) → Hid (Wal.counts l = (0, [], 0)) := fun h => Lib.hid (by rw [hcount, if_pos h])
  have HW1 : ok = true → ¬ 4611686018427387904 < n → Hid (Wal.counts l = (n, s, 20 + s.length)) := fun h h' => Lib.hid (by rw [hcount, if_neg (by simp [h, h'])])
  clear hb hmag hl8 hl8L hn hs hcount
  rcases h3 with rfl | ⟨rfl, h4⟩ | ⟨rfl, h4⟩
  ·have HW := HW0 (.inl rfl)
   clear HW0 HW1
   go_enter Tryz.func102, Tryz.ntmps102
   go_wp2_with fail
   refine (HOF.out w).mono ?_
   rintro e w1 ⟨rfl, rfl⟩
   go_wp2_with fail
   refine (HWH.out w).mono ?_
   rintro e w1 ⟨rfl, b1⟩
   have B1 := Lib.hid b1
   clear b1
   go_wp2_with fail
   go_ret3
   exact ⟨by rw [HW.out]; rfl, B1.out⟩
  ·have HW := HW0 (.inr h4)
   clear HW0 HW1
   go_enter Tryz.func102, Tryz.ntmps102
   go_wp2_with fail
   refine (HOF.out w).mono ?_
   rintro e w1 ⟨rfl, rfl⟩
   go_wp2_with fail
   refine (HWH.out w).mono ?_
   rintro e w1 ⟨rfl, b1⟩
   have B1 := Lib.hid b1
   clear b1
   go_wp2_with fail
   go_ret3
   exact ⟨by rw [HW.out]; rfl, B1.out⟩
  ·have HW := HW1 rfl h4
   clear HW0 HW1
   go_enter Tryz.func102, Tryz.ntmps102
   go_wp2_with fail
   refine (HOF.out w).mono ?_
   rintro e w1 ⟨rfl, rfl⟩
   go_wp2_with fail
   refine (HWH.out w).mono ?_
   rintro e w1 ⟨rfl, b1⟩
   have B1 := Lib.hid b1
   clear b1
   go_wp2_with fail
   go_ret3
   exact ⟨by rw [HW.out]; simp, B1.out⟩
end Go.Proofs.YtpjpknndfhablaaGreat
namespace Go.Proofs.YtpjpknndfhablaaGreat
open Go.RowKit
def rlogBlock (y : Nat) (l : Wal.LS) : Obj :=
 .cells #[.pointer (some ⟨y, 0, none⟩), .int .i64 (DS.fi l.f), .int .u64 l.g, .int .i64 l.n, .bool l.dead] 155 (0, 0)
/-- A log of the document lies in block x, over the disk in block y. -/
def RlogAt (w : World) (x y : Nat) (l : Wal.LS) : Prop := w.heap[x]? = some (rlogBlock y l)
theorem RlogAt.cells {w : World} {x y : Nat} {l : Wal.LS} (h : RlogAt w x y l) : w.cell? ⟨x, 0, none⟩ = some (.pointer (some ⟨y, 0, none⟩)) ∧ w.cell? ⟨x, 1, none⟩ = some (.int .i64 (DS.fi l.f)) ∧ w.cell? ⟨x, 2, none⟩ = some (.int .u64 l.g) ∧ w.cell? ⟨x, 3, none⟩ = some (.int .i64 l.n) ∧ w.cell? ⟨x, 4, none⟩ = some (.bool l.dead) ∧ (∀ i, w.frozen? ⟨x, i, none⟩ = false) ∧ x < w.heap.size :=
 ⟨cell_of h rfl, cell_of h rfl, cell_of h rfl, cell_of h rfl, cell_of h rfl, free_of h, heap_lt h⟩
theorem RlogAt.touch {S : Nat → Prop} {w w' : World} {x y : Nat} {l : Wal.LS} (h : RlogAt w x y l) (ht : Touch S w w') (hS : ¬ S x) : RlogAt w' x y l := (ht.block x (heap_lt h) hS).trans h
theorem RlogAt.below {w w' : World} {x y : Nat} {l : Wal.LS} (h : RlogAt w x y l) (hb : Below w.heap.size w w') : RlogAt w' x y l := stays h hb
theorem RlogAt.apart {w : World} {x y : Nat} {l : Wal.LS} (h : RlogAt w x y l) {y' : Nat} {d : DS} {ub : Option Nat} (hd : RefAt w y' d ub) : ¬ own2 y' ub x := by
 obtain ⟨_, us, hr, hrb⟩ := hd
 rintro (rfl | ho)
 ·have := hr.blk; rw [h] at this; simp [refBlock, rlogBlock] at this
 ·rw [← hrb] at ho
  rcases hr.own.2 with ⟨hv, _⟩ | ⟨g, cap, cur, hv, _, hg, _⟩
  ·rw [hv] at ho; cases ho
  ·rw [hv] at ho
   have e1 : g = x := Option.some.inj ho
   subst e1
   rw [h] at hg; simp [rlogBlock] at hg
theorem RlogAt.setDead {w : World} {x y : Nat} {l : Wal.LS} (h : RlogAt w x y l) : RlogAt (w.setCell ⟨x, 4, none⟩ (.bool true)) x y { l with dead := true } := by
 have := heap_set (i := 4) (.bool true) h
 simpa [RlogAt, rlogBlock] using this
theorem RlogAt.setN {w : World} {x y : Nat} {l : Wal.LS} (h : RlogAt w x y l) (n : Nat) : RlogAt (w.setCell ⟨x, 3, none⟩ (.int .i64 n)) x y { l with n := n } := by
 have := heap_set (i := 3) (.int .i64 n) h
 simpa [RlogAt, rlogBlock] using this
theorem RefAt.setLog {w : World} {y : Nat} {d : DS} {ub : Option Nat} (h : RefAt w y d ub) {x : Nat} {l : Wal.LS} (hl : RlogAt w x y l) (i : Nat) (v : Value) : RefAt (w.setCell ⟨x, i, none⟩ v) y d ub :=
 h.touch ((Touch.refl (· = x) w).setCell _ (fun _ => rfl)) (fun _ hk e => hl.apart h (e ▸ hk))
def ownR (y x : Nat) : Nat → Prop := fun k => k = y ∨ k = x
/-- What a piece of work on a log of the document leaves. -/
structure RWorked (x y : Nat) (l' : Wal.LS) (d' : DS) (ub : Option Nat) (w w' : World) : Prop where
 log : RlogAt w' x y l'
 disk : ∃ ub', RefAt w' y d' ub' ∧ Newer w ub ub'
 touch : Touch (ownR y x) w w'
theorem RWorked.stay {x y : Nat} {l : Wal.LS} {d : DS} {ub : Option Nat} {w w' : World} (hl : RlogAt w x y l) (h : RefAt w y d ub) (hb : Below w.heap.size w w') : RWorked x y l d ub w w' :=
 ⟨hl.below hb, ⟨ub, h.below hb, Newer.refl _ _⟩, Touch.of_below hb⟩
theorem RWorked.disked {x y : Nat} {l : Wal.LS} {d E : DS} {ub ub' : Option Nat} {w w1 w' : World} (hl : RlogAt w1 x y l) (h0 : RefAt w1 y d ub) (hb : Below w.heap.size w w1) (hd : RefAt w' y E ub') (hn : Newer w1 ub ub') (ht : Touch (· = y) w1 w') : RWorked x y l E ub w w' :=
 ⟨hl.touch ht (fun e => hl.apart h0 (.inl e)), ⟨ub', hd, hn.later hb.size⟩, Touch.trans (Touch.of_below hb) ht (fun _ _ h => .inl h)⟩
theorem RWorked.died {x y : Nat} {l : Wal.LS} {d : DS} {ub : Option Nat} {w w' : World} (h : RWorked x y l d ub w w') : RWorked x y { l with dead := true } d ub w (w'.setCell ⟨x, 4, none⟩ (.bool true)) := by
 obtain ⟨ub', h1, h2⟩ := h.disk
 exact ⟨h.log.setDead, ⟨ub', h1.setLog h.log 4 _, h2⟩, h.touch.setCell _ (fun _ => .inr rfl)⟩
theorem RWorked.counted {x y : Nat} {l : Wal.LS} {d : DS} {ub : Option Nat} {w w' : World} (h : RWorked x y l d ub w w') (n : Nat) : RWorked x y { l with n := n } d ub w (w'.setCell ⟨x, 3, none⟩ (.int .i64 n)) := by
 obtain ⟨ub', h1, h2⟩ := h.disk
 exact ⟨h.log.setN n, ⟨ub', h1.setLog h.log 3 _, h2⟩, h.touch.setCell _ (fun _ => .inr rfl)⟩
theorem RWorked.drew {x y : Nat} {l : Wal.LS} {d : DS} {ub : Option Nat} {w w' : World} (h : RWorked x y l d ub w w') : RWorked x y l d ub w w'.drew := by
 obtain ⟨ub', h1, h2⟩ := h.disk
 exact ⟨h.log.below ((Below.refl _ _).drew), ⟨ub', h1.below ((Below.refl _ _).drew), h2⟩, h.touch.drew⟩
theorem rsize_at (y : Nat) (w : World) (d : DS) (ub : Option Nat) (f : Bool) (h : RefAt w y d ub) : Calls Tryz.prog 89 #[.pointer (some ⟨y, 0, none⟩), .int .i64 (DS.fi f)] w fun e w' => e = .returned (.int .i64 (d.size f)) ∧ w = w' := by
 obtain ⟨ok, us, hr, _⟩ := h
 have := rsize_any y w d us (DS.fi f) hr ok
 have e : d.sizeI (DS.fi f) = (d.size f : Int) := by simp [DS.sizeI, DS.fileNo_of]
 rwa [e] at this
set_option maxHeartbeats 1000000 in
theorem rover_any (x y : Nat) (w : World) (l : Wal.LS) (hl : RlogAt w x y l) :
  Calls Tryz.prog 161 #[.pointer (some ⟨x, 0, none⟩)] w fun e w' => e = .returned (.int .i64 2) ∧ w' = w.setCell ⟨x, 4, none⟩ (.bool true) := by
 obtain ⟨_, _, _, _, c4, cf, _⟩ := hl.cells
 have cf4 := cf 4
 clear hl
 go_enter Tryz.func161, Tryz.ntmps161
 go_wp2
 go_ret
 exact ⟨rfl, rfl⟩
set_option maxHeartbeats 2000000 in
theorem rsyncL_any (x y : Nat) (w : World) (l : Wal.LS) (d : DS) (ub : Option Nat) (hl : RlogAt w x y l) (h : RefAt w y d ub) :
  Calls Tryz.prog 129 #[.pointer (some ⟨x, 0, none⟩)] w fun e w' => e = .returned (.int .i64 (Wal.sync l d).2.2) ∧ RWorked x y (Wal.sync l d).1 (Wal.sync l d).2.1 ub w w' := by
 obtain ⟨c0, _, _, _, c4, _, _⟩ := hl.cells
 have HL := Lib.hid hl
 have HD := Lib.hid h
 clear hl h
 cases hdd : l.dead with
 | true =>
  rw [hdd] at c4
  have HX : Hid (Wal.sync l d = (l, d, 2)) := Lib.hid (by unfold Wal.sync; rw [if_pos hdd])
  go_enter Tryz.func129, Tryz.ntmps129
  go_wp2_with fail
  go_ret
  rw [HX.out]
  exact ⟨rfl, RWorked.stay HL.out HD.out (Below.refl _ _)⟩
 | false =>
  rw [hdd] at c4
  obtain ⟨q, hq⟩ : ∃ q, d.sync.2 = q := ⟨_, rfl⟩
  have HQ := Lib.hid hq
  have HDD := Lib.hid hdd
  clear hq hdd
  go_enter Tryz.func129, Tryz.ntmps129
  go_wp2_with fail
  refine (rsync_any y _ d ub HD.out).mono ?_
  rw [HQ.out]
  rintro e w1 ⟨rfl, ub', hd1, hn1, ht1⟩
  have hw := RWorked.disked HL.out HD.out (Below.refl _ _) hd1 hn1 ht1
  have HW := Lib.hid hw
  clear hd1 hn1 ht1 hw
  by_cases hq0 : q = 0
  ·subst hq0
   have HX : Hid (Wal.sync l d = (l, d.sync.1, 0)) := Lib.hid (by unfold Wal.sync; rw [if_neg (by simp [HDD.out]), if_neg (by simp [HQ.out])])
   go_wp2_with fail
   go_ret
   rw [HX.out]
   exact ⟨rfl, HW.out⟩
  ·have HX : Hid (Wal.sync l d = ({ l with dead := true }, d.sync.1, 2)) := Lib.hid (by unfold Wal.sync; rw [if_neg (by simp [HDD.out]), if_pos (by rw [HQ.out]; exact hq0)])
   go_wp2_with fail
   refine (rover_any x y _ l HW.out.log).mono ?_
   rintro e w2 ⟨rfl, rfl⟩
   go_wp2_with fail
   go_ret
   rw [HX.out]
   exact ⟨rfl, HW.out.died⟩
set_option maxHeartbeats 2000000 in
set_option maxRecDepth 100000 in
theorem rroomL_any (x y : Nat) (w : World) (l : Wal.LS) (d : DS) (ub : Option Nat) (hl : RlogAt w x y l) (h : RefAt w y d ub) :
  Calls Tryz.prog 164 #[.pointer (some ⟨x, 0, none⟩)] w fun e w' => e = .returned (.int .i64 (Wal.room l d)) ∧ Below w.heap.size w w' := by
 obtain ⟨c0, c1, _⟩ := hl.cells
 have hz := h.1.base_len' l.f
 obtain ⟨z, hzz⟩ : ∃ z, d.size l.f = z := ⟨_, rfl⟩
 rw [hzz] at hz
 have HZ := Lib.hid hzz
 have HD := Lib.hid h
 have HB : Hid (∀ w' : World, Below w.heap.size w w' → (Below w.heap.size w w' ∧ w'.cell? ⟨x, 0, none⟩ = some (.pointer (some ⟨y, 0, none⟩)) ∧ w'.cell? ⟨x, 1, none⟩ = some (.int .i64 (DS.fi l.f)))) := fun w' hb => ⟨hb, cell_later hb c0, cell_later hb c1⟩
 have hw1 : IntKind.i64.wrap (1048576 - (z : Int)) = 1048576 - (z : Int) := IntWalk.i64_in _ (by omega)
 have hw2 : IntKind.i64.wrap (1048576 - (z : Int) - 8) = 1048576 - (z : Int) - 8 := IntWalk.i64_in _ (by omega)
 have hcase : (¬ (1048576 - (z : Int) - 8 < 65536) ∧ ¬ (1048576 - (z : Int) - 8 < 0)) ∨ (1048576 - (z : Int) - 8 < 65536 ∧ ¬ (1048576 - (z : Int) - 8 < 0)) ∨ (1048576 - (z : Int) - 8 < 0) := by omega
 clear hl h hzz
 rcases hcase with ⟨k1, k2⟩ | ⟨k1, k2⟩ | k2
 all_goals go_enter Tryz.func164, Tryz.ntmps164
 all_goals go_wp2
 all_goals go_region_held3 (fun w' => Below w.heap.size w w' ∧ w'.cell? ⟨x, 0, none⟩ = some (.pointer (some ⟨y, 0, none⟩)) ∧ w'.cell? ⟨x, 1, none⟩ = some (.int .i64 (DS.fi l.f)))
  (first | assumption | exact HB.out _ (Below.refl _ _).drew | exact HB.out _ (bthen (by assumption : Below w.heap.size w _ ∧ _).1 (by assumption)))
  (first | (go_at_call 89; refine (rsize_at y _ d ub l.f (HD.out.below (by assumption : Below w.heap.size w _ ∧ _).1)).mono ?_; rw [HZ.out]; rintro e w' ⟨rfl, rfl⟩))
 all_goals rename_i hheld
 all_goals go_wp2
 all_goals go_ret
 all_goals exact ⟨ret_int (by unfold Wal.room; rw [HZ.out]; omega), hheld.1⟩
end Go.Proofs.YtpjpknndfhablaaGreat
namespace Go.Proofs.YtpjpknndfhablaaGreat
open Go.RowKit
set_option maxHeartbeats 4000000 in
set_option maxRecDepth 100000 in
theorem rappendL_any (x y : Nat) (w : World) (l : Wal.LS) (d : DS) (ub : Option Nat) (s : List UInt8) (hl : RlogAt w x y l) (h : RefAt w y d ub) (hs : s.length ≤ 140737488355328) (hln : l.n ≤ 4611686018427387904) :
  Calls Tryz.prog 165 #[.pointer (some ⟨x, 0, none⟩), .string ⟨s.toArray⟩] w fun e w' => e = .returned (.int .i64 (Wal.append l d s).2.2) ∧ RWorked x y (Wal.append l d s).1 (Wal.append l d s).2.1 ub w w' := by
 obtain ⟨c0, c1, _, _, c4, _, _⟩ := hl.cells
 have HL := Lib.hid hl
 have HD := Lib.hid h
 have hz := h.1.base_len' l.f
 obtain ⟨z, hzz⟩ : ∃ z, d.size l.f = z := ⟨_, rfl⟩
 rw [hzz] at hz
 have HZ := Lib.hid hzz
 clear hl h hzz
 cases hdd : l.dead with
 | true =>
  rw [hdd] at c4
  have HX : Hid (Wal.append l d s = (l, d, 2)) := Lib.hid (by unfold Wal.append; rw [if_pos hdd])
  go_enter Tryz.func165, Tryz.ntmps165
  go_wp2_with fail
  go_ret
  rw [HX.out]
  exact ⟨rfl, RWorked.stay HL.out HD.out (Below.refl _ _)⟩
 | false =>
  rw [hdd] at c4
  have HDD := Lib.hid hdd
  clear hdd
  by_cases hlong : 65536 < s.length
  ·have HX : Hid (Wal.append l d s = (l, d, 101)) := Lib.hid (by unfold Wal.append; rw [if_neg (by simp [HDD.out]), if_pos hlong])
   go_enter Tryz.func165, Tryz.ntmps165
   go_wp2_with fail
   go_ret
   rw [HX.out]
   exact ⟨rfl, RWorked.stay HL.out HD.out (Below.refl _ _)⟩
  ·have HB : Hid (∀ w' : World, Below w.heap.size w w' → (Below w.heap.size w w' ∧ w'.cell? ⟨x, 0, none⟩ = some (.pointer (some ⟨y, 0, none⟩)) ∧ w'.cell? ⟨x, 1, none⟩ = some (.int .i64 (DS.fi l.f)))) := fun w' hb => ⟨hb, cell_later hb c0, cell_later hb c1⟩
   have hw1 : IntKind.i64.wrap ((z : Int) + 8) = (z : Int) + 8 := IntWalk.i64_in _ (by omega)
   have hw2 : IntKind.i64.wrap ((z : Int) + 8 + s.length) = (z : Int) + 8 + s.length := IntWalk.i64_in _ (by omega)
   go_enter Tryz.func165, Tryz.ntmps165
   go_wp2_with fail
   go_region_held3 (fun w' => Below w.heap.size w w' ∧ w'.cell? ⟨x, 0, none⟩ = some (.pointer (some ⟨y, 0, none⟩)) ∧ w'.cell? ⟨x, 1, none⟩ = some (.int .i64 (DS.fi l.f)))
    (first | assumption | exact HB.out _ (Below.refl _ _).drew | exact HB.out _ (bthen (by assumption : Below w.heap.size w _ ∧ _).1 (by assumption)))
    (first | (go_at_call 89; refine (rsize_at y _ d ub l.f (HD.out.below (by assumption : Below w.heap.size w _ ∧ _).1)).mono ?_; rw [HZ.out]; rintro e w' ⟨rfl, rfl⟩))
   rename_i hheld
   generalize w.drew = w1 at hheld ⊢
   try rw [hw1]
   try rw [hw2]
   have B1 := Lib.hid hheld.1
   have hS0 := hheld.2
   clear hheld c0 c1 c4 hw1 hw2
   by_cases hfull : 1048576 < z + 8 + s.length
   ·have HX : Hid (Wal.append l d s = (l, d, 102)) := Lib.hid (by unfold Wal.append; rw [if_neg (by simp [HDD.out]), if_neg hlong, HZ.out, if_pos hfull])
    go_wp2_with fail
    go_ret
    rw [HX.out]
    exact ⟨rfl, RWorked.stay HL.out HD.out B1.out⟩
   ·obtain ⟨B, hB⟩ : ∃ B, Wal.frame s = B := ⟨_, rfl⟩
    have hBl : B.length = 8 + s.length := by rw [← hB]; exact Wal.frame_length _
    have HBB := Lib.hid hB
    obtain ⟨n, hn⟩ : ∃ n, (d.append (DS.fi l.f) B).2 = n := ⟨_, rfl⟩
    have HN := Lib.hid hn
    clear hn hB
    have HL1 := Lib.hid (HL.out.below B1.out)
    have HD1 := Lib.hid (HD.out.below B1.out)
    obtain ⟨e0, e1⟩ := hS0
    go_wp2_with fail
    have hS1 : w1.drew.cell? ⟨x, 0, none⟩ = some (.pointer (some ⟨y, 0, none⟩)) ∧ w1.drew.cell? ⟨x, 1, none⟩ = some (.int .i64 (DS.fi l.f)) := ⟨e0, e1⟩
    refine wp_region_heldL (S := fun w' => w'.cell? ⟨x, 0, none⟩ = some (.pointer (some ⟨y, 0, none⟩)) ∧ w'.cell? ⟨x, 1, none⟩ = some (.int .i64 (DS.fi l.f))) (by kernel_rfl) ?_
    refine planned [0, 1, 2, 3, 4, 5, 6, 7, 8] ?_
    iterate 9 (refine planned_take (v := ?_) rfl (by kernel_rfl) (by kernel_rfl) (by kernel_rfl) (fun _ _ _ h => h) ?_ (by assumption) ?_; rotate_left; (focus (first | (refine Or.inr ⟨by rfl, ?_⟩; with_reducible rfl) | (refine Or.inl ⟨by rfl, ?_⟩; (intro w hSw; (try dsimp only at hSw); go_simp); try with_reducible rfl))); try simp only [Act.put, List.setIfInBounds_toArray, List.set_cons_zero, List.set_cons_succ])
    refine planned_end ?_
    refine wpAnyH_oneL (i := 9) rfl (by kernel_rfl) ?_
    intro K hK
    rw [if_pos (by rfl)]
    go_simp
    go_at_call 92
    refine (rframe_any s _ (by omega)).mono ?_
    rw [HBB.out]
    rintro e w2 ⟨rfl, b2⟩
    have B2 := Lib.hid (bthen ((Below.refl _ w1).drew) b2)
    have hS2 : w2.cell? ⟨x, 0, none⟩ = some (.pointer (some ⟨y, 0, none⟩)) ∧ w2.cell? ⟨x, 1, none⟩ = some (.int .i64 (DS.fi l.f)) := ⟨cell_later b2 hS1.1, cell_later b2 hS1.2⟩
    clear b2
    refine hK _ _ hS2 ?_
    clear hK K
    try simp only [Act.put, List.setIfInBounds_toArray, List.set_cons_zero, List.set_cons_succ]
    refine wpAnyH_oneL (i := 10) rfl (by kernel_rfl) ?_
    intro K hK
    rw [if_pos (by rfl)]
    go_simp
    go_at_call 90
    refine (rappend_any y _ d ub (DS.fi l.f) B (HD1.out.below B2.out) (by omega)).mono ?_
    rw [HN.out]
    rintro e w3 ⟨rfl, ub', hd3, hn3, ht3⟩
    have hne : ¬ x = y := fun e => (HL1.out.below B2.out).apart (HD1.out.below B2.out) (.inl e)
    have hS3 : w3.cell? ⟨x, 0, none⟩ = some (.pointer (some ⟨y, 0, none⟩)) ∧ w3.cell? ⟨x, 1, none⟩ = some (.int .i64 (DS.fi l.f)) := ⟨cell_touch hS2.1 ht3 hne, cell_touch hS2.2 ht3 hne⟩
    have HW := Lib.hid (RWorked.disked (w := w) (HL1.out.below B2.out) (HD1.out.below B2.out) (bthen B1.out B2.out) hd3 hn3 ht3)
    clear hd3 hn3 ht3
    refine hK _ _ hS3 ?_
    clear hK K
    try simp only [Act.put, List.setIfInBounds_toArray, List.set_cons_zero, List.set_cons_succ]
    by_cases hn0 : n = 0
    ·subst hn0
     have HX : Hid (Wal.append l d s = ({ l with n := l.n + 1 }, (d.append (DS.fi l.f) B).1, 0)) := Lib.hid (by unfold Wal.append; rw [if_neg (by simp [HDD.out]), if_neg hlong, HZ.out, if_neg hfull, HBB.out, HN.out]; simp)
     refine wpAnyH_takeL (i := 11) (v := ?_) rfl (by kernel_rfl) (by kernel_rfl) (by kernel_rfl) (fun _ _ _ h => h) ?_ (by assumption) ?_; rotate_left; focus (first | (refine Or.inr ⟨by rfl, ?_⟩; with_reducible rfl) | (refine Or.inl ⟨by rfl, ?_⟩; (intro w hSw; (try dsimp only at hSw); go_simp); try with_reducible rfl))
     try simp only [Act.put, List.setIfInBounds_toArray, List.set_cons_zero, List.set_cons_succ]
     refine wpAnyH_done (by kernel_rfl) ?_ _
     obtain ⟨_, _, _, e3, _, ef, _⟩ := HW.out.log.cells
     have f3 := ef 3
     clear hS3 hS2 hS1 e0 e1 ef
     go_wp2_with fail
     go_ret
     rw [HX.out]
     exact ⟨rfl, HW.out.counted (l.n + 1)⟩
    ·have HX : Hid (Wal.append l d s = ({ l with dead := true }, (d.append (DS.fi l.f) B).1, 2)) := Lib.hid (by unfold Wal.append; rw [if_neg (by simp [HDD.out]), if_neg hlong, HZ.out, if_neg hfull, HBB.out, if_pos (by rw [HN.out]; exact hn0)])
     refine wpAnyH_takeL (i := 11) (v := ?_) rfl (by kernel_rfl) (by kernel_rfl) (by kernel_rfl) (fun _ _ _ h => h) ?_ (by assumption) ?_; rotate_left; focus (first | (refine Or.inr ⟨by rfl, ?_⟩; with_reducible rfl) | (refine Or.inl ⟨by rfl, ?_⟩; (intro w hSw; (try dsimp only at hSw); go_simp); try with_reducible rfl))
     try simp only [Act.put, List.setIfInBounds_toArray, List.set_cons_zero, List.set_cons_succ]
     refine wpAnyH_done (by kernel_rfl) ?_ _
     clear hS3 hS2 hS1 e0 e1
     go_wp2_with fail
     refine (rover_any x y _ l HW.out.log).mono ?_
     rintro e w4 ⟨rfl, rfl⟩
     go_wp2_with fail
     go_ret
     rw [HX.out]
     exact ⟨rfl, HW.out.died⟩
end Go.Proofs.YtpjpknndfhablaaGreat
