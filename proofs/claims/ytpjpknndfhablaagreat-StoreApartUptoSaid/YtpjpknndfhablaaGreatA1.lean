/- Whatever three rows of changes, of bulk at most 1048576 together: StoreApart answers true, and each argument reads afterwards as it read before. -/
import Derived.BigQuiet
import Derived.JoinedCond
import Derived.Deep.CondSized
import Derived.Test.YtpjpknndfhablaaGreatK17
import Derived.Test.YtpjpknndfhablaaGreatK18
import Derived.Test.YtpjpknndfhablaaGreatK19
import Derived.Test.YtpjpknndfhablaaGreatK20
import Derived.Test.YtpjpknndfhablaaGreatK21
import Derived.Test.YtpjpknndfhablaaGreatK22
namespace Go.Proofs.YtpjpknndfhablaaGreat
open Go.RowKit
/-- A transaction, with its blocks. -/
structure TRow where
  y : Nat
  pm : Option Nat
  wm : Nat
  t : TS
/-- Of two transactions neither turns what the other reads. -/
def TRow.off (r r' : TRow) : Prop := r.y ≠ r'.y ∧ (∀ b, r.pm = some b → r'.pm ≠ some b ∧ r'.wm ≠ b)
/-- The blocks of a store, its disk, its log, its transactions. -/
def Foot11 (x lg c mb : Nat) (rb : Option Nat) (rows : List TRow) : Nat → Prop := fun k => own3 c rb lg k ∨ k = x ∨ k = mb ∨ ∃ r ∈ rows, k = r.y ∨ r.pm = some k ∨ k = r.wm
structure Scn (w : World) (x lg c mb : Nat) (rb : Option Nat) (s : SS) (d : DS) (m : Nat) (rows : List TRow) : Prop where
  store : StoAt w x lg c mb s
  disk : DiskAt w c d m rb
  txs : ∀ (i : Nat) r, rows[i]? = some r → TxAt w x r.y r.pm r.wm r.t ∧ r.pm ≠ some mb
  apart : ∀ (i j : Nat) r r', rows[i]? = some r → rows[j]? = some r' → i ≠ j → r.off r'
/-- What a call leaves of it: it has turned nothing else, and what belongs to it now belonged to it or is new. -/
def STurn (w w' : World) (F F' : Nat → Prop) : Prop := Touch F w w' ∧ ∀ k, F' k → F k ∨ w.heap.size ≤ k
section
variable {w : World} {x lg c mb : Nat} {rb : Option Nat} {s : SS} {d : DS} {m : Nat} {rows : List TRow} (h : Scn w x lg c mb rb s d m rows)
theorem Scn.below {w' : World} (h : Scn w x lg c mb rb s d m rows) (hb : Below w.heap.size w w') : Scn w' x lg c mb rb s d m rows :=
  ⟨h.store.below hb, h.disk.below hb, fun i r hi => ⟨(h.txs i r hi).1.below hb, (h.txs i r hi).2⟩, h.apart⟩
theorem Scn.lt (h : Scn w x lg c mb rb s d m rows) {k : Nat} (hk : ∃ r ∈ rows, k = r.y ∨ r.pm = some k ∨ k = r.wm) : k < w.heap.size := by
  obtain ⟨r, hr, e⟩ := hk
  obtain ⟨i, hi⟩ := List.mem_iff_getElem?.1 hr
  have ht := (h.txs i r hi).1
  rcases e with rfl | e | rfl
  · exact heap_lt ht.blk
  · exact ht.now.lt k e
  · exact ht.was.lt
/-- Behind a piece of work on the store itself. -/
theorem Scn.worked (h : Scn w x lg c mb rb s d m rows) {s' : SS} {d' : DS} {m' : Nat} {w' : World} (hw : SWorked x lg c mb s' d d' m' rb w w') :
    ∃ mb' rb', Scn w' x lg c mb' rb' s' d' m' rows ∧ STurn w w' (Foot11 x lg c mb rb rows) (Foot11 x lg c mb' rb' rows) ∧ (d'.dead = true → d.dead = false → rb' = none) := by
  obtain ⟨⟨mb', a1, a2⟩, ⟨rb', b1, b2, b3⟩, c1⟩ := hw
  refine ⟨mb', rb', ⟨a1, b1, fun i r hi => ⟨(h.txs i r hi).1.worked h.store h.disk c1, fun e => ?_⟩, h.apart⟩, ⟨c1.mono (fun k _ e => e.imp id .inl), fun k hk => ?_⟩, b3⟩
  · rcases a2 with rfl | a2
    · exact (h.txs i r hi).2 e
    · have := (h.txs i r hi).1.now.lt mb' e
      omega
  · rcases hk with ((rfl | hk) | rfl) | rfl | rfl | hk
    · exact .inl (.inl (.inl (.inl rfl)))
    · rcases b2 k hk with e | e
      · exact .inl (.inl (.inl (.inr e)))
      · exact .inr e
    · exact .inl (.inl (.inr rfl))
    · exact .inl (.inr (.inl rfl))
    · rcases a2 with rfl | a2
      · exact .inl (.inr (.inr (.inl rfl)))
      · exact .inr a2
    · exact .inl (.inr (.inr (.inr hk)))
theorem set_row {rows : List TRow} {i j : Nat} {r r' : TRow} (h : (rows.set i r)[j]? = some r') : (i = j ∧ r' = r ∧ i < rows.length) ∨ (i ≠ j ∧ rows[j]? = some r') := by
  rw [List.getElem?_set] at h
  by_cases e : i = j
  · rw [if_pos e] at h
    split at h
    · exact .inl ⟨e, (Option.some.inj h).symm, by assumption⟩
    · cases h
  · rw [if_neg e] at h
    exact .inr ⟨e, h⟩
theorem mem_set_row {rows : List TRow} {i : Nat} {r q : TRow} (h : q ∈ rows.set i r) : q = r ∨ q ∈ rows := by
  rcases List.mem_or_eq_of_mem_set h with h | h
  · exact .inr h
  · exact .inl h
/-- A transaction has turned its own map. -/
theorem Scn.mine (h : Scn w x lg c mb rb s d m rows) {i : Nat} {r : TRow} (hi : rows[i]? = some r) {t' : TS} {w' : World} (ht : TxAt w' x r.y r.pm r.wm t') (hT : Touch (fun b => r.pm = some b) w w') :
    Scn w' x lg c mb rb s d m (rows.set i { r with t := t' }) ∧ STurn w w' (Foot11 x lg c mb rb rows) (Foot11 x lg c mb rb (rows.set i { r with t := t' })) := by
  have hr := h.txs i r hi
  have hmem := List.mem_of_getElem? hi
  have hfar : ∀ k, r.pm = some k → ¬ (own3 c rb lg k ∨ k = x) ∧ ∀ (a : Array Value) t f, w.heap[k]? ≠ some (.cells a t f) := fun k hk => by
    have h1 := hr.1.now
    rw [hk] at h1
    have h2 : MapAt w k r.t.now := h1
    refine ⟨h.store.farMap h.disk h2, fun a t f e => ?_⟩
    obtain ⟨es, cl, h4⟩ := h2.isMap
    rw [e] at h4
    cases h4
  refine ⟨⟨h.store.touch hT (fun e => (hfar x e).1 (.inr rfl)) (fun e => (hfar lg e).1 (.inl (.inr rfl))) hr.2, h.disk.touch hT (fun k hk e => (hfar k e).1 (.inl (.inl hk))), fun j r' hj => ?_, fun j k r1 r2 h1 h2 hne => ?_⟩, hT.mono (fun k _ e => .inr (.inr (.inr ⟨r, hmem, .inr (.inl e)⟩))), fun k hk => ?_⟩
  · rcases set_row hj with ⟨_, rfl, _⟩ | ⟨hij, hj⟩
    · exact ⟨ht, hr.2⟩
    · have hr' := h.txs j r' hj
      have ho := h.apart i j r r' hi hj hij
      exact ⟨hr'.1.touch hT (fun e => (hfar _ e).2 _ _ _ hr'.1.blk) (fun e => (ho.2 _ e).2 rfl) (fun b hb e => (ho.2 b e).1 hb), hr'.2⟩
  · rcases set_row h1 with ⟨e1, rfl, _⟩ | ⟨e1, h1⟩ <;> rcases set_row h2 with ⟨e2, rfl, _⟩ | ⟨e2, h2⟩
    · omega
    · exact h.apart i k r r2 hi h2 e2
    · exact h.apart j i r1 r h1 hi (fun e => e1 e.symm)
    · exact h.apart j k r1 r2 h1 h2 hne
  · rcases hk with hk | hk | hk | ⟨q, hq, hk⟩
    · exact .inl (.inl hk)
    · exact .inl (.inr (.inl hk))
    · exact .inl (.inr (.inr (.inl hk)))
    · rcases mem_set_row hq with rfl | hq
      · exact .inl (.inr (.inr (.inr ⟨r, hmem, hk⟩)))
      · exact .inl (.inr (.inr (.inr ⟨q, hq, hk⟩)))
include h
theorem sync_scn : Calls Tryz.prog 41 #[.pointer (some ⟨x, 0, none⟩)] w fun e w' => e = .returned (.int .i64 (s.sync d).2.2) ∧ ∃ mb' rb', Scn w' x lg c mb' rb' (s.sync d).1 (s.sync d).2.1 m rows ∧ STurn w w' (Foot11 x lg c mb rb rows) (Foot11 x lg c mb' rb' rows) ∧ ((s.sync d).2.1.dead = true → d.dead = false → rb' = none) :=
  (sync11_any x lg c mb w s d m rb h.store h.disk).mono fun _ _ ⟨he, hw⟩ => ⟨he, h.worked hw⟩
theorem check_scn (hm : m < 5000000000000) (hlg : s.l.g ≤ 4611686018427387904) : Calls Tryz.prog 60 #[.pointer (some ⟨x, 0, none⟩)] w fun e w' => e = .returned (.int .i64 (s.check d).2.2) ∧ ∃ mb' rb', Scn w' x lg c mb' rb' (s.check d).1 (s.check d).2.1 (m + 1) rows ∧ STurn w w' (Foot11 x lg c mb rb rows) (Foot11 x lg c mb' rb' rows) ∧ ((s.check d).2.1.dead = true → d.dead = false → rb' = none) :=
  (check11_any x lg c mb w s d m rb h.store h.disk hm hlg).mono fun _ _ ⟨he, hw⟩ => ⟨he, h.worked hw⟩
theorem begin_scn : Calls Tryz.prog 23 #[.pointer (some ⟨x, 0, none⟩)] w fun e w' => ∃ r : TRow, e = .returned (.pointer (some ⟨r.y, 0, none⟩)) ∧ r.t = s.begin_ ∧ Scn w' x lg c mb rb s d m (rows ++ [r]) ∧ STurn w w' (Foot11 x lg c mb rb rows) (Foot11 x lg c mb rb (rows ++ [r])) ∧ Below w.heap.size w w' := by
  refine (begin11_any x lg c mb w s h.store).mono ?_
  rintro e w' ⟨y, pm, wm, rfl, ht, hy, hp, hw, hb⟩
  have hml := h.store.map.lt
  refine ⟨⟨y, some pm, wm, s.begin_⟩, rfl, rfl, ⟨h.store.below hb, h.disk.below hb, fun i r hi => ?_, fun i j r r' hi hj hne => ?_⟩, ⟨Touch.of_below hb, fun k hk => ?_⟩, hb⟩
  · rw [List.getElem?_append] at hi
    split at hi
    · exact ⟨(h.txs i r hi).1.below hb, (h.txs i r hi).2⟩
    · have : i - rows.length = 0 := by
        have := (List.getElem?_eq_some_iff.1 hi).1
        simp at this; omega
      rw [this] at hi
      cases hi
      exact ⟨ht, fun e => by have := Option.some.inj e; omega⟩
  · rw [List.getElem?_append] at hi hj
    split at hi <;> split at hj
    · exact h.apart i j r r' hi hj hne
    · have : j - rows.length = 0 := by
        have := (List.getElem?_eq_some_iff.1 hj).1
        simp at this; omega
      rw [this] at hj
      cases hj
      have hl := fun k e => h.lt (k := k) ⟨r, List.mem_of_getElem? hi, e⟩
      refine ⟨fun e => ?_, fun b e => ⟨fun e' => ?_, fun e' => ?_⟩⟩
      · have := hl r.y (.inl rfl); simp only at e; omega
      · have := hl b (.inr (.inl e)); have := Option.some.inj e'; omega
      · have := hl b (.inr (.inl e)); simp only at e'; omega
    · have : i - rows.length = 0 := by
        have := (List.getElem?_eq_some_iff.1 hi).1
        simp at this; omega
      rw [this] at hi
      cases hi
      have hl := fun k e => h.lt (k := k) ⟨r', List.mem_of_getElem? hj, e⟩
      refine ⟨fun e => ?_, fun b e => ⟨fun e' => ?_, fun e' => ?_⟩⟩
      · have := hl r'.y (.inl rfl); simp only at e; omega
      · have := hl b (.inr (.inl e')); have := Option.some.inj e; omega
      · have := hl r'.wm (.inr (.inr rfl)); have := Option.some.inj e; omega
    · have h1 := (List.getElem?_eq_some_iff.1 hi).1
      have h2 := (List.getElem?_eq_some_iff.1 hj).1
      simp at h1 h2
      omega
  · rcases hk with hk | hk | hk | ⟨q, hq, hk⟩
    · exact .inl (.inl hk)
    · exact .inl (.inr (.inl hk))
    · exact .inl (.inr (.inr (.inl hk)))
    · rcases List.mem_append.1 hq with hq | hq
      · exact .inl (.inr (.inr (.inr ⟨q, hq, hk⟩)))
      · simp at hq
        subst hq
        rcases hk with rfl | hk | rfl
        · exact .inr hy
        · have := Option.some.inj hk; exact .inr (by omega)
        · exact .inr hw
end
section
variable {w : World} {x lg c mb : Nat} {rb : Option Nat} {s : SS} {d : DS} {m : Nat} {rows : List TRow} (h : Scn w x lg c mb rb s d m rows) {i : Nat} {r : TRow} (hi : rows[i]? = some r)
include h hi
theorem put_scn (k v : Sto.S) (hk : k.length ≤ maxLen) (hv : v.length ≤ maxLen) (hl : r.t.now.length < maxLen) : Calls Tryz.prog 24 #[.pointer (some ⟨r.y, 0, none⟩), .string ⟨k.toArray⟩, .string ⟨v.toArray⟩] w fun e w' => e = .returned (.int .i64 (r.t.put k v).2) ∧
    Scn w' x lg c mb rb s d m (rows.set i { r with t := (r.t.put k v).1 }) ∧ STurn w w' (Foot11 x lg c mb rb rows) (Foot11 x lg c mb rb (rows.set i { r with t := (r.t.put k v).1 })) :=
  (put11_any (h.txs i r hi).1 k v hk hv hl).mono fun _ _ ⟨he, ht, hT⟩ => ⟨he, h.mine hi ht hT⟩
theorem del_scn (k : Sto.S) (hk : k.length ≤ maxLen) : Calls Tryz.prog 25 #[.pointer (some ⟨r.y, 0, none⟩), .string ⟨k.toArray⟩] w fun e w' => e = .returned (.int .i64 (r.t.del k).2) ∧
    Scn w' x lg c mb rb s d m (rows.set i { r with t := (r.t.del k).1 }) ∧ STurn w w' (Foot11 x lg c mb rb rows) (Foot11 x lg c mb rb (rows.set i { r with t := (r.t.del k).1 })) :=
  (delete11_any (h.txs i r hi).1 k hk).mono fun _ _ ⟨he, ht, hT⟩ => ⟨he, h.mine hi ht hT⟩
/-- A transaction over. -/
def TRow.ended (r : TRow) : TRow := if r.t.over then r else { r with pm := none, t := r.t.ends }
theorem commit_scn (hm : m < 4999999999999) (hlg : s.l.g ≤ 4611686018427387904) (hln : s.l.n ≤ 4611686018427387904) (hl1 : r.t.now.length ≤ 4194304) (hl2 : r.t.was.length ≤ 4096) (hturn : s.turn ≤ 4611686018427387904) :
    Calls Tryz.prog 27 #[.pointer (some ⟨r.y, 0, none⟩)] w fun e w' => e = .returned (.int .i64 (s.commit r.t d).2.2) ∧ ∃ mb' rb', Scn w' x lg c mb' rb' (s.commit r.t d).1 (s.commit r.t d).2.1 (m + 2) (rows.set i r.ended) ∧
      STurn w w' (Foot11 x lg c mb rb rows) (Foot11 x lg c mb' rb' (rows.set i r.ended)) ∧ ((s.commit r.t d).2.1.dead = true → d.dead = false → rb' = none) := by
  have hr := h.txs i r hi
  have hmem := List.mem_of_getElem? hi
  refine (commit11_any x lg c mb r.y r.wm r.pm w s r.t d m rb h.store h.disk hr.1 hm hlg hln hl1 hl2 hturn).mono ?_
  rintro e w' ⟨rfl, ⟨mb', a1, a2⟩, ⟨rb', b1, b2, b3⟩, c1, t1⟩
  have he : r.ended.y = r.y ∧ r.ended.wm = r.wm ∧ r.ended.pm = (if r.t.over then r.pm else none) ∧ r.ended.t = (if r.t.over then r.t else r.t.ends) := by
    unfold TRow.ended
    cases r.t.over <;> exact ⟨rfl, rfl, rfl, rfl⟩
  have hpm : ∀ b, r.ended.pm = some b → r.pm = some b := fun b e => by
    rw [he.2.2.1] at e
    split at e
    · exact e
    · cases e
  have hmbs : ∀ (r' : TRow), r'.pm ≠ some mb → (∀ b, r'.pm = some b → b < w.heap.size) → r'.pm ≠ some mb' := fun r' h1 h2 e => by
    rcases a2 with rfl | a2
    · exact h1 e
    · have := h2 mb' e; omega
  refine ⟨rfl, mb', rb', ⟨a1, b1, fun j r' hj => ?_, fun j k r1 r2 h1 h2 hne => ?_⟩, ⟨c1.mono (fun k _ e => ?_), fun k hk => ?_⟩, b3⟩
  · rcases set_row hj with ⟨_, rfl, _⟩ | ⟨hij, hj⟩
    · refine ⟨?_, hmbs r.ended (fun e => hr.2 (hpm _ e)) (fun b e => hr.1.now.lt b (hpm b e))⟩
      rw [he.1, he.2.1, he.2.2.1, he.2.2.2]
      exact t1
    · have hr' := h.txs j r' hj
      have ho := h.apart i j r r' hi hj hij
      have hcell : ∀ k (l : Sto.Pairs), MapAt w k l → k ≠ r.y := fun k l hk e => by
        obtain ⟨es, cl, h4⟩ := hk.isMap
        rw [e, hr.1.blk] at h4
        cases h4
      refine ⟨hr'.1.touch c1 ?_ ?_ (fun b hb => ?_), hmbs r' hr'.2 (fun b e => hr'.1.now.lt b e)⟩
      · have hf := h.store.far h.disk hr'.1.blk (fun a t f e => by cases e; decide)
        rintro (e | e | e)
        · exact hf (.inl e)
        · exact hf (.inr e)
        · exact ho.1 e.symm
      · have hf := h.store.farMap h.disk hr'.1.was
        rintro (e | e | e)
        · exact hf (.inl e)
        · exact hf (.inr e)
        · exact hcell _ _ hr'.1.was e
      · have hn := hr'.1.now
        rw [hb] at hn
        have hf := h.store.farMap h.disk (l := r'.t.now) hn
        rintro (e | e | e)
        · exact hf (.inl e)
        · exact hf (.inr e)
        · exact hcell b r'.t.now hn e
  · have hoff1 : ∀ q, r.off q → r.ended.off q := fun q hq => ⟨by rw [he.1]; exact hq.1, fun b e => hq.2 b (hpm b e)⟩
    have hoff2 : ∀ q : TRow, q.off r → q.off r.ended := fun q hq => ⟨by rw [he.1]; exact hq.1, fun b e => ⟨fun e' => (hq.2 b e).1 (hpm b e'), by rw [he.2.1]; exact (hq.2 b e).2⟩⟩
    rcases set_row h1 with ⟨e1, rfl, _⟩ | ⟨e1, h1⟩ <;> rcases set_row h2 with ⟨e2, rfl, _⟩ | ⟨e2, h2⟩
    · omega
    · exact hoff1 _ (h.apart i k r r2 hi h2 e2)
    · exact hoff2 _ (h.apart j i r1 r h1 hi (fun e => e1 e.symm))
    · exact h.apart j k r1 r2 h1 h2 hne
  · rcases e with e | rfl | rfl
    · exact .inl e
    · exact .inr (.inl rfl)
    · exact .inr (.inr (.inr ⟨r, hmem, .inl rfl⟩))
  · rcases hk with ((rfl | hk) | rfl) | rfl | rfl | ⟨q, hq, hk⟩
    · exact .inl (.inl (.inl (.inl rfl)))
    · rcases b2 k hk with e | e
      · exact .inl (.inl (.inl (.inr e)))
      · exact .inr e
    · exact .inl (.inl (.inr rfl))
    · exact .inl (.inr (.inl rfl))
    · rcases a2 with rfl | a2
      · exact .inl (.inr (.inr (.inl rfl)))
      · exact .inr a2
    · rcases mem_set_row hq with rfl | hq
      · refine .inl (.inr (.inr (.inr ⟨r, hmem, ?_⟩)))
        rcases hk with e | e | e
        · exact .inl (e.trans he.1)
        · exact .inr (.inl (hpm k e))
        · exact .inr (.inr (e.trans he.2.1))
      · exact .inl (.inr (.inr (.inr ⟨q, hq, hk⟩)))
end
end Go.Proofs.YtpjpknndfhablaaGreat
namespace Go.Proofs.YtpjpknndfhablaaGreat
open Go.RowKit
/-- In w a store in block x over the disk in block c, with these transactions (their blocks, what they are); F: all that belongs to it. -/
def Sc (w : World) (F : Nat → Prop) (x c : Nat) (s : SS) (d : DS) (m : Nat) (ts : List (Nat × TS)) : Prop :=
  ∃ lg mb rb rows, F = Foot11 x lg c mb rb rows ∧ Scn w x lg c mb rb s d m rows ∧ rows.map (fun r => (r.y, r.t)) = ts
/-- A block that lies apart. -/
structure Kept (w : World) (F : Nat → Prop) (k : Nat) (o : Obj) : Prop where
  blk : w.heap[k]? = some o
  off : ¬ F k
theorem Kept.turn {w w' : World} {F F' : Nat → Prop} {k : Nat} {o : Obj} (h : Kept w F k o) (ht : STurn w w' F F') : Kept w' F' k o :=
  ⟨(ht.1.block k (heap_lt h.blk) h.off).trans h.blk, fun e => by rcases ht.2 k e with e | e; exact h.off e; have := heap_lt h.blk; omega⟩
theorem Kept.below {w w' : World} {F : Nat → Prop} {k : Nat} {o : Obj} (h : Kept w F k o) (hb : Below w.heap.size w w') : Kept w' F k o := ⟨stays h.blk hb, h.off⟩
/-- Pairs that lie apart. -/
structure KeptP (w : World) (F : Nat → Prop) (v : Value) (l : Sto.Pairs) : Prop where
  pairs : PairsAt w v l
  off : ∀ g, v.ownBlock = some g → ¬ F g ∧ g < w.heap.size
theorem PairsAt.blk {w : World} {v : Value} {l : Sto.Pairs} (h : PairsAt w v l) {g : Nat} (hg : v.ownBlock = some g) : g < w.heap.size := by
  rcases h.2 with ⟨rfl, _⟩ | ⟨g', cap, rfl, _, hlt, _⟩
  · cases hg
  · cases hg; exact hlt
theorem KeptP.turn {w w' : World} {F F' : Nat → Prop} {v : Value} {l : Sto.Pairs} (h : KeptP w F v l) (ht : STurn w w' F F') : KeptP w' F' v l :=
  ⟨h.pairs.touch ht.1 (fun k hk => (h.off k hk).1), fun g hg => ⟨fun e => by rcases ht.2 g e with e | e; exact (h.off g hg).1 e; have := (h.off g hg).2; omega, Nat.lt_of_lt_of_le (h.off g hg).2 ht.1.size⟩⟩
theorem KeptP.below {w w' : World} {F : Nat → Prop} {v : Value} {l : Sto.Pairs} (h : KeptP w F v l) (hb : Below w.heap.size w w') : KeptP w' F v l :=
  ⟨h.pairs.below hb, fun g hg => ⟨(h.off g hg).1, Nat.lt_of_lt_of_le (h.off g hg).2 hb.size⟩⟩
/-- All that belongs to it has been made since w0, and what lay in w0 lies as it lay. -/
structure Since (w0 w : World) (F : Nat → Prop) : Prop where
  old : Below w0.heap.size w0 w
  low : ∀ k, F k → w0.heap.size ≤ k
theorem Since.turn {w0 w w' : World} {F F' : Nat → Prop} (h : Since w0 w F) (ht : STurn w w' F F') : Since w0 w' F' :=
  ⟨h.old.trans (ht.1.below h.old.size fun k hk e => by have := h.low k e; omega), fun k e => by rcases ht.2 k e with e | e; exact h.low k e; exact Nat.le_trans h.old.size e⟩
theorem Since.below {w0 w w' : World} {F : Nat → Prop} (h : Since w0 w F) (hb : Below w.heap.size w w') : Since w0 w' F := ⟨h.old.trans (hb.mono h.old.size), h.low⟩
theorem STurn.refl (w : World) (F : Nat → Prop) : STurn w w F F := ⟨Touch.refl _ _, fun _ h => .inl h⟩
theorem STurn.below {w w' : World} {F : Nat → Prop} (hb : Below w.heap.size w w') : STurn w w' F F := ⟨Touch.of_below hb, fun _ h => .inl h⟩
theorem STurn.trans {w w1 w2 : World} {F F1 F2 : Nat → Prop} (h : STurn w w1 F F1) (h' : STurn w1 w2 F1 F2) : STurn w w2 F F2 :=
  ⟨h.1.trans h'.1 (fun k hk e => by rcases h.2 k e with e | e; exact e; omega), fun k e => by rcases h'.2 k e with e | e; exact h.2 k e; exact .inr (Nat.le_trans h.1.size e)⟩
section
variable {w : World} {F : Nat → Prop} {x c : Nat} {s : SS} {d : DS} {m : Nat} {ts : List (Nat × TS)}
theorem Sc.below {w' : World} (h : Sc w F x c s d m ts) (hb : Below w.heap.size w w') : Sc w' F x c s d m ts := by
  obtain ⟨lg, mb, rb, rows, h1, h2, h3⟩ := h
  exact ⟨lg, mb, rb, rows, h1, h2.below hb, h3⟩
theorem Sc.mono {n : Nat} (h : Sc w F x c s d m ts) (hmn : m ≤ n) : Sc w F x c s d n ts := by
  obtain ⟨lg, mb, rb, rows, h1, h2, h3⟩ := h
  exact ⟨lg, mb, rb, rows, h1, ⟨h2.store, h2.disk.mono hmn, h2.txs, h2.apart⟩, h3⟩
theorem Sc.good (h : Sc w F x c s d m ts) : d.Ok ∧ Sto.Good s.ps ∧ Sto.fits s.ps = true := by
  obtain ⟨lg, mb, rb, rows, _, h2, _⟩ := h
  exact ⟨h2.disk.1, h2.store.good, h2.store.fits⟩
theorem Sc.goodT (h : Sc w F x c s d m ts) {i y : Nat} {t : TS} (hi : ts[i]? = some (y, t)) : Sto.Good t.now ∧ Sto.Good t.was := by
  obtain ⟨lg, mb, rb, rows, _, h2, rfl⟩ := h
  rw [List.getElem?_map] at hi
  cases hr : rows[i]? with
  | none => rw [hr] at hi; cases hi
  | some r =>
    rw [hr] at hi
    cases hi
    exact ⟨(h2.txs i r hr).1.gnow, (h2.txs i r hr).1.gwas⟩
theorem map_set_row {rows : List TRow} {i : Nat} {r : TRow} : (rows.set i r).map (fun r => (r.y, r.t)) = (rows.map (fun r => (r.y, r.t))).set i (r.y, r.t) := by
  rw [List.map_set]
theorem sync_sc (h : Sc w F x c s d m ts) : Calls Tryz.prog 41 #[.pointer (some ⟨x, 0, none⟩)] w fun e w' => e = .returned (.int .i64 (s.sync d).2.2) ∧ ∃ F', Sc w' F' x c (s.sync d).1 (s.sync d).2.1 m ts ∧ STurn w w' F F' ∧ ((s.sync d).2.1.dead = true → d.dead = false → Sc w' F' x c (s.sync d).1 (s.sync d).2.1 0 ts) := by
  obtain ⟨lg, mb, rb, rows, rfl, h2, h3⟩ := h
  refine (sync_scn h2).mono ?_
  rintro e w' ⟨he, mb', rb', a1, a2, a3⟩
  exact ⟨he, _, ⟨lg, mb', rb', rows, rfl, a1, h3⟩, a2, fun e1 e2 => by obtain rfl := a3 e1 e2; exact ⟨lg, mb', none, rows, rfl, ⟨a1.store, a1.disk.fresh, a1.txs, a1.apart⟩, h3⟩⟩
theorem check_sc (h : Sc w F x c s d m ts) (hm : m < 5000000000000) (hlg : s.l.g ≤ 4611686018427387904) : Calls Tryz.prog 60 #[.pointer (some ⟨x, 0, none⟩)] w fun e w' => e = .returned (.int .i64 (s.check d).2.2) ∧ ∃ F', Sc w' F' x c (s.check d).1 (s.check d).2.1 (m + 1) ts ∧ STurn w w' F F' ∧ ((s.check d).2.1.dead = true → d.dead = false → Sc w' F' x c (s.check d).1 (s.check d).2.1 0 ts) := by
  obtain ⟨lg, mb, rb, rows, rfl, h2, h3⟩ := h
  refine (check_scn h2 hm hlg).mono ?_
  rintro e w' ⟨he, mb', rb', a1, a2, a3⟩
  exact ⟨he, _, ⟨lg, mb', rb', rows, rfl, a1, h3⟩, a2, fun e1 e2 => by obtain rfl := a3 e1 e2; exact ⟨lg, mb', none, rows, rfl, ⟨a1.store, a1.disk.fresh, a1.txs, a1.apart⟩, h3⟩⟩
theorem begin_sc (h : Sc w F x c s d m ts) : Calls Tryz.prog 23 #[.pointer (some ⟨x, 0, none⟩)] w fun e w' => ∃ y F', e = .returned (.pointer (some ⟨y, 0, none⟩)) ∧ Sc w' F' x c s d m (ts ++ [(y, s.begin_)]) ∧ STurn w w' F F' := by
  obtain ⟨lg, mb, rb, rows, rfl, h2, h3⟩ := h
  refine (begin_scn h2).mono ?_
  rintro e w' ⟨r, rfl, hrt, a1, a2, _⟩
  exact ⟨r.y, _, rfl, ⟨lg, mb, rb, rows ++ [r], rfl, a1, by rw [List.map_append, h3, List.map_singleton, hrt]⟩, a2⟩
theorem scan_sc (h : Sc w F x c s d m ts) (k : Sto.S) (most : Int) (hm1 : most ≤ 9223372036854775807) (hm2 : -9223372036854775808 ≤ most) : Calls Tryz.prog 20 #[.pointer (some ⟨x, 0, none⟩), .string ⟨k.toArray⟩, .int .i64 most] w fun e w' => ∃ v, e = .returned v ∧ PairsAt w' v (Sto.scan s.ps k most.toNat) ∧ (∀ g, v.ownBlock = some g → w.heap.size ≤ g) ∧ Below w.heap.size w w' := by
  obtain ⟨lg, mb, rb, rows, _, h2, _⟩ := h
  exact scan11_any h2.store k most hm1 hm2
theorem dead_sc (h : Sc w F x c s d m ts) : Calls Tryz.prog 29 #[.pointer (some ⟨x, 0, none⟩)] w fun e w' => e = .returned (.bool s.dead) ∧ w' = w := by
  obtain ⟨lg, mb, rb, rows, _, h2, _⟩ := h
  exact dead11_any h2.store
theorem Sc.lt (h : Sc w F x c s d m ts) : ∀ k, F k → k < w.heap.size := by
  obtain ⟨lg, mb, rb, rows, rfl, h2, _⟩ := h
  intro k hk
  rcases hk with hk | rfl | rfl | hk
  · obtain ⟨a, t, f, h1, _⟩ := h2.store.log.typed3 h2.disk k hk
    exact heap_lt h1
  · exact heap_lt h2.store.blk
  · exact h2.store.map.lt
  · exact h2.lt hk
theorem row_of (h : Sc w F x c s d m ts) {i y : Nat} {t : TS} (hi : ts[i]? = some (y, t)) : ∃ lg mb rb rows r, F = Foot11 x lg c mb rb rows ∧ Scn w x lg c mb rb s d m rows ∧ rows.map (fun r => (r.y, r.t)) = ts ∧ rows[i]? = some r ∧ r.y = y ∧ r.t = t := by
  obtain ⟨lg, mb, rb, rows, h1, h2, h3⟩ := h
  rw [← h3, List.getElem?_map] at hi
  cases hr : rows[i]? with
  | none => rw [hr] at hi; cases hi
  | some r =>
    rw [hr] at hi
    cases hi
    exact ⟨lg, mb, rb, rows, r, h1, h2, h3, hr, rfl, rfl⟩
theorem put_sc (h : Sc w F x c s d m ts) {i y : Nat} {t : TS} (hi : ts[i]? = some (y, t)) (k v : Sto.S) (hk : k.length ≤ maxLen) (hv : v.length ≤ maxLen) (hl : t.now.length < maxLen) : Calls Tryz.prog 24 #[.pointer (some ⟨y, 0, none⟩), .string ⟨k.toArray⟩, .string ⟨v.toArray⟩] w fun e w' => e = .returned (.int .i64 (t.put k v).2) ∧ ∃ F', Sc w' F' x c s d m (ts.set i (y, (t.put k v).1)) ∧ STurn w w' F F' := by
  obtain ⟨lg, mb, rb, rows, r, rfl, h2, h3, hr, rfl, rfl⟩ := row_of h hi
  refine (put_scn h2 hr k v hk hv hl).mono ?_
  rintro e w' ⟨he, a1, a2⟩
  exact ⟨he, _, ⟨lg, mb, rb, _, rfl, a1, by rw [map_set_row, h3]⟩, a2⟩
theorem del_sc (h : Sc w F x c s d m ts) {i y : Nat} {t : TS} (hi : ts[i]? = some (y, t)) (k : Sto.S) (hk : k.length ≤ maxLen) : Calls Tryz.prog 25 #[.pointer (some ⟨y, 0, none⟩), .string ⟨k.toArray⟩] w fun e w' => e = .returned (.int .i64 (t.del k).2) ∧ ∃ F', Sc w' F' x c s d m (ts.set i (y, (t.del k).1)) ∧ STurn w w' F F' := by
  obtain ⟨lg, mb, rb, rows, r, rfl, h2, h3, hr, rfl, rfl⟩ := row_of h hi
  refine (del_scn h2 hr k hk).mono ?_
  rintro e w' ⟨he, a1, a2⟩
  exact ⟨he, _, ⟨lg, mb, rb, _, rfl, a1, by rw [map_set_row, h3]⟩, a2⟩
theorem txscan_sc (h : Sc w F x c s d m ts) {i y : Nat} {t : TS} (hi : ts[i]? = some (y, t)) (k : Sto.S) (most : Int) (hlen : t.now.length ≤ 4398046511104) (hm1 : most ≤ 9223372036854775807) (hm2 : -9223372036854775808 ≤ most) : Calls Tryz.prog 26 #[.pointer (some ⟨y, 0, none⟩), .string ⟨k.toArray⟩, .int .i64 most] w fun e w' => ∃ v, e = .returned v ∧ PairsAt w' v (Sto.scan t.now k most.toNat) ∧ (∀ g, v.ownBlock = some g → w.heap.size ≤ g) ∧ Below w.heap.size w w' := by
  obtain ⟨lg, mb, rb, rows, r, rfl, h2, h3, hr, rfl, rfl⟩ := row_of h hi
  exact txscan11_any (h2.txs i r hr).1 k most hlen hm1 hm2
theorem txget_sc (h : Sc w F x c s d m ts) {i y : Nat} {t : TS} (hi : ts[i]? = some (y, t)) (k : Sto.S) (hk : k.length ≤ maxLen) : Calls Tryz.prog 39 #[.pointer (some ⟨y, 0, none⟩), .string ⟨k.toArray⟩] w fun e w' => e = .returned (.tuple #[.string ⟨((Sto.get t.now k).getD []).toArray⟩, .bool (Sto.here t.now k)]) ∧ w' = w := by
  obtain ⟨lg, mb, rb, rows, r, rfl, h2, h3, hr, rfl, rfl⟩ := row_of h hi
  exact txget11_any (h2.txs i r hr).1 k hk
def TS.ended (t : TS) : TS := if t.over then t else t.ends
theorem commit_sc (h : Sc w F x c s d m ts) {i y : Nat} {t : TS} (hi : ts[i]? = some (y, t)) (hm : m < 4999999999999) (hlg : s.l.g ≤ 4611686018427387904) (hln : s.l.n ≤ 4611686018427387904) (hl1 : t.now.length ≤ 4194304) (hl2 : t.was.length ≤ 4096) (hturn : s.turn ≤ 4611686018427387904) :
    Calls Tryz.prog 27 #[.pointer (some ⟨y, 0, none⟩)] w fun e w' => e = .returned (.int .i64 (s.commit t d).2.2) ∧ ∃ F', Sc w' F' x c (s.commit t d).1 (s.commit t d).2.1 (m + 2) (ts.set i (y, t.ended)) ∧ STurn w w' F F' ∧ ((s.commit t d).2.1.dead = true → d.dead = false → Sc w' F' x c (s.commit t d).1 (s.commit t d).2.1 0 (ts.set i (y, t.ended))) := by
  obtain ⟨lg, mb, rb, rows, r, rfl, h2, h3, hr, rfl, rfl⟩ := row_of h hi
  refine (commit_scn h2 hr hm hlg hln hl1 hl2 hturn).mono ?_
  rintro e w' ⟨he, mb', rb', a1, a2, a3⟩
  have hmap : (rows.set i r.ended).map (fun r => (r.y, r.t)) = ts.set i (r.y, r.t.ended) := by
    rw [map_set_row, h3]
    unfold TRow.ended TS.ended
    cases r.t.over <;> rfl
  exact ⟨he, _, ⟨lg, mb', rb', _, rfl, a1, hmap⟩, a2, fun e1 e2 => by obtain rfl := a3 e1 e2; exact ⟨lg, mb', none, _, rfl, ⟨a1.store, a1.disk.fresh, a1.txs, a1.apart⟩, hmap⟩⟩
end
end Go.Proofs.YtpjpknndfhablaaGreat
namespace Go.Proofs.YtpjpknndfhablaaGreat
open Go.RowKit
theorem few_fits' {l : Sto.Pairs} (h : Sto.fits l = true) : l.length ≤ 4096 := by
  unfold Sto.fits at h
  simp at h
  omega
/-- Changes that came in: a slice of them is read. -/
structure CsAt (w : World) (ao : Option Addr) (l : List Sto.Ch) : Prop where
  len : l.length ≤ 1048576
  cell : ∀ i o, l[i]? = some o → ∃ b off, ao = some ⟨b, off, none⟩ ∧ b < w.heap.size ∧ w.cell? ⟨b, off + i * 3, none⟩ = some (.bool o.put) ∧ w.cell? ⟨b, off + i * 3 + 1, none⟩ = some (.string ⟨o.key.toArray⟩) ∧ w.cell? ⟨b, off + i * 3 + 2, none⟩ = some (.string ⟨o.value.toArray⟩)
  fits : ∀ o ∈ l, o.key.length ≤ maxLen ∧ o.value.length ≤ maxLen
theorem CsAt.below {w w' : World} {ao : Option Addr} {l : List Sto.Ch} (h : CsAt w ao l) (hb : Below w.heap.size w w') : CsAt w' ao l :=
  ⟨h.len, fun i o hi => by
    obtain ⟨b, off, e, hl, c0, c1, c2⟩ := h.cell i o hi
    exact ⟨b, off, e, Nat.lt_of_lt_of_le hl hb.size, cell_later hb c0, cell_later hb c1, cell_later hb c2⟩, h.fits⟩
theorem Sto.put_len : ∀ (l : Sto.Pairs) (k v : Sto.S), (Sto.put l k v).length ≤ l.length + 1
  | [], k, v => by simp [Sto.put]
  | p :: r, k, v => by
    unfold Sto.put
    have := Sto.put_len r k v
    split
    · simp; omega
    · split
      · simp
      · simp
namespace TS
/-- A change on a transaction. -/
def turn1 (t : TS) (c : Sto.Ch) : TS := if c.put then (t.put c.key c.value).1 else (t.del c.key).1
def turns (t : TS) (l : List Sto.Ch) : TS := l.foldl turn1 t
theorem put_len (t : TS) (k v : Sto.S) : (t.put k v).1.now.length ≤ t.now.length + 1 ∧ (t.put k v).1.was = t.was ∧ (t.put k v).1.turn = t.turn ∧ (t.put k v).1.over = t.over := by
  unfold TS.put
  split
  · exact ⟨Nat.le_succ _, rfl, rfl, rfl⟩
  · split
    · exact ⟨Nat.le_succ _, rfl, rfl, rfl⟩
    · split
      · exact ⟨Nat.le_succ _, rfl, rfl, rfl⟩
      · exact ⟨Sto.put_len t.now k v, rfl, rfl, rfl⟩
theorem del_len (t : TS) (k : Sto.S) : (t.del k).1.now.length ≤ t.now.length + 1 ∧ (t.del k).1.was = t.was ∧ (t.del k).1.turn = t.turn ∧ (t.del k).1.over = t.over := by
  unfold TS.del
  split
  · exact ⟨Nat.le_succ _, rfl, rfl, rfl⟩
  · split
    · exact ⟨Nat.le_succ _, rfl, rfl, rfl⟩
    · exact ⟨Nat.le_succ_of_le (Sto.del_length t.now k), rfl, rfl, rfl⟩
theorem turn1_len (t : TS) (c : Sto.Ch) : (t.turn1 c).now.length ≤ t.now.length + 1 ∧ (t.turn1 c).was = t.was ∧ (t.turn1 c).turn = t.turn ∧ (t.turn1 c).over = t.over := by
  unfold TS.turn1
  cases c.put
  · exact del_len t c.key
  · exact put_len t c.key c.value
theorem turns_snoc (t : TS) (l : List Sto.Ch) (c : Sto.Ch) : t.turns (l ++ [c]) = (t.turns l).turn1 c := by simp [turns]
theorem turns_len : ∀ (l : List Sto.Ch) (t : TS), (t.turns l).now.length ≤ t.now.length + l.length ∧ (t.turns l).was = t.was ∧ (t.turns l).turn = t.turn ∧ (t.turns l).over = t.over
  | [], t => ⟨by simp [turns], rfl, rfl, rfl⟩
  | c :: r, t => by
    obtain ⟨h1, h2, h3, h4⟩ := turn1_len t c
    obtain ⟨a1, a2, a3, a4⟩ := turns_len r (t.turn1 c)
    exact ⟨by show ((t.turn1 c).turns r).now.length ≤ _; rw [List.length_cons]; omega, a2.trans h2, a3.trans h3, a4.trans h4⟩
end TS
theorem check_g {s : SS} {d : DS} : (s.check d).1.l.g ≤ s.l.g + 1 := by
  unfold SS.check
  split
  · exact Nat.le_succ _
  · show (Wal.checkpoint s.l d (Sto.image s.ps)).1.g ≤ _
    unfold Wal.checkpoint
    split
    · exact Nat.le_succ _
    · split
      · exact Nat.le_succ _
      · split
        · exact Nat.le_succ _
        · split
          · exact Nat.le_succ _
          · split
            · exact Nat.le_succ _
            · exact Nat.le_refl _
theorem wappend_g {l : Wal.LS} {d : DS} {r : List UInt8} : (Wal.append l d r).1.g = l.g := by
  unfold Wal.append
  split
  · rfl
  · split
    · rfl
    · split
      · rfl
      · split <;> rfl
theorem adding_g {s : SS} {d : DS} {r : List UInt8} {m : Sto.Pairs} : (s.adding d r m).1.l.g = s.l.g := by
  unfold SS.adding
  split <;> exact wappend_g
theorem making_g {s : SS} {d : DS} {r : List UInt8} : (s.making d r).1.l.g ≤ s.l.g + 1 := by
  unfold SS.making
  split
  · exact check_g
  · exact Nat.le_succ _
theorem commit_g {s : SS} {t : TS} {d : DS} : (s.commit t d).1.l.g ≤ s.l.g + 1 := by
  unfold SS.commit
  split
  · exact Nat.le_succ _
  · split
    · exact Nat.le_succ _
    · split
      · exact Nat.le_succ _
      · split
        · exact Nat.le_succ _
        · split
          · exact Nat.le_succ _
          · split
            · exact Nat.le_succ _
            · unfold SS.taking
              split
              · exact making_g
              · rw [adding_g]; exact making_g
/-- A deed's end: perhaps a sync, perhaps a checkpoint. -/
def SS.deed2 (p : Sto.Pairs) (e : Int) (s : SS) (d : DS) (th : Int) : Sto.Pairs × Int × SS × DS :=
  if e = 0 ∧ th = 1 then (p, (s.sync d).2.2, (s.sync d).1, (s.sync d).2.1)
  else if e = 0 ∧ th = 2 then (p, (s.check d).2.2, (s.check d).1, (s.check d).2.1)
  else (p, e, s, d)
/-- A deed: what is told, and what is left. -/
def SS.deed (s : SS) (d : DS) (l : List Sto.Ch) (th : Int) : Sto.Pairs × Int × SS × DS :=
  SS.deed2 (if (s.commit (s.begin_.turns l) d).2.2 ≠ 0 ∧ (s.commit (s.begin_.turns l) d).2.2 ≠ 2 then Sto.scan (s.commit (s.begin_.turns l) d).1.ps [] 99999 else Sto.scan (s.begin_.turns l).now [] 99999)
    (if (s.commit (s.begin_.turns l) d).2.2 = 2 then 2 else 0) (s.commit (s.begin_.turns l) d).1 (s.commit (s.begin_.turns l) d).2.1 th
/-- How many rows are counted behind a call that may have died. -/
theorem Sc.count {w : World} {F : Nat → Prop} {x c : Nat} {s : SS} {d d0 : DS} {m : Nat} {ts : List (Nat × TS)} (h : Sc w F x c s d m ts) (h0 : d.dead = true → d0.dead = false → Sc w F x c s d 0 ts) : ∃ n, n ≤ m ∧ Sc w F x c s d n ts ∧ (d.dead = true → d0.dead = false → n = 0) := by
  by_cases hc : d.dead = true ∧ d0.dead = false
  · exact ⟨0, Nat.zero_le _, h0 hc.1 hc.2, fun _ _ => rfl⟩
  · exact ⟨m, Nat.le_refl _, h, fun a b => absurd ⟨a, b⟩ hc⟩
theorem last_get (ts : List (Nat × TS)) (p : Nat × TS) : (ts ++ [p])[ts.length]? = some p := by simp
theorem last_set (ts : List (Nat × TS)) (p q : Nat × TS) : (ts ++ [p]).set ts.length q = ts ++ [q] := by simp
theorem tx_few {w : World} {F : Nat → Prop} {x c : Nat} {s : SS} {d : DS} {m : Nat} {ts : List (Nat × TS)} (h : Sc w F x c s d m ts) {l : List Sto.Ch} (hl : l.length ≤ 1048576) (j : Nat) : (s.begin_.turns (l.take j)).now.length ≤ 2097152 ∧ (s.begin_.turns (l.take j)).was.length ≤ 4096 := by
  obtain ⟨h1, h2, _, _⟩ := TS.turns_len (l.take j) s.begin_
  have h3 := few_fits' h.good.2.2
  rw [h2]
  have h4 : (l.take j).length ≤ l.length := by rw [List.length_take]; omega
  have h5 : s.begin_.now.length = s.ps.length := rfl
  have h6 : s.begin_.was.length = s.ps.length := rfl
  omega
set_option maxHeartbeats 4000000 in
set_option maxRecDepth 100000 in
theorem done11_any (w0 w : World) (F : Nat → Prop) (x c : Nat) (s : SS) (d : DS) (m : Nat) (ts : List (Nat × TS)) (h : Sc w F x c s d m ts) (hs : Since w0 w F) (ao : Option Addr) (ca : Nat) (l : List Sto.Ch) (hl : CsAt w0 ao l) (th : Int)
    (hm : m < 4000000000000) (hlg : s.l.g ≤ 4611686018427387903) (hln : s.l.n ≤ 4611686018427387903) (hturn : s.turn ≤ 4611686018427387903) :
    Calls Tryz.prog 22 #[.pointer (some ⟨x, 0, none⟩), .agg #[.slice ao l.length ca, .int .i64 th]] w fun e w' => ∃ v F' y t, e = .returned (.tuple #[v, .bool (th == 1 || th == 2), .int .i64 (s.deed d l th).2.1]) ∧ KeptP w' F' v (s.deed d l th).1 ∧ Sc w' F' x c (s.deed d l th).2.2.1 (s.deed d l th).2.2.2 (m + 3) (ts ++ [(y, t)]) ∧ STurn w w' F F' ∧
      ((s.deed d l th).2.2.2.dead = true → d.dead = false → ∃ n, n ≤ 1 ∧ Sc w' F' x c (s.deed d l th).2.2.1 (s.deed d l th).2.2.2 n (ts ++ [(y, t)])) := by
  have HH := Lib.hid h
  have HSI := Lib.hid hs
  have HL := Lib.hid hl
  have hlen := hl.len
  clear h hs hl
  have b1 := balloc w (.cells #[.slice ao l.length ca, .int .i64 th] 54)
  have n1 := heap_new w (.cells #[.slice ao l.length ca, .int .i64 th] 54)
  obtain ⟨B, hB⟩ : ∃ B, w.heap.size = B := ⟨_, rfl⟩
  obtain ⟨w1, hw1⟩ : ∃ W, w.alloc (.cells #[.slice ao l.length ca, .int .i64 th] 54) = W := ⟨_, rfl⟩
  rw [hw1] at b1 n1
  rw [hB] at n1
  have HB1 := Lib.hid b1
  have HK1 : Hid (Kept w1 F B (.cells #[.slice ao l.length ca, .int .i64 th] 54 (0, 0))) := Lib.hid ⟨n1, fun e => by have := HH.out.lt B e; omega⟩
  have H1 := Lib.hid (HH.out.below b1)
  clear b1 n1
  have HBEG := Lib.hid (begin_sc H1.out)
  go_enter Tryz.func22, Tryz.ntmps22
  go_wp2_with fail
  clear hw1 hB
  refine HBEG.out.mono ?_
  rintro e w2 ⟨y, F2, rfl, h2, t2⟩
  have H2 := Lib.hid h2
  have HT2 := Lib.hid ((STurn.below (F := F) HB1.out).trans t2)
  have HK2 := Lib.hid (HK1.out.turn t2)
  clear h2 t2 HBEG HK1 H1
  go_wp2_with fail
  go_loopw [8] (fun i wr => ∃ (j : Nat) (F' : Nat → Prop), i = .int .i64 j ∧ j ≤ l.length ∧ Sc wr F' x c s d m (ts ++ [(y, s.begin_.turns (l.take j))]) ∧ STurn w wr F F' ∧ Kept wr F' B (.cells #[.slice ao l.length ca, .int .i64 th] 54 (0, 0))) (fun i _ => l.length - (intOf i).toNat)
  case atStart => exact ⟨0, F2, rfl, Nat.zero_le _, H2.out, HT2.out, HK2.out⟩
  case round =>
    obtain ⟨j, F3, rfl, hj, h3, t3, k3⟩ := hrel
    have H3 := Lib.hid h3
    have HT3 := Lib.hid t3
    have HK3 := Lib.hid k3
    obtain ⟨q0, q1, _, _⟩ := cells2 k3.blk
    clear h3 t3 k3
    by_cases hlt : j < l.length
    · obtain ⟨⟨pu, ky, vl⟩, hch⟩ : ∃ x, l[j]? = some x := ⟨_, List.getElem?_eq_getElem hlt⟩
      obtain ⟨g, off, rfl, hg, a0, a1, a2⟩ := (HL.out.below (HSI.out.turn HT3.out).old).cell j _ hch
      simp only at a0 a1 a2
      have HTK : Hid (s.begin_.turns (l.take (j + 1)) = (s.begin_.turns (l.take j)).turn1 ⟨pu, ky, vl⟩) := Lib.hid (by rw [List.take_add_one, hch]; exact TS.turns_snoc _ _ _)
      have HFI := Lib.hid (HL.out.fits _ (List.mem_of_getElem? hch))
      clear hch
      cases pu with
      | true =>
        go_wp2_with fail
        have ba := balloc wr (.cells #[.bool true, .string ⟨ky.toArray⟩, .string ⟨vl.toArray⟩] 58)
        have HA := Lib.hid (H3.out.below ba)
        have HTA := Lib.hid (HT3.out.trans (STurn.below ba))
        have HKA := Lib.hid (HK3.out.below ba)
        clear ba
        refine (put_sc HA.out (last_get ts _) ky vl HFI.out.1 HFI.out.2 (by have := (tx_few H3.out hlen j).1; unfold maxLen; omega)).mono ?_
        rintro e w5 ⟨rfl, F5, h5, t5⟩
        have H5 : Hid (Sc w5 F5 x c s d m (ts ++ [(y, s.begin_.turns (l.take (j + 1)))])) := Lib.hid (by rw [last_set] at h5; rw [HTK.out]; exact h5)
        have HT5 := Lib.hid (HTA.out.trans t5)
        have HK5 := Lib.hid (HKA.out.turn t5)
        clear h5 t5
        go_wp2_with fail
        go_roundw
        all_goals first
          | (simp [intOf]; omega)
          | exact ⟨j + 1, F5, by go_num, by omega, H5.out, HT5.out, HK5.out⟩
      | false =>
        go_wp2_with fail
        have ba := balloc wr (.cells #[.bool false, .string ⟨ky.toArray⟩, .string ⟨vl.toArray⟩] 58)
        have HA := Lib.hid (H3.out.below ba)
        have HTA := Lib.hid (HT3.out.trans (STurn.below ba))
        have HKA := Lib.hid (HK3.out.below ba)
        clear ba
        refine (del_sc HA.out (last_get ts _) ky HFI.out.1).mono ?_
        rintro e w5 ⟨rfl, F5, h5, t5⟩
        have H5 : Hid (Sc w5 F5 x c s d m (ts ++ [(y, s.begin_.turns (l.take (j + 1)))])) := Lib.hid (by rw [last_set] at h5; rw [HTK.out]; exact h5)
        have HT5 := Lib.hid (HTA.out.trans t5)
        have HK5 := Lib.hid (HKA.out.turn t5)
        clear h5 t5
        go_wp2_with fail
        go_roundw
        all_goals first
          | (simp [intOf]; omega)
          | exact ⟨j + 1, F5, by go_num, by omega, H5.out, HT5.out, HK5.out⟩
    · have hjl : j = l.length := by omega
      have H4 : Hid (Sc wr F3 x c s d m (ts ++ [(y, s.begin_.turns l)])) := Lib.hid (by have := H3.out; rw [hjl, List.take_length] at this; exact this)
      have hjb : ¬ (j : Int) < l.length := by omega
      have hfew := tx_few H3.out hlen l.length
      rw [List.take_length] at hfew
      clear hjl H3
      go_wp2_with fail
      obtain ⟨T, hT⟩ : ∃ T, s.begin_.turns l = T := ⟨_, rfl⟩
      have HTT := Lib.hid hT
      rw [hT] at H4 hfew
      clear hT
      refine (txscan_sc H4.out (last_get ts _) [] 99999 (by omega) (by decide) (by decide)).mono ?_
      rintro e w6 ⟨v6, rfl, p6, f6, b6⟩
      have H6 := Lib.hid (H4.out.below b6)
      have HK6 := Lib.hid (HK3.out.below b6)
      have HT6 := Lib.hid (HT3.out.trans (STurn.below b6))
      have HV6 : Hid (KeptP w6 F3 v6 (Sto.scan T.now [] 99999)) := Lib.hid ⟨p6, fun g hg => ⟨fun e => by have h1 := H4.out.lt g e; have h2 := f6 g hg; omega, p6.blk hg⟩⟩
      clear p6 f6 b6 H4 HK3 HT3
      obtain ⟨R, hR⟩ : ∃ R, s.commit T d = R := ⟨_, rfl⟩
      obtain ⟨s1, d1, e1⟩ := R
      have HR := Lib.hid hR
      have hco := commit_sc H6.out (last_get ts _) (by omega) (by omega) (by omega) (by omega) hfew.2 (by omega)
      rw [hR] at hco
      clear hR
      have HCO := Lib.hid hco
      clear hco
      go_wp2_with fail
      refine HCO.out.mono ?_
      rintro e w7 ⟨rfl, F7, h7, t7, z7⟩
      rw [last_set] at h7 z7
      obtain ⟨n7, hn7, h7', z7'⟩ := h7.count z7
      have H7 := Lib.hid h7'
      have HZ7 := Lib.hid z7'
      have HK7 := Lib.hid (HK6.out.turn t7)
      have HT7 := Lib.hid (HT6.out.trans t7)
      have HV7 := Lib.hid (HV6.out.turn t7)
      obtain ⟨q0, q1, _, _⟩ := cells2 HK7.out.blk
      clear h7 h7' z7 z7' t7 HCO HV6 HT6 HK6 H6
      have HG1 : Hid (s1.l.g ≤ 4611686018427387904) := Lib.hid (by have := commit_g (s := s) (t := T) (d := d); rw [HR.out] at this; simp only at this; omega)
      have HDE : Hid (s.deed d l th = SS.deed2 (if e1 ≠ 0 ∧ e1 ≠ 2 then Sto.scan s1.ps [] 99999 else Sto.scan T.now [] 99999) (if e1 = 2 then 2 else 0) s1 d1 th) := Lib.hid (by unfold SS.deed; rw [HTT.out, HR.out])
      by_cases he2 : e1 = 2
      · subst he2
        have HX : Hid (s.deed d l th = (Sto.scan T.now [] 99999, 2, s1, d1)) := Lib.hid (by rw [HDE.out]; simp [SS.deed2])
        by_cases h1 : th = 1
        · have hth1 : (th == 1) = true := by simp [h1]
          have hth2 : (th == 2) = false := by simp [h1]
          go_wp2_with fail
          go_quiet (fail)
          rename_i nq
          have bq := below_drewN (Below.refl w7.heap.size w7) nq
          go_wp2
          refine bodyPost_ret (results_tmp3 rfl _ _ _) rfl ?_
          rw [HX.out, show (th == 1 || th == 2) = true from by simp [hth1, hth2]]
          exact ⟨v6, F7, y, T.ended, rfl, HV7.out.below bq, (H7.out.mono (by omega)).below bq, HT7.out.trans (STurn.below bq), fun a b => ⟨n7, by have := HZ7.out a b; omega, H7.out.below bq⟩⟩
        · have hth1 : (th == 1) = false := by simp [h1]
          by_cases h2 : th = 2
          · have hth2 : (th == 2) = true := by simp [h2]
            go_wp2_with fail
            go_quiet (fail)
            rename_i nq
            have bq := below_drewN (Below.refl w7.heap.size w7) nq
            go_wp2
            refine bodyPost_ret (results_tmp3 rfl _ _ _) rfl ?_
            rw [HX.out, show (th == 1 || th == 2) = true from by simp [hth1, hth2]]
            exact ⟨v6, F7, y, T.ended, rfl, HV7.out.below bq, (H7.out.mono (by omega)).below bq, HT7.out.trans (STurn.below bq), fun a b => ⟨n7, by have := HZ7.out a b; omega, H7.out.below bq⟩⟩
          · have hth2 : (th == 2) = false := by simp [h2]
            go_wp2_with fail
            go_quiet (fail)
            rename_i nq
            have bq := below_drewN (Below.refl w7.heap.size w7) nq
            go_wp2
            refine bodyPost_ret (results_tmp3 rfl _ _ _) rfl ?_
            rw [HX.out, show (th == 1 || th == 2) = false from by simp [hth1, hth2]]
            exact ⟨v6, F7, y, T.ended, rfl, HV7.out.below bq, (H7.out.mono (by omega)).below bq, HT7.out.trans (STurn.below bq), fun a b => ⟨n7, by have := HZ7.out a b; omega, H7.out.below bq⟩⟩
      · by_cases he0 : e1 = 0
        · subst he0
          have HDQ : Hid (s.deed d l th = SS.deed2 (Sto.scan T.now [] 99999) 0 s1 d1 th) := Lib.hid (by rw [HDE.out]; simp)
          by_cases h1 : th = 1
          · have hth1 : (th == 1) = true := by simp [h1]
            have hth2 : (th == 2) = false := by simp [h1]
            obtain ⟨R2, hR2⟩ : ∃ R, s1.sync d1 = R := ⟨_, rfl⟩
            obtain ⟨s2, d2, e2⟩ := R2
            have HX : Hid (s.deed d l th = (Sto.scan T.now [] 99999, e2, s2, d2)) := Lib.hid (by rw [HDQ.out]; unfold SS.deed2; rw [if_pos ⟨rfl, h1⟩, hR2])
            have hc2 := sync_sc H7.out
            rw [hR2] at hc2
            have HC2 := Lib.hid hc2
            clear hc2 hR2
            go_wp2_with fail
            refine HC2.out.mono ?_
            rintro e wz ⟨rfl, FZ, hz, tz, zz⟩
            have HZZ := Lib.hid hz
            have HZ0 := Lib.hid zz
            have HKZ := Lib.hid (HK7.out.turn tz)
            have HTZ := Lib.hid (HT7.out.trans tz)
            have HVZ := Lib.hid (HV7.out.turn tz)
            obtain ⟨r0, r1, _, _⟩ := cells2 HKZ.out.blk
            clear hz tz zz q0 q1
            by_cases he3 : e2 = 0
            · subst he3
              go_wp2_with fail
              go_quiet (fail)
              rename_i nq
              have bq := below_drewN (Below.refl wz.heap.size wz) nq
              go_wp2
              refine bodyPost_ret (results_tmp3 rfl _ _ _) rfl ?_
              rw [HX.out, show (th == 1 || th == 2) = true from by simp [hth1, hth2]]
              exact ⟨v6, FZ, y, T.ended, rfl, HVZ.out.below bq, (HZZ.out.mono (by omega)).below bq, HTZ.out.trans (STurn.below bq), fun a b => (by cases hd1 : d1.dead with | true => exact ⟨_, by have := HZ7.out hd1 b; omega, HZZ.out.below bq⟩ | false => exact ⟨0, by omega, (HZ0.out a hd1).below bq⟩)⟩
            · have hb3 : (e2 == 0) = false := by simp [he3]
              go_wp2_with fail
              go_quiet (fail)
              rename_i nq
              have bq := below_drewN (Below.refl wz.heap.size wz) nq
              go_wp2
              refine bodyPost_ret (results_tmp3 rfl _ _ _) rfl ?_
              rw [HX.out, show (th == 1 || th == 2) = true from by simp [hth1, hth2]]
              exact ⟨v6, FZ, y, T.ended, rfl, HVZ.out.below bq, (HZZ.out.mono (by omega)).below bq, HTZ.out.trans (STurn.below bq), fun a b => (by cases hd1 : d1.dead with | true => exact ⟨_, by have := HZ7.out hd1 b; omega, HZZ.out.below bq⟩ | false => exact ⟨0, by omega, (HZ0.out a hd1).below bq⟩)⟩
          · have hth1 : (th == 1) = false := by simp [h1]
            by_cases h2 : th = 2
            · have hth2 : (th == 2) = true := by simp [h2]
              obtain ⟨R2, hR2⟩ : ∃ R, s1.check d1 = R := ⟨_, rfl⟩
              obtain ⟨s2, d2, e2⟩ := R2
              have HX : Hid (s.deed d l th = (Sto.scan T.now [] 99999, e2, s2, d2)) := Lib.hid (by rw [HDQ.out]; unfold SS.deed2; rw [if_neg (fun e => h1 e.2), if_pos ⟨rfl, h2⟩, hR2])
              have hc2 := check_sc H7.out (by omega) (by have := HG1.out; omega)
              rw [hR2] at hc2
              have HC2 := Lib.hid hc2
              clear hc2 hR2
              go_wp2_with fail
              refine HC2.out.mono ?_
              rintro e wz ⟨rfl, FZ, hz, tz, zz⟩
              have HZZ := Lib.hid hz
              have HZ0 := Lib.hid zz
              have HKZ := Lib.hid (HK7.out.turn tz)
              have HTZ := Lib.hid (HT7.out.trans tz)
              have HVZ := Lib.hid (HV7.out.turn tz)
              obtain ⟨r0, r1, _, _⟩ := cells2 HKZ.out.blk
              clear hz tz zz q0 q1
              go_wp2_with fail
              go_quiet (fail)
              rename_i nq
              have bq := below_drewN (Below.refl wz.heap.size wz) nq
              go_wp2
              refine bodyPost_ret (results_tmp3 rfl _ _ _) rfl ?_
              rw [HX.out, show (th == 1 || th == 2) = true from by simp [hth1, hth2]]
              exact ⟨v6, FZ, y, T.ended, rfl, HVZ.out.below bq, (HZZ.out.mono (by omega)).below bq, HTZ.out.trans (STurn.below bq), fun a b => (by cases hd1 : d1.dead with | true => exact ⟨_, by have := HZ7.out hd1 b; omega, HZZ.out.below bq⟩ | false => exact ⟨0, by omega, (HZ0.out a hd1).below bq⟩)⟩
            · have hth2 : (th == 2) = false := by simp [h2]
              have HX : Hid (s.deed d l th = (Sto.scan T.now [] 99999, 0, s1, d1)) := Lib.hid (by rw [HDQ.out]; unfold SS.deed2; rw [if_neg (fun e => h1 e.2), if_neg (fun e => h2 e.2)])
              go_wp2_with fail
              go_quiet (fail)
              rename_i nq
              have bq := below_drewN (Below.refl w7.heap.size w7) nq
              go_wp2
              refine bodyPost_ret (results_tmp3 rfl _ _ _) rfl ?_
              rw [HX.out, show (th == 1 || th == 2) = false from by simp [hth1, hth2]]
              exact ⟨v6, F7, y, T.ended, rfl, HV7.out.below bq, (H7.out.mono (by omega)).below bq, HT7.out.trans (STurn.below bq), fun a b => ⟨n7, by have := HZ7.out a b; omega, H7.out.below bq⟩⟩
        · have hb0 : (e1 != 0) = true := by simp [he0]
          have hb2 : (e1 != 2) = true := by simp [he2]
          have HDQ : Hid (s.deed d l th = SS.deed2 (Sto.scan s1.ps [] 99999) 0 s1 d1 th) := Lib.hid (by rw [HDE.out, if_pos ⟨he0, he2⟩, if_neg he2])
          go_wp2_with fail
          refine (scan_sc H7.out [] 99999 (by decide) (by decide)).mono ?_
          rintro e w8 ⟨v8, rfl, p8, f8, b8⟩
          have H8 := Lib.hid (H7.out.below b8)
          have HK8 := Lib.hid (HK7.out.below b8)
          have HT8 := Lib.hid (HT7.out.trans (STurn.below b8))
          have HV8 : Hid (KeptP w8 F7 v8 (Sto.scan s1.ps [] 99999)) := Lib.hid ⟨p8, fun g hg => ⟨fun e => by have h1 := H7.out.lt g e; have h2 := f8 g hg; omega, p8.blk hg⟩⟩
          obtain ⟨u0, u1, _, _⟩ := cells2 HK8.out.blk
          clear p8 f8 b8 q0 q1
          by_cases h1 : th = 1
          · have hth1 : (th == 1) = true := by simp [h1]
            have hth2 : (th == 2) = false := by simp [h1]
            obtain ⟨R2, hR2⟩ : ∃ R, s1.sync d1 = R := ⟨_, rfl⟩
            obtain ⟨s2, d2, e2⟩ := R2
            have HX : Hid (s.deed d l th = (Sto.scan s1.ps [] 99999, e2, s2, d2)) := Lib.hid (by rw [HDQ.out]; unfold SS.deed2; rw [if_pos ⟨rfl, h1⟩, hR2])
            have hc2 := sync_sc H8.out
            rw [hR2] at hc2
            have HC2 := Lib.hid hc2
            clear hc2 hR2
            go_wp2_with fail
            refine HC2.out.mono ?_
            rintro e wz ⟨rfl, FZ, hz, tz, zz⟩
            have HZZ := Lib.hid hz
            have HZ0 := Lib.hid zz
            have HKZ := Lib.hid (HK8.out.turn tz)
            have HTZ := Lib.hid (HT8.out.trans tz)
            have HVZ := Lib.hid (HV8.out.turn tz)
            obtain ⟨r0, r1, _, _⟩ := cells2 HKZ.out.blk
            clear hz tz zz u0 u1
            by_cases he3 : e2 = 0
            · subst he3
              go_wp2_with fail
              go_quiet (fail)
              rename_i nq
              have bq := below_drewN (Below.refl wz.heap.size wz) nq
              go_wp2
              refine bodyPost_ret (results_tmp3 rfl _ _ _) rfl ?_
              rw [HX.out, show (th == 1 || th == 2) = true from by simp [hth1, hth2]]
              exact ⟨v8, FZ, y, T.ended, rfl, HVZ.out.below bq, (HZZ.out.mono (by omega)).below bq, HTZ.out.trans (STurn.below bq), fun a b => (by cases hd1 : d1.dead with | true => exact ⟨_, by have := HZ7.out hd1 b; omega, HZZ.out.below bq⟩ | false => exact ⟨0, by omega, (HZ0.out a hd1).below bq⟩)⟩
            · have hb3 : (e2 == 0) = false := by simp [he3]
              go_wp2_with fail
              go_quiet (fail)
              rename_i nq
              have bq := below_drewN (Below.refl wz.heap.size wz) nq
              go_wp2
              refine bodyPost_ret (results_tmp3 rfl _ _ _) rfl ?_
              rw [HX.out, show (th == 1 || th == 2) = true from by simp [hth1, hth2]]
              exact ⟨v8, FZ, y, T.ended, rfl, HVZ.out.below bq, (HZZ.out.mono (by omega)).below bq, HTZ.out.trans (STurn.below bq), fun a b => (by cases hd1 : d1.dead with | true => exact ⟨_, by have := HZ7.out hd1 b; omega, HZZ.out.below bq⟩ | false => exact ⟨0, by omega, (HZ0.out a hd1).below bq⟩)⟩
          · have hth1 : (th == 1) = false := by simp [h1]
            by_cases h2 : th = 2
            · have hth2 : (th == 2) = true := by simp [h2]
              obtain ⟨R2, hR2⟩ : ∃ R, s1.check d1 = R := ⟨_, rfl⟩
              obtain ⟨s2, d2, e2⟩ := R2
              have HX : Hid (s.deed d l th = (Sto.scan s1.ps [] 99999, e2, s2, d2)) := Lib.hid (by rw [HDQ.out]; unfold SS.deed2; rw [if_neg (fun e => h1 e.2), if_pos ⟨rfl, h2⟩, hR2])
              have hc2 := check_sc H8.out (by omega) (by have := HG1.out; omega)
              rw [hR2] at hc2
              have HC2 := Lib.hid hc2
              clear hc2 hR2
              go_wp2_with fail
              refine HC2.out.mono ?_
              rintro e wz ⟨rfl, FZ, hz, tz, zz⟩
              have HZZ := Lib.hid hz
              have HZ0 := Lib.hid zz
              have HKZ := Lib.hid (HK8.out.turn tz)
              have HTZ := Lib.hid (HT8.out.trans tz)
              have HVZ := Lib.hid (HV8.out.turn tz)
              obtain ⟨r0, r1, _, _⟩ := cells2 HKZ.out.blk
              clear hz tz zz u0 u1
              go_wp2_with fail
              go_quiet (fail)
              rename_i nq
              have bq := below_drewN (Below.refl wz.heap.size wz) nq
              go_wp2
              refine bodyPost_ret (results_tmp3 rfl _ _ _) rfl ?_
              rw [HX.out, show (th == 1 || th == 2) = true from by simp [hth1, hth2]]
              exact ⟨v8, FZ, y, T.ended, rfl, HVZ.out.below bq, (HZZ.out.mono (by omega)).below bq, HTZ.out.trans (STurn.below bq), fun a b => (by cases hd1 : d1.dead with | true => exact ⟨_, by have := HZ7.out hd1 b; omega, HZZ.out.below bq⟩ | false => exact ⟨0, by omega, (HZ0.out a hd1).below bq⟩)⟩
            · have hth2 : (th == 2) = false := by simp [h2]
              have HX : Hid (s.deed d l th = (Sto.scan s1.ps [] 99999, 0, s1, d1)) := Lib.hid (by rw [HDQ.out]; unfold SS.deed2; rw [if_neg (fun e => h1 e.2), if_neg (fun e => h2 e.2)])
              go_wp2_with fail
              go_quiet (fail)
              rename_i nq
              have bq := below_drewN (Below.refl w8.heap.size w8) nq
              go_wp2
              refine bodyPost_ret (results_tmp3 rfl _ _ _) rfl ?_
              rw [HX.out, show (th == 1 || th == 2) = false from by simp [hth1, hth2]]
              exact ⟨v8, F7, y, T.ended, rfl, HV8.out.below bq, (H8.out.mono (by omega)).below bq, HT8.out.trans (STurn.below bq), fun a b => ⟨n7, by have := HZ7.out a b; omega, H8.out.below bq⟩⟩
end Go.Proofs.YtpjpknndfhablaaGreat
namespace Go.Proofs.YtpjpknndfhablaaGreat
theorem Sto.does_changes {a b : Sto.Pairs} (ha : Sto.Rise a) (hb : Sto.Rise b) : Sto.does a (Sto.changes a b) = if Sto.fits b then some b else none := by
  unfold Sto.does
  rw [Sto.steps_changes' ha hb]
  rfl
theorem Sto.changes_same {a b : Sto.Pairs} (ha : Sto.Rise a) (hb : Sto.Rise b) (h : Sto.changes a b = []) : a = b := by
  have := Sto.steps_changes' ha hb
  rw [h] at this
  exact Option.some.inj this
namespace SS
theorem check_ps (s : SS) (d : DS) : (s.check d).1.ps = s.ps ∧ (s.check d).1.turn = s.turn := by
  unfold SS.check
  split <;> exact ⟨rfl, rfl⟩
theorem making_ps (s : SS) (d : DS) (r : List UInt8) : (s.making d r).1.ps = s.ps ∧ (s.making d r).1.turn = s.turn := by
  unfold SS.making
  split
  · exact check_ps s d
  · exact ⟨rfl, rfl⟩
theorem making_lives {s : SS} {d : DS} {r : List UInt8} (hd : s.dead = false) (h : (s.making d r).2.2 = 0) : (s.making d r).1.dead = false := by
  unfold SS.making at h ⊢
  split
  · rename_i h1
    rw [if_pos h1] at h
    unfold SS.check at h ⊢
    rw [if_neg (by rw [hd]; exact Bool.false_ne_true)] at h ⊢
    show decide _ = false
    rw [h]
    rfl
  · exact hd
theorem adding_cases (s : SS) (d : DS) (r : List UInt8) (m : Sto.Pairs) : ((s.adding d r m).2.2 ≠ 0 ∧ (s.adding d r m).1.ps = s.ps ∧ (s.adding d r m).1.turn = s.turn) ∨ ((s.adding d r m).2.2 = 0 ∧ (s.adding d r m).1.ps = m ∧ (s.adding d r m).1.turn = s.turn + 1 ∧ (s.adding d r m).1.dead = s.dead) := by
  unfold SS.adding
  split
  · rename_i h; exact .inl ⟨h, rfl, rfl⟩
  · exact .inr ⟨rfl, rfl, rfl, rfl⟩
theorem taking_cases (s : SS) (d : DS) (c : List Sto.Ch) (m : Sto.Pairs) (hd : s.dead = false) : ((s.taking d c m).2.2 ≠ 0 ∧ (s.taking d c m).1.ps = s.ps ∧ (s.taking d c m).1.turn = s.turn) ∨ ((s.taking d c m).2.2 = 0 ∧ (s.taking d c m).1.ps = m ∧ (s.taking d c m).1.turn = s.turn + 1 ∧ (s.taking d c m).1.dead = false) := by
  obtain ⟨h1, h2⟩ := making_ps s d (Sto.encode c 2)
  unfold SS.taking
  split
  · rename_i h; exact .inl ⟨h, h1, h2⟩
  · rename_i h
    have hl := making_lives hd (Classical.not_not.1 h)
    rcases adding_cases (s.making d (Sto.encode c 2)).1 (s.making d (Sto.encode c 2)).2.1 (Sto.encode c 2) m with ⟨a, b, e⟩ | ⟨a, b, e, f⟩
    · exact .inl ⟨a, b.trans h1, e.trans h2⟩
    · exact .inr ⟨a, b, by rw [e, h2], f.trans hl⟩
/-- Behind a commit the pairs are what they were, or what the transaction saw. -/
theorem commit_cases (s : SS) (t : TS) (d : DS) : ((s.commit t d).2.2 ≠ 0 ∧ (s.commit t d).1.ps = s.ps ∧ (s.commit t d).1.turn = s.turn) ∨
    ((s.commit t d).2.2 = 0 ∧ s.turn = t.turn ∧ t.over = false ∧ s.dead = false ∧ Sto.changes t.was t.now = [] ∧ s.commit t d = (s, d, 0)) ∨
    ((s.commit t d).2.2 = 0 ∧ s.turn = t.turn ∧ t.over = false ∧ s.dead = false ∧ Sto.does s.ps (Sto.changes t.was t.now) = some (s.commit t d).1.ps ∧ (s.commit t d).1.turn = s.turn + 1 ∧ (s.commit t d).1.dead = false) := by
  unfold SS.commit
  split
  · exact .inl ⟨(fun e => by cases e), rfl, rfl⟩
  · rename_i h1
    split
    · exact .inl ⟨(fun e => by cases e), rfl, rfl⟩
    · rename_i h2
      split
      · exact .inl ⟨(fun e => by cases e), rfl, rfl⟩
      · rename_i h3
        have h3' := Classical.not_not.1 h3
        have h1' : t.over = false := by cases ho : t.over; rfl; exact absurd ho h1
        have h2' : s.dead = false := by cases ho : s.dead; rfl; exact absurd ho h2
        split
        · rename_i h4
          exact .inr (.inl ⟨rfl, h3', h1', h2', h4, rfl⟩)
        · split
          · exact .inl ⟨(fun e => by cases e), rfl, rfl⟩
          · cases hdo : Sto.does s.ps (Sto.changes t.was t.now) with
            | none => exact .inl ⟨(fun e => by cases e), rfl, rfl⟩
            | some m =>
              rcases taking_cases s d (Sto.changes t.was t.now) m h2' with ⟨a, b, e⟩ | ⟨a, b, e, f⟩
              · exact .inl ⟨a, b, e⟩
              · exact .inr (.inr ⟨a, h3', h1', h2', by show some m = some _; rw [b], e, f⟩)
/-- .. of a transaction that began at these very pairs. -/
theorem commit_now {s : SS} {t : TS} {d : DS} (hw : t.was = s.ps) (h1 : Sto.Rise s.ps) (h2 : Sto.Rise t.now) (he : (s.commit t d).2.2 = 0) : (s.commit t d).1.ps = t.now := by
  rcases commit_cases s t d with ⟨a, _⟩ | ⟨_, _, _, _, a, b⟩ | ⟨_, _, _, _, a, _⟩
  · exact absurd he a
  · rw [b]
    exact (Sto.changes_same (by rw [hw]; exact h1) h2 a) ▸ hw.symm
  · rw [hw, Sto.does_changes h1 h2] at a
    split at a
    · exact (Option.some.inj a).symm
    · cases a
theorem commit_same {s : SS} {t : TS} {d : DS} (he : (s.commit t d).2.2 ≠ 0) : (s.commit t d).1.ps = s.ps := by
  rcases commit_cases s t d with ⟨_, a, _⟩ | ⟨a, _⟩ | ⟨a, _⟩
  · exact a
  · exact absurd a he
  · exact absurd a he
theorem commit_turn {s : SS} {t : TS} {d : DS} (ht : (s.commit t d).1.turn = s.turn) : (s.commit t d).1.ps = s.ps := by
  rcases commit_cases s t d with ⟨_, a, _⟩ | ⟨_, _, _, _, _, b⟩ | ⟨_, _, _, _, _, b, _⟩
  · exact a
  · rw [b]
  · omega
/-- Of two that overlap the second one that has changes is refused. -/
theorem commit_two {s : SS} {t u : TS} {d e : DS} (hw : t.was = s.ps) (h1 : Sto.Rise s.ps) (h2 : Sto.Rise t.now) (hu : u.turn = s.turn) (huo : u.over = false) (he : (s.commit t d).2.2 = 0) (hn : t.now ≠ s.ps) : ((s.commit t d).1.commit u e).2.2 = 114 := by
  rcases commit_cases s t d with ⟨a, _⟩ | ⟨_, _, _, _, a, b⟩ | ⟨_, _, _, _, _, b, c⟩
  · exact absurd he a
  · exact absurd (hw.symm.trans (Sto.changes_same (by rw [hw]; exact h1) h2 a)).symm hn
  · unfold SS.commit
    rw [if_neg (by rw [huo]; exact Bool.false_ne_true)]
    have hc : (s.commit t d).1.dead = false := c
    have hb : (s.commit t d).1.turn ≠ u.turn := by rw [hu]; omega
    unfold SS.commit at hc hb
    rw [if_neg (by rw [hc]; exact Bool.false_ne_true), if_pos hb]
end SS
end Go.Proofs.YtpjpknndfhablaaGreat
namespace Go.Proofs.YtpjpknndfhablaaGreat
open Go.ChangeShapes Go.WideShapes Go.ChangeAt Go.RowKit Go.Deep
theorem bulk_one {H : Type} (d : DataW H) : 1 ≤ Rows.uptoBulk d := by
  cases d with
  | lit l => cases l <;> simp [Rows.uptoBulk]
  | _ => simp [Rows.uptoBulk]
theorem bulk_length {H : Type} : ∀ (l : List (DataW H)), l.length ≤ Rows.uptoBulkAll l
  | [] => by simp
  | x :: r => by
    have h1 := bulk_one x
    have h2 := bulk_length r
    simp only [Rows.uptoBulkAll, List.length_cons]
    omega
theorem bulk_part {H : Type} {x : DataW H} : ∀ {l : List (DataW H)}, x ∈ l → Rows.uptoBulk x ≤ Rows.uptoBulkAll l
  | y :: r, h => by
    simp only [Rows.uptoBulkAll]
    rcases List.mem_cons.1 h with rfl | h
    · omega
    · have := bulk_part h
      omega
theorem bulk_slice {H : Type} {e s : List (DataW H)} {n : Nat} (h : Rows.uptoBulk (.slice e s) ≤ n) : e.length ≤ n := by
  have h1 := bulk_length e
  simp only [Rows.uptoBulk] at h
  omega
theorem Tryz.cellsChange : Tryz.prog.cellsOf 58 = 3 := by kernel_rfl
section
variable {H : Type} {enc : TypeId × Value → H} {W : World} {sp : Nat → Bool} {held : Bool}
theorem open_changes {fuel : Nat} {cs : List Value} {y : DataW H × List MemPlace} (hw : ∀ k ∈ y.1.weights Tryz.prog 48, k ≤ reachBytes) (hb : Rows.uptoBulk y.1 ≤ 1048576) (hf : DataW.trod enc Tryz.prog W 0 sp held fuel 48 cs = some y) :
    ∃ ao len cap l, cs = [.slice ao len cap] ∧ l.length = len ∧ CsAt W ao l := by
  rcases open_slice_fields Tryz.underlying48 Tryz.underlying58 (by kernel_rfl) Tryz.cellsChange hf with ⟨hcs, _⟩ | ⟨a, len, cap, m, D, Pl, hcs, _, hl, hm, hmm, hx, hc⟩
  · exact ⟨none, 0, 0, [], hcs, rfl, by simp, by simp, by simp⟩
  · subst hx
    have hlm : len ≤ m := by rw [hmm]; split <;> omega
    have hlen : len ≤ 1048576 := by
      have := bulk_slice hb
      simpa using this
    obtain ⟨l, hll, hq⟩ := list_of (T := Sto.Ch) (Q := fun i o => (∃ b off, (some a : Option Addr) = some ⟨b, off, none⟩ ∧ b < W.heap.size ∧ W.cell? ⟨b, off + i * 3, none⟩ = some (.bool o.put) ∧ W.cell? ⟨b, off + i * 3 + 1, none⟩ = some (.string ⟨o.key.toArray⟩) ∧
        W.cell? ⟨b, off + i * 3 + 2, none⟩ = some (.string ⟨o.value.toArray⟩)) ∧ (o.key.length ≤ maxLen ∧ o.value.length ≤ maxLen)) len (fun i hi => by
      obtain ⟨ys, n, hD, _, _, hf⟩ := hc i (by omega)
      obtain ⟨v0, y0, c0, _, t0⟩ := hf 0 _ rfl
      obtain ⟨v1, y1, c1, hy1, t1⟩ := hf 1 _ rfl
      obtain ⟨v2, y2, c2, hy2, t2⟩ := hf 2 _ rfl
      obtain ⟨n0, e0, _⟩ := DataW.trod_bool Tryz.underlying4 t0
      obtain ⟨s, e1, x1, _⟩ := DataW.trod_string Tryz.underlying9 t1
      obtain ⟨u, e2, x2, _⟩ := DataW.trod_string Tryz.underlying9 t2
      simp at e0 e1 e2
      subst e0 e1 e2
      subst x1 x2
      have hs : s.data.toList.length ≤ reachBytes := by
        refine hw _ ?_
        simp only [DataW.weights, Tryz.underlying48, List.mem_cons, List.mem_append]
        refine Or.inr (Or.inl (weightsAll_mem (List.mem_map.2 ⟨i, List.mem_range.2 hi, rfl⟩) _ ?_))
        rw [hD]
        simp only [DataW.weights, Tryz.underlying58]
        exact DataW.weights_mem_each (j := 1) (t := 9) (d := .lit (.string s.data.toList)) rfl (by rw [List.getElem?_map, hy1]; rfl) _ (by simp [DataW.weights])
      have hu : u.data.toList.length ≤ reachBytes := by
        refine hw _ ?_
        simp only [DataW.weights, Tryz.underlying48, List.mem_cons, List.mem_append]
        refine Or.inr (Or.inl (weightsAll_mem (List.mem_map.2 ⟨i, List.mem_range.2 hi, rfl⟩) _ ?_))
        rw [hD]
        simp only [DataW.weights, Tryz.underlying58]
        exact DataW.weights_mem_each (j := 2) (t := 9) (d := .lit (.string u.data.toList)) rfl (by rw [List.getElem?_map, hy2]; rfl) _ (by simp [DataW.weights])
      obtain ⟨_, _, _, _, _, hf0⟩ := hc 0 (by omega)
      obtain ⟨_, _, z0, _⟩ := hf0 0 _ rfl
      rw [Nat.zero_mul] at z0
      obtain ⟨b, off, rfl⟩ := plainSpot z0
      simp only [add_plain] at c0 c1 c2
      exact ⟨⟨n0, s.data.toList, u.data.toList⟩, ⟨b, off, rfl, cell_lt c0, c0, c1, c2⟩, Nat.le_trans hs (by simp [reachBytes, maxLen]), Nat.le_trans hu (by simp [reachBytes, maxLen])⟩)
    refine ⟨some a, len, cap, l, hcs, hll, by omega, fun i o hi => (hq i o hi).1, fun o ho => ?_⟩
    obtain ⟨i, hi⟩ := List.getElem?_of_mem ho
    exact (hq i o hi).2
theorem weights_of {ts : List TypeId} {ds : List (DataW H)} (hsz : (DataW.weightsEach Tryz.prog ts ds).all (· ≤ reachBytes) = true) {j : Nat} {t : TypeId} {d : DataW H} (ht : ts[j]? = some t) (hd : ds[j]? = some d) : ∀ k ∈ d.weights Tryz.prog t, k ≤ reachBytes := fun k hk =>
  of_decide_eq_true (List.all_eq_true.1 hsz _ (DataW.weights_mem_each ht hd k hk))
end
end Go.Proofs.YtpjpknndfhablaaGreat
namespace Go.Proofs.YtpjpknndfhablaaGreat
open Go.RowKit
theorem Sone.sc {w0 w : World} {x c : Nat} {s : SS} {d : DS} {m : Nat} (h : Sone w0 w x c s d m) : ∃ F, Sc w F x c s d m [] ∧ Since w0 w F := by
  obtain ⟨lg, mb, rb, h1, h2, h3, h4, h5, h6, h7, h8⟩ := h
  refine ⟨_, ⟨lg, mb, rb, [], rfl, ⟨h1, h2, fun i r hi => (by cases hi), fun i j r r' hi => (by cases hi)⟩, rfl⟩, h3, fun k hk => ?_⟩
  rcases hk with ((rfl | hk) | rfl) | rfl | rfl | ⟨r, hr, _⟩
  · exact h7
  · exact h8 k hk
  · exact h5
  · exact h4
  · exact h6
  · cases hr
theorem commit_small {s : SS} {t : TS} {d : DS} : (s.commit t d).1.l.n ≤ s.l.n + 1 ∧ (s.commit t d).1.turn ≤ s.turn + 1 := by
  have hap : ∀ (l : Wal.LS) (d : DS) (r : List UInt8), (Wal.append l d r).1.n ≤ l.n + 1 := fun l d r => by
    unfold Wal.append
    split
    · exact Nat.le_succ _
    · split
      · exact Nat.le_succ _
      · split
        · exact Nat.le_succ _
        · split
          · exact Nat.le_succ _
          · exact Nat.le_refl _
  have hch : ∀ (s : SS) (d : DS), (s.check d).1.l.n ≤ s.l.n := fun s d => by
    unfold SS.check
    split
    · exact Nat.le_refl _
    · exact cp_few
  have hmk : ∀ (s : SS) (d : DS) (r : List UInt8), (s.making d r).1.l.n ≤ s.l.n := fun s d r => by
    unfold SS.making
    split
    · exact hch s d
    · exact Nat.le_refl _
  have had : ∀ (s : SS) (d : DS) (r : List UInt8) (m : Sto.Pairs), (s.adding d r m).1.l.n ≤ s.l.n + 1 := fun s d r m => by
    unfold SS.adding
    split <;> exact hap _ _ _
  constructor
  · unfold SS.commit
    split
    · exact Nat.le_succ _
    · split
      · exact Nat.le_succ _
      · split
        · exact Nat.le_succ _
        · split
          · exact Nat.le_succ _
          · split
            · exact Nat.le_succ _
            · split
              · exact Nat.le_succ _
              · unfold SS.taking
                split
                · exact Nat.le_succ_of_le (hmk s d _)
                · exact Nat.le_trans (had _ _ _ _) (Nat.succ_le_succ (hmk s d _))
  · rcases SS.commit_cases s t d with ⟨_, _, a⟩ | ⟨_, _, _, _, _, a⟩ | ⟨_, _, _, _, _, a, _⟩
    · omega
    · rw [a]; exact Nat.le_succ _
    · omega
set_option maxHeartbeats 8000000 in
set_option maxRecDepth 100000 in
theorem storeApart_any (w : World) (a0 a1 a2 : Option Addr) (c0 c1 c2 : Nat) (l0 l1 l2 : List Sto.Ch) (h0 : CsAt w a0 l0) (h1 : CsAt w a1 l1) (h2 : CsAt w a2 l2) :
    Calls Tryz.prog 4 #[.slice a0 l0.length c0, .slice a1 l1.length c1, .slice a2 l2.length c2] w fun e w' => e = .returned (.bool true) ∧ Below w.heap.size w w' := by
  have HL0 := Lib.hid h0
  have HL1 := Lib.hid h1
  have HL2 := Lib.hid h2
  have hlen1 := h1.len
  have hlen2 := h2.len
  clear h0 h1 h2
  go_enter Tryz.func4, Tryz.ntmps4
  go_wp2_with fail
  refine (laid11_any w).mono ?_
  rintro e w1 ⟨c, x, rfl, h1⟩
  obtain ⟨F1, hs1, hi1⟩ := h1.sc
  have H1 := Lib.hid hs1
  have HI1 := Lib.hid hi1
  clear h1 hs1 hi1
  go_wp2_with fail
  obtain ⟨R, hR⟩ : ∃ R, FixS.s0.deed Wal.e0 l0 0 = R := ⟨_, rfl⟩
  obtain ⟨p, e0, s, d⟩ := R
  have HSM : Hid (s.l.g ≤ 2 ∧ s.l.n ≤ 1 ∧ s.turn ≤ 1) := Lib.hid (by
    have e1 : s = (FixS.s0.commit (FixS.s0.begin_.turns l0) Wal.e0).1 := by
      have := congrArg (fun r => r.2.2.1) hR
      unfold SS.deed SS.deed2 at this
      simpa using this.symm
    have hg := commit_g (s := FixS.s0) (t := FixS.s0.begin_.turns l0) (d := Wal.e0)
    have hn := commit_small (s := FixS.s0) (t := FixS.s0.begin_.turns l0) (d := Wal.e0)
    rw [← e1] at hg hn
    exact ⟨hg, hn.1, hn.2⟩)
  have hdn := done11_any w w1 F1 x c FixS.s0 Wal.e0 1 [] H1.out HI1.out a0 c0 l0 HL0.out 0 (by decide) (by decide) (by decide) (by decide)
  rw [hR] at hdn
  have HDN := Lib.hid hdn
  clear hdn hR
  refine HDN.out.mono ?_
  rintro e w2 ⟨v0, F2, y0, t0, rfl, _, h2, t2, _⟩
  have H2 := Lib.hid h2
  have HI2 := Lib.hid (HI1.out.turn t2)
  clear h2 t2 HDN
  go_wp2_with fail
  refine (begin_sc H2.out).mono ?_
  rintro e w3 ⟨y1, F3, rfl, h3, t3⟩
  have H3 := Lib.hid h3
  have HI3 := Lib.hid (HI2.out.turn t3)
  clear h3 t3
  go_wp2_with fail
  refine (begin_sc H3.out).mono ?_
  rintro e w4 ⟨y2, F4, rfl, h4, t4⟩
  have H4 : Hid (Sc w4 F4 x c s d 4 [(y0, t0), (y1, s.begin_), (y2, s.begin_)]) := Lib.hid h4
  have HI4 := Lib.hid (HI3.out.turn t4)
  clear h4 t4
  have HG := Lib.hid H4.out.good
  go_wp2_with fail
  refine (scan_sc H4.out [] 99999 (by decide) (by decide)).mono ?_
  rintro e w5 ⟨v5, rfl, p5, f5, b5⟩
  have H5 := Lib.hid (H4.out.below b5)
  have HI5 := Lib.hid (HI4.out.below b5)
  have HV5 : Hid (KeptP w5 F4 v5 s.ps) := Lib.hid (by
    have e1 : Sto.scan s.ps [] (99999 : Int).toNat = s.ps := scan_whole (by have := few_fits' HG.out.2.2; show _ ≤ 99999; omega)
    rw [e1] at p5
    exact ⟨p5, fun g hg => ⟨fun e => by have h1 := H4.out.lt g e; have h2 := f5 g hg; omega, p5.blk hg⟩⟩)
  clear p5 f5 b5
  go_wp2_with fail
  go_loopw [12] (fun i wr => ∃ (j : Nat) (F' : Nat → Prop), i = .int .i64 j ∧ j ≤ l1.length ∧ Sc wr F' x c s d 4 [(y0, t0), (y1, s.begin_.turns (l1.take j)), (y2, s.begin_)] ∧ Since w wr F' ∧ KeptP wr F' v5 (s.ps)) (fun i _ => l1.length - (intOf i).toNat)
  case atStart => exact ⟨0, F4, rfl, Nat.zero_le _, H5.out, HI5.out, HV5.out⟩
  case round =>
    obtain ⟨j, F6, rfl, hj, h6, i6, k0⟩ := hrel
    have H6 := Lib.hid h6
    have HI6 := Lib.hid i6
    have HV0 := Lib.hid k0
    clear h6 i6 k0
    have hfew := tx_few H6.out hlen1 j
    by_cases hlt : j < l1.length
    · obtain ⟨⟨pu, ky, vl⟩, hch⟩ : ∃ x, l1[j]? = some x := ⟨_, List.getElem?_eq_getElem hlt⟩
      obtain ⟨g, off, rfl, hg, z0, z1, z2⟩ := (HL1.out.below HI6.out.old).cell j _ hch
      simp only at z0 z1 z2
      have HTK : Hid (s.begin_.turns (l1.take (j + 1)) = (s.begin_.turns (l1.take j)).turn1 ⟨pu, ky, vl⟩) := Lib.hid (by rw [List.take_add_one, hch]; exact TS.turns_snoc _ _ _)
      have HFI := Lib.hid (HL1.out.fits _ (List.mem_of_getElem? hch))
      clear hch
      cases pu with
      | true =>
        go_wp2_with fail
        refine region_tail 11 (by kernel_rfl) (by kernel_rfl) ?_
        intro wt hwt
        have bt : Below wr.heap.size wr wt := by rw [hwt.out]; exact (Below.refl _ _).drew
        have H6t := Lib.hid (H6.out.below bt)
        have HI6t := Lib.hid (HI6.out.below bt)
        have HV0t := Lib.hid (HV0.out.below bt)
        have z1t := cell_later bt z1
        have z2t := cell_later bt z2
        clear bt hwt z0 z1 z2
        simp only [List.take_succ_cons, List.take_zero, List.drop_succ_cons, List.drop_zero]
        iterate 11 still_step
        refine wpStill_nil ?_
        go_wp2_with fail
        refine (put_sc (i := 1) H6t.out rfl ky vl HFI.out.1 HFI.out.2 (by have := hfew.1; unfold maxLen; omega)).mono ?_
        rintro e w7 ⟨rfl, F7, h7, t7⟩
        have H7 : Hid (Sc w7 F7 x c s d 4 [(y0, t0), (y1, s.begin_.turns (l1.take (j + 1))), (y2, s.begin_)]) := Lib.hid (by rw [HTK.out]; exact h7)
        have HI7 := Lib.hid (HI6t.out.turn t7)
        have HW0 := Lib.hid (HV0t.out.turn t7)
        clear h7 t7
        go_wp2_with fail
        go_roundw
        all_goals first
          | (simp [intOf]; omega)
          | exact ⟨j + 1, F7, by go_num, by omega, H7.out, HI7.out, HW0.out⟩
      | false =>
        go_wp2_with fail
        refine (del_sc (i := 1) H6.out rfl ky HFI.out.1).mono ?_
        rintro e w7 ⟨rfl, F7, h7, t7⟩
        have H7 : Hid (Sc w7 F7 x c s d 4 [(y0, t0), (y1, s.begin_.turns (l1.take (j + 1))), (y2, s.begin_)]) := Lib.hid (by rw [HTK.out]; exact h7)
        have HI7 := Lib.hid (HI6.out.turn t7)
        have HW0 := Lib.hid (HV0.out.turn t7)
        clear h7 t7
        go_wp2_with fail
        go_roundw
        all_goals first
          | (simp [intOf]; omega)
          | exact ⟨j + 1, F7, by go_num, by omega, H7.out, HI7.out, HW0.out⟩
    · have hjl : j = l1.length := by omega
      have H8 : Hid (Sc wr F6 x c s d 4 [(y0, t0), (y1, s.begin_.turns l1), (y2, s.begin_)]) := Lib.hid (by have := H6.out; rw [hjl, List.take_length] at this; exact this)
      have HI8 := Lib.hid HI6.out
      have hjb : ¬ (j : Int) < l1.length := by omega
      rw [hjl, List.take_length] at hfew
      clear hjl H6 HI6
      obtain ⟨Ta, hTa⟩ : ∃ T, s.begin_.turns l1 = T := ⟨_, rfl⟩
      have HTA := Lib.hid hTa
      rw [hTa] at H8 hfew
      clear hTa
      have hfa := hfew.1
      clear hfew
      go_wp2_with fail
      refine (txscan_sc (i := 1) H8.out rfl [] 99999 (by omega) (by decide) (by decide)).mono ?_
      rintro e w9 ⟨v9, rfl, p9, f9, b9⟩
      have H9 := Lib.hid (H8.out.below b9)
      have HI9 := Lib.hid (HI8.out.below b9)
      have HW9 := Lib.hid (HV0.out.below b9)
      have HM9 : Hid (KeptP w9 F6 v9 (Sto.scan Ta.now [] 99999)) := Lib.hid ⟨p9, fun g hg => ⟨fun e => by have h1 := H8.out.lt g e; have h2 := f9 g hg; omega, p9.blk hg⟩⟩
      clear p9 f9 b9 H8 HI8
      have hsw : Sto.scan s.ps [] (99999 : Int).toNat = s.ps := scan_whole (by have := few_fits' HG.out.2.2; show _ ≤ 99999; omega)
      have HSW := Lib.hid hsw
      clear hsw
      go_wp2_with fail
      refine (txscan_sc (i := 2) H9.out rfl [] 99999 (by have := few_fits' HG.out.2.2; show s.ps.length ≤ _; omega) (by decide) (by decide)).mono ?_
      rintro e wa ⟨va, rfl, pa, fa, ba⟩
      have HA := Lib.hid (H9.out.below ba)
      have HIA := Lib.hid (HI9.out.below ba)
      have HWA := Lib.hid (HW9.out.below ba)
      have HMA := Lib.hid (HM9.out.below ba)
      have HPA : Hid (PairsAt wa va s.ps) := Lib.hid (by rw [show s.begin_.now = s.ps from rfl, HSW.out] at pa; exact pa)
      clear pa fa ba H9 HI9 HW9 HM9
      go_wp2_with fail
      refine (rsame11_any va v5 s.ps s.ps wa HPA.out HWA.out.pairs).mono ?_
      rw [show decide (s.ps = s.ps) = true from decide_eq_true rfl]
      rintro e wb ⟨rfl, bb⟩
      have HB := Lib.hid (HA.out.below bb)
      have HIB := Lib.hid (HIA.out.below bb)
      have HWB := Lib.hid (HWA.out.below bb)
      have HMB := Lib.hid (HMA.out.below bb)
      clear bb HA HIA HWA HMA HPA
      go_wp2_with fail
      refine (scan_sc HB.out [] 99999 (by decide) (by decide)).mono ?_
      rintro e wc ⟨vc, rfl, pc, fc, bc⟩
      have HC := Lib.hid (HB.out.below bc)
      have HIC := Lib.hid (HIB.out.below bc)
      have HWC := Lib.hid (HWB.out.below bc)
      have HMC := Lib.hid (HMB.out.below bc)
      have HPC : Hid (PairsAt wc vc s.ps) := Lib.hid (by rw [HSW.out] at pc; exact pc)
      clear pc fc bc HB HIB HWB HMB
      go_wp2_with fail
      refine (rsame11_any vc v5 s.ps s.ps wc HPC.out HWC.out.pairs).mono ?_
      rw [show decide (s.ps = s.ps) = true from decide_eq_true rfl]
      rintro e wd ⟨rfl, bd⟩
      have HD := Lib.hid (HC.out.below bd)
      have HID := Lib.hid (HIC.out.below bd)
      have HWD := Lib.hid (HWC.out.below bd)
      have HMD := Lib.hid (HMC.out.below bd)
      clear bd HC HIC HWC HMC HPC
      go_wp2_with fail
      go_loopw [14] (fun i wr => ∃ (j : Nat) (F' : Nat → Prop), i = .int .i64 j ∧ j ≤ l2.length ∧ Sc wr F' x c s d 4 [(y0, t0), (y1, Ta), (y2, s.begin_.turns (l2.take j))] ∧ Since w wr F' ∧ KeptP wr F' v5 (s.ps) ∧ KeptP wr F' v9 (Sto.scan Ta.now [] 99999)) (fun i _ => l2.length - (intOf i).toNat)
      case atStart => exact ⟨0, F6, rfl, Nat.zero_le _, HD.out, HID.out, HWD.out, HMD.out⟩
      case round =>
        obtain ⟨j, F6, rfl, hj, h6, i6, k0, k1⟩ := hrel
        have H6 := Lib.hid h6
        have HI6 := Lib.hid i6
        have HV0 := Lib.hid k0
        have HV1 := Lib.hid k1
        clear h6 i6 k0 k1
        have hfew := tx_few H6.out hlen2 j
        by_cases hlt : j < l2.length
        · obtain ⟨⟨pu, ky, vl⟩, hch⟩ : ∃ x, l2[j]? = some x := ⟨_, List.getElem?_eq_getElem hlt⟩
          obtain ⟨g, off, rfl, hg, z0, z1, z2⟩ := (HL2.out.below HI6.out.old).cell j _ hch
          simp only at z0 z1 z2
          have HTK : Hid (s.begin_.turns (l2.take (j + 1)) = (s.begin_.turns (l2.take j)).turn1 ⟨pu, ky, vl⟩) := Lib.hid (by rw [List.take_add_one, hch]; exact TS.turns_snoc _ _ _)
          have HFI := Lib.hid (HL2.out.fits _ (List.mem_of_getElem? hch))
          clear hch
          cases pu with
          | true =>
            go_wp2_with fail
            refine region_tail 11 (by kernel_rfl) (by kernel_rfl) ?_
            intro wt hwt
            have bt : Below wr.heap.size wr wt := by rw [hwt.out]; exact (Below.refl _ _).drew
            have H6t := Lib.hid (H6.out.below bt)
            have HI6t := Lib.hid (HI6.out.below bt)
            have HV0t := Lib.hid (HV0.out.below bt)
            have HV1t := Lib.hid (HV1.out.below bt)
            have z1t := cell_later bt z1
            have z2t := cell_later bt z2
            clear bt hwt z0 z1 z2
            simp only [List.take_succ_cons, List.take_zero, List.drop_succ_cons, List.drop_zero]
            iterate 11 still_step
            refine wpStill_nil ?_
            go_wp2_with fail
            refine (put_sc (i := 2) H6t.out rfl ky vl HFI.out.1 HFI.out.2 (by have := hfew.1; unfold maxLen; omega)).mono ?_
            rintro e w7 ⟨rfl, F7, h7, t7⟩
            have H7 : Hid (Sc w7 F7 x c s d 4 [(y0, t0), (y1, Ta), (y2, s.begin_.turns (l2.take (j + 1)))]) := Lib.hid (by rw [HTK.out]; exact h7)
            have HI7 := Lib.hid (HI6t.out.turn t7)
            have HW0 := Lib.hid (HV0t.out.turn t7)
            have HW1 := Lib.hid (HV1t.out.turn t7)
            clear h7 t7
            go_wp2_with fail
            go_roundw
            all_goals first
              | (simp [intOf]; omega)
              | exact ⟨j + 1, F7, by go_num, by omega, H7.out, HI7.out, HW0.out, HW1.out⟩
          | false =>
            go_wp2_with fail
            refine (del_sc (i := 2) H6.out rfl ky HFI.out.1).mono ?_
            rintro e w7 ⟨rfl, F7, h7, t7⟩
            have H7 : Hid (Sc w7 F7 x c s d 4 [(y0, t0), (y1, Ta), (y2, s.begin_.turns (l2.take (j + 1)))]) := Lib.hid (by rw [HTK.out]; exact h7)
            have HI7 := Lib.hid (HI6.out.turn t7)
            have HW0 := Lib.hid (HV0.out.turn t7)
            have HW1 := Lib.hid (HV1.out.turn t7)
            clear h7 t7
            go_wp2_with fail
            go_roundw
            all_goals first
              | (simp [intOf]; omega)
              | exact ⟨j + 1, F7, by go_num, by omega, H7.out, HI7.out, HW0.out, HW1.out⟩
        · have hjl : j = l2.length := by omega
          have H8 : Hid (Sc wr F6 x c s d 4 [(y0, t0), (y1, Ta), (y2, s.begin_.turns l2)]) := Lib.hid (by have := H6.out; rw [hjl, List.take_length] at this; exact this)
          have HI8 := Lib.hid HI6.out
          have hjb : ¬ (j : Int) < l2.length := by omega
          rw [hjl, List.take_length] at hfew
          clear hjl H6 HI6
          obtain ⟨Tb, hTb⟩ : ∃ T, s.begin_.turns l2 = T := ⟨_, rfl⟩
          have HTB := Lib.hid hTb
          rw [hTb] at H8 hfew
          clear hTb
          have hfb1 := hfew.1
          have hfb2 := hfew.2
          clear hfew
          go_wp2_with fail
          refine (txscan_sc (i := 2) H8.out rfl [] 99999 (by omega) (by decide) (by decide)).mono ?_
          rintro e we ⟨vo, rfl, po, fo, bo⟩
          have HE := Lib.hid (H8.out.below bo)
          have HIE := Lib.hid (HI8.out.below bo)
          have HWE := Lib.hid (HV0.out.below bo)
          have HME := Lib.hid (HV1.out.below bo)
          have HOE : Hid (KeptP we F6 vo (Sto.scan Tb.now [] 99999)) := Lib.hid ⟨po, fun g hg => ⟨fun e => by have h1 := H8.out.lt g e; have h2 := fo g hg; omega, po.blk hg⟩⟩
          clear po fo bo H8 HI8 HV0 HV1
          have hwa : Ta.was = s.ps := by rw [← HTA.out]; exact (TS.turns_len l1 s.begin_).2.1
          have hwb : Tb.was = s.ps := by rw [← HTB.out]; exact (TS.turns_len l2 s.begin_).2.1
          have hub : Tb.turn = s.turn := by rw [← HTB.out]; exact (TS.turns_len l2 s.begin_).2.2.1
          have hob : Tb.over = false := by rw [← HTB.out]; exact (TS.turns_len l2 s.begin_).2.2.2
          have HGT := Lib.hid (And.intro (HE.out.goodT (i := 1) rfl).1 (HE.out.goodT (i := 2) rfl).1)
          obtain ⟨R2, hR2⟩ : ∃ R, s.commit Ta d = R := ⟨_, rfl⟩
          obtain ⟨s2, d2, e1⟩ := R2
          have HG2 : Hid (s2.l.g ≤ 3 ∧ s2.l.n ≤ 2 ∧ s2.turn ≤ 2) := Lib.hid (by
            have h1 := commit_g (s := s) (t := Ta) (d := d)
            have h2 := commit_small (s := s) (t := Ta) (d := d)
            rw [hR2] at h1 h2
            have h3 := HSM.out
            simp only at h1 h2
            exact ⟨by omega, by omega, by omega⟩)
          have HEQ : Hid (∀ (s3 : SS) (d3 : DS), s2.commit Tb d2 = (s3, d3, 0) → s3.ps = Tb.now) := Lib.hid (by
            intro s3 d3 h3
            have h4 : (s2.commit Tb d2).2.2 = 0 := by rw [h3]
            have hturn : s2.turn = s.turn := by
              rcases SS.commit_cases s2 Tb d2 with ⟨a, _⟩ | ⟨_, a, _⟩ | ⟨_, a, _⟩
              · exact absurd h4 a
              · exact a.trans hub
              · exact a.trans hub
            have hps : s2.ps = s.ps := by
              have := SS.commit_turn (s := s) (t := Ta) (d := d) (by rw [hR2]; exact hturn)
              rw [hR2] at this
              exact this
            have := SS.commit_now (s := s2) (t := Tb) (d := d2) (hwb.trans hps.symm) (by rw [hps]; exact HG.out.2.1.rise) HGT.out.2.rise h4
            rw [h3] at this
            exact this)
          have hco := commit_sc (i := 1) HE.out rfl (by decide) (by have := HSM.out.1; omega) (by have := HSM.out.2.1; omega) (by omega) (by rw [hwa]; exact few_fits' HG.out.2.2) (by have := HSM.out.2.2; omega)
          rw [hR2] at hco
          have HCO := Lib.hid hco
          have HR2 := Lib.hid hR2
          clear hco hR2
          go_wp2_with fail
          refine HCO.out.mono ?_
          rintro e wg ⟨rfl, FG, hg2, tg2, _⟩
          have HGG := Lib.hid hg2
          have HIG := Lib.hid (HIE.out.turn tg2)
          have HWG := Lib.hid (HWE.out.turn tg2)
          have HMG := Lib.hid (HME.out.turn tg2)
          have HOG := Lib.hid (HOE.out.turn tg2)
          clear hg2 tg2 HCO HE HIE HWE HME HOE
          go_wp2_with fail
          refine (scan_sc HGG.out [] 99999 (by decide) (by decide)).mono ?_
          rintro e wn ⟨vn, rfl, pn, fn, bn⟩
          have HN : Hid (Sc wn FG x c s2 d2 6 [(y0, t0), (y1, Ta.ended), (y2, Tb)]) := Lib.hid (HGG.out.below bn)
          have HIN := Lib.hid (HIG.out.below bn)
          have HWN := Lib.hid (HWG.out.below bn)
          have HMN := Lib.hid (HMG.out.below bn)
          have HON := Lib.hid (HOG.out.below bn)
          have HNN : Hid (KeptP wn FG vn s2.ps) := Lib.hid (by
            have e2 : Sto.scan s2.ps [] (99999 : Int).toNat = s2.ps := scan_whole (by have := few_fits' HGG.out.good.2.2; show _ ≤ 99999; omega)
            rw [e2] at pn
            exact ⟨pn, fun g hg => ⟨fun e => by have h1 := HGG.out.lt g e; have h2 := fn g hg; omega, pn.blk hg⟩⟩)
          clear pn fn bn HGG HIG HWG HMG HOG
          by_cases he : e1 = 0
          · subst he
            have hnow : s2.ps = Ta.now := by
              have := SS.commit_now (s := s) (t := Ta) (d := d) hwa HG.out.2.1.rise HGT.out.1.rise (by rw [HR2.out])
              rw [HR2.out] at this
              exact this
            have hsc : Sto.scan Ta.now [] 99999 = s2.ps := by
              have := HN.out.good.2.2
              rw [← hnow]
              exact scan_whole (by have := few_fits' this; omega)
            rw [hsc] at HMN
            clear hsc
            have HNOW := Lib.hid hnow
            clear hnow
            go_wp2_with fail
            refine (rsame11_any vn v9 s2.ps s2.ps wn HNN.out.pairs HMN.out.pairs).mono ?_
            rw [show decide (s2.ps = s2.ps) = true from decide_eq_true rfl]
            rintro e wp ⟨rfl, bp⟩
            replace HN := Lib.hid (HN.out.below bp)
            replace HIN := Lib.hid (HIN.out.below bp)
            replace HWN := Lib.hid (HWN.out.below bp)
            replace HMN := Lib.hid (HMN.out.below bp)
            replace HON := Lib.hid (HON.out.below bp)
            replace HNN := Lib.hid (HNN.out.below bp)
            clear bp
            obtain ⟨R3, hR3⟩ : ∃ R, s2.commit Tb d2 = R := ⟨_, rfl⟩
            obtain ⟨s3, d3, f⟩ := R3
            have hco := commit_sc (i := 2) HN.out rfl (by decide) (by have := HG2.out.1; omega) (by have := HG2.out.2.1; omega) (by omega) hfb2 (by have := HG2.out.2.2; omega)
            rw [hR3] at hco
            have HR3 := Lib.hid hR3
            have HCO3 := Lib.hid hco
            clear hco hR3
            go_wp2_with fail
            refine HCO3.out.mono ?_
            rintro e wu ⟨rfl, FU, hu, tu, _⟩
            have HU := Lib.hid hu
            have HIU := Lib.hid (HIN.out.turn tu)
            have HWU := Lib.hid (HWN.out.turn tu)
            have HMU := Lib.hid (HMN.out.turn tu)
            have HOU := Lib.hid (HON.out.turn tu)
            have HNU := Lib.hid (HNN.out.turn tu)
            clear hu tu HCO3 HN HIN HWN HMN HON HNN
            by_cases hmw : s2.ps = s.ps
            · have HM2 := Lib.hid (hmw ▸ HMU.out)
              go_wp2_with fail
              refine (rsame11_any v9 v5 s2.ps s.ps wu HMU.out.pairs HWU.out.pairs).mono ?_
              rw [decide_eq_true hmw]
              rintro e wq ⟨rfl, bq⟩
              replace HU := Lib.hid (HU.out.below bq)
              replace HIU := Lib.hid (HIU.out.below bq)
              replace HOU := Lib.hid (HOU.out.below bq)
              replace HNU := Lib.hid (HNU.out.below bq)
              clear bq HM2 HMU HWU hmw
              by_cases hf : f = 0
              · subst hf
                have hps : s3.ps = Tb.now := HEQ.out _ _ HR3.out
                have hfit := HU.out.good.2.2
                have HS3 : Hid (Sto.scan s3.ps [] (99999 : Int).toNat = Tb.now) := Lib.hid (by rw [scan_whole (by have := few_fits' hfit; show _ ≤ 99999; omega)]; exact hps)
                have HOU2 : Hid (KeptP wq FU vo Tb.now) := Lib.hid (by
                  have h1 := HOU.out
                  rw [hps] at hfit
                  rw [scan_whole (l := Tb.now) (by have := few_fits' hfit; show _ ≤ 99999; omega)] at h1
                  exact h1)
                clear hps hfit
                go_wp2_with fail
                refine (scan_sc HU.out [] 99999 (by decide) (by decide)).mono ?_
                rintro e wy ⟨vy, rfl, py, _, by_⟩
                have HY := Lib.hid (HIU.out.below by_)
                have HKY := Lib.hid (HOU2.out.below by_)
                have HPY : Hid (PairsAt wy vy Tb.now) := Lib.hid (by have e1 : Sto.scan s3.ps [] (99999 : Int).toNat = Tb.now := HS3.out; rw [e1] at py; exact py)
                clear py by_
                go_wp2_with fail
                refine (rsame11_any vy vo Tb.now Tb.now wy HPY.out HKY.out.pairs).mono ?_
                rw [show decide (Tb.now = Tb.now) = true from decide_eq_true rfl]
                rintro e wz ⟨rfl, bz⟩
                have HZ := Lib.hid (HY.out.below bz)
                clear bz HY HKY HPY
                go_wp2_with fail
                refine (fixed11_any wz).mono ?_
                rintro e wf ⟨rfl, bf⟩
                have HF := Lib.hid (HZ.out.below bf)
                clear bf
                go_wp2
                go_ret
                exact ⟨rfl, HF.out.old⟩
              · have hfb : (f != 0) = true := by simp [hf]
                have hps : s3.ps = s2.ps := by
                  have := SS.commit_same (s := s2) (t := Tb) (d := d2) (by rw [HR3.out]; exact hf)
                  rw [HR3.out] at this
                  exact this
                have hfit := HU.out.good.2.2
                have HS3 : Hid (Sto.scan s3.ps [] (99999 : Int).toNat = s2.ps) := Lib.hid (by rw [scan_whole (by have := few_fits' hfit; show _ ≤ 99999; omega)]; exact hps)
                clear hps hfit
                go_wp2_with fail
                refine (scan_sc HU.out [] 99999 (by decide) (by decide)).mono ?_
                rintro e wy ⟨vy, rfl, py, _, by_⟩
                have HY := Lib.hid (HIU.out.below by_)
                have HKY := Lib.hid (HNU.out.below by_)
                have HPY : Hid (PairsAt wy vy s2.ps) := Lib.hid (by have e1 : Sto.scan s3.ps [] (99999 : Int).toNat = s2.ps := HS3.out; rw [e1] at py; exact py)
                clear py by_
                go_wp2_with fail
                refine (rsame11_any vy vn s2.ps s2.ps wy HPY.out HKY.out.pairs).mono ?_
                rw [show decide (s2.ps = s2.ps) = true from decide_eq_true rfl]
                rintro e wz ⟨rfl, bz⟩
                have HZ := Lib.hid (HY.out.below bz)
                clear bz HY HKY HPY
                go_wp2_with fail
                refine (fixed11_any wz).mono ?_
                rintro e wf ⟨rfl, bf⟩
                have HF := Lib.hid (HZ.out.below bf)
                clear bf
                go_wp2
                go_ret
                exact ⟨rfl, HF.out.old⟩
            · have hf114 : f = 114 := by
                have := SS.commit_two (s := s) (t := Ta) (u := Tb) (d := d) (e := d2) hwa HG.out.2.1.rise HGT.out.1.rise hub hob (by rw [HR2.out]) (fun e => hmw (by rw [HNOW.out]; exact e))
                rw [HR2.out] at this
                simp only at this
                rw [HR3.out] at this
                exact this
              subst hf114
              go_wp2_with fail
              refine (rsame11_any v9 v5 s2.ps s.ps wu HMU.out.pairs HWU.out.pairs).mono ?_
              rw [decide_eq_false hmw]
              rintro e wq ⟨rfl, bq⟩
              replace HU := Lib.hid (HU.out.below bq)
              replace HIU := Lib.hid (HIU.out.below bq)
              replace HOU := Lib.hid (HOU.out.below bq)
              replace HNU := Lib.hid (HNU.out.below bq)
              clear bq HMU HWU hmw
              have hps : s3.ps = s2.ps := by
                have := SS.commit_same (s := s2) (t := Tb) (d := d2) (by rw [HR3.out]; exact fun e => by cases e)
                rw [HR3.out] at this
                exact this
              have hfit := HU.out.good.2.2
              have HS3 : Hid (Sto.scan s3.ps [] (99999 : Int).toNat = s2.ps) := Lib.hid (by rw [scan_whole (by have := few_fits' hfit; show _ ≤ 99999; omega)]; exact hps)
              clear hps hfit
              go_wp2_with fail
              refine (scan_sc HU.out [] 99999 (by decide) (by decide)).mono ?_
              rintro e wy ⟨vy, rfl, py, _, by_⟩
              have HY := Lib.hid (HIU.out.below by_)
              have HKY := Lib.hid (HNU.out.below by_)
              have HPY : Hid (PairsAt wy vy s2.ps) := Lib.hid (by have e1 : Sto.scan s3.ps [] (99999 : Int).toNat = s2.ps := HS3.out; rw [e1] at py; exact py)
              clear py by_
              go_wp2_with fail
              refine (rsame11_any vy vn s2.ps s2.ps wy HPY.out HKY.out.pairs).mono ?_
              rw [show decide (s2.ps = s2.ps) = true from decide_eq_true rfl]
              rintro e wz ⟨rfl, bz⟩
              have HZ := Lib.hid (HY.out.below bz)
              clear bz HY HKY HPY
              go_wp2_with fail
              refine (fixed11_any wz).mono ?_
              rintro e wf ⟨rfl, bf⟩
              have HF := Lib.hid (HZ.out.below bf)
              clear bf
              go_wp2
              go_ret
              exact ⟨rfl, HF.out.old⟩
          · have hne0 : (e1 != 0) = true := by simp [he]
            have heq0 : (e1 == 0) = false := by simp [he]
            have hsame : s2.ps = s.ps := by
              have := SS.commit_same (s := s) (t := Ta) (d := d) (by rw [HR2.out]; exact he)
              rw [HR2.out] at this
              exact this
            go_wp2_with fail
            refine (rsame11_any vn v5 s2.ps s.ps wn HNN.out.pairs HWN.out.pairs).mono ?_
            rw [decide_eq_true hsame]
            rintro e wp ⟨rfl, bp⟩
            replace HN := Lib.hid (HN.out.below bp)
            replace HIN := Lib.hid (HIN.out.below bp)
            replace HWN := Lib.hid (HWN.out.below bp)
            replace HMN := Lib.hid (HMN.out.below bp)
            replace HON := Lib.hid (HON.out.below bp)
            replace HNN := Lib.hid (HNN.out.below bp)
            clear bp hsame
            obtain ⟨R3, hR3⟩ : ∃ R, s2.commit Tb d2 = R := ⟨_, rfl⟩
            obtain ⟨s3, d3, f⟩ := R3
            have hco := commit_sc (i := 2) HN.out rfl (by decide) (by have := HG2.out.1; omega) (by have := HG2.out.2.1; omega) (by omega) hfb2 (by have := HG2.out.2.2; omega)
            rw [hR3] at hco
            have HR3 := Lib.hid hR3
            have HCO3 := Lib.hid hco
            clear hco hR3
            go_wp2_with fail
            refine HCO3.out.mono ?_
            rintro e wu ⟨rfl, FU, hu, tu, _⟩
            have HU := Lib.hid hu
            have HIU := Lib.hid (HIN.out.turn tu)
            have HWU := Lib.hid (HWN.out.turn tu)
            have HMU := Lib.hid (HMN.out.turn tu)
            have HOU := Lib.hid (HON.out.turn tu)
            have HNU := Lib.hid (HNN.out.turn tu)
            clear hu tu HCO3 HN HIN HWN HMN HON HNN
            by_cases hf : f = 0
            · subst hf
              have hps : s3.ps = Tb.now := HEQ.out _ _ HR3.out
              have hfit := HU.out.good.2.2
              have HS3 : Hid (Sto.scan s3.ps [] (99999 : Int).toNat = Tb.now) := Lib.hid (by rw [scan_whole (by have := few_fits' hfit; show _ ≤ 99999; omega)]; exact hps)
              have HOU2 : Hid (KeptP wu FU vo Tb.now) := Lib.hid (by
                have h1 := HOU.out
                rw [hps] at hfit
                rw [scan_whole (l := Tb.now) (by have := few_fits' hfit; show _ ≤ 99999; omega)] at h1
                exact h1)
              clear hps hfit
              go_wp2_with fail
              refine (scan_sc HU.out [] 99999 (by decide) (by decide)).mono ?_
              rintro e wy ⟨vy, rfl, py, _, by_⟩
              have HY := Lib.hid (HIU.out.below by_)
              have HKY := Lib.hid (HOU2.out.below by_)
              have HPY : Hid (PairsAt wy vy Tb.now) := Lib.hid (by have e1 : Sto.scan s3.ps [] (99999 : Int).toNat = Tb.now := HS3.out; rw [e1] at py; exact py)
              clear py by_
              go_wp2_with fail
              refine (rsame11_any vy vo Tb.now Tb.now wy HPY.out HKY.out.pairs).mono ?_
              rw [show decide (Tb.now = Tb.now) = true from decide_eq_true rfl]
              rintro e wz ⟨rfl, bz⟩
              have HZ := Lib.hid (HY.out.below bz)
              clear bz HY HKY HPY
              go_wp2_with fail
              refine (fixed11_any wz).mono ?_
              rintro e wf ⟨rfl, bf⟩
              have HF := Lib.hid (HZ.out.below bf)
              clear bf
              go_wp2
              go_ret
              exact ⟨rfl, HF.out.old⟩
            · have hfb : (f != 0) = true := by simp [hf]
              have hps : s3.ps = s2.ps := by
                have := SS.commit_same (s := s2) (t := Tb) (d := d2) (by rw [HR3.out]; exact hf)
                rw [HR3.out] at this
                exact this
              have hfit := HU.out.good.2.2
              have HS3 : Hid (Sto.scan s3.ps [] (99999 : Int).toNat = s2.ps) := Lib.hid (by rw [scan_whole (by have := few_fits' hfit; show _ ≤ 99999; omega)]; exact hps)
              clear hps hfit
              go_wp2_with fail
              refine (scan_sc HU.out [] 99999 (by decide) (by decide)).mono ?_
              rintro e wy ⟨vy, rfl, py, _, by_⟩
              have HY := Lib.hid (HIU.out.below by_)
              have HKY := Lib.hid (HNU.out.below by_)
              have HPY : Hid (PairsAt wy vy s2.ps) := Lib.hid (by have e1 : Sto.scan s3.ps [] (99999 : Int).toNat = s2.ps := HS3.out; rw [e1] at py; exact py)
              clear py by_
              go_wp2_with fail
              refine (rsame11_any vy vn s2.ps s2.ps wy HPY.out HKY.out.pairs).mono ?_
              rw [show decide (s2.ps = s2.ps) = true from decide_eq_true rfl]
              rintro e wz ⟨rfl, bz⟩
              have HZ := Lib.hid (HY.out.below bz)
              clear bz HY HKY HPY
              go_wp2_with fail
              refine (fixed11_any wz).mono ?_
              rintro e wf ⟨rfl, bf⟩
              have HF := Lib.hid (HZ.out.below bf)
              clear bf
              go_wp2
              go_ret
              exact ⟨rfl, HF.out.old⟩
end Go.Proofs.YtpjpknndfhablaaGreat
namespace Go.Proofs.YtpjpknndfhablaaGreat
open Go.ChangeShapes Go.WideShapes Go.ChangeAt Go.RowKit Go.Deep
theorem bulk_bound {H : Type} {l : List (DataW H)} (hk : Rows.uptoSmall H l = true) : Rows.uptoBulkAll l ≤ 1048576 := of_decide_eq_true hk
set_option maxRecDepth 100000 in
theorem storeApart_contract (H : Type) (enc : TypeId × Value → H) (W : World) (base : Nat) (args : Array Value) (ds gs : List (DataW H)) (before : List MemPlace)
    (hval : ∀ (j : Nat) t v, Tryz.f4.params[j]? = some t → args[j]? = some v → Value.okWide Tryz.prog W .any base t v)
    (hW : DataW.Whole enc Tryz.prog Tryz.f4.params.toList Rows.storeApartSpec.vars false W args.toList ds gs before)
    (hbulk : Rows.uptoBulkAll (ds ++ gs) ≤ 1048576)
    (hsz : (DataW.weightsEach Tryz.prog (Tryz.f4.params.toList ++ Rows.storeApartSpec.plain.varTypes Tryz.prog) (ds ++ gs)).all (· ≤ reachBytes) = true) :
    Calls Tryz.prog 4 args W fun e W' => ∃ v, e = .returned v ∧ Rows.storeApartSpec.post enc Tryz.prog Tryz.f4 false true false false W args v W' := by
  have hW' := hW
  obtain ⟨p, q, hA0, hV, rfl, _, _⟩ := hW
  have hA : DataW.TrodAll enc Tryz.prog W 0 (fun _ => true) true Tryz.f4.params.toList args.toList ds p := hA0
  rw [Tryz.params4] at hA hval hsz
  obtain ⟨v0, v1, v2, d0, d1, d2, p0, p1, p2, rfl, rfl, rfl, h0, h1, h2⟩ := trodAll_three hA
  obtain ⟨rfl, rfl⟩ := trodVars_none hV
  obtain ⟨a0, n0, c0, rfl⟩ := okWide_slice Tryz.underlying48 (hval 0 48 v0 rfl rfl)
  obtain ⟨a1, n1, c1, rfl⟩ := okWide_slice Tryz.underlying48 (hval 1 48 v1 rfl rfl)
  obtain ⟨a2, n2, c2, rfl⟩ := okWide_slice Tryz.underlying48 (hval 2 48 v2 rfl rfl)
  have hb0 : Rows.uptoBulk d0 ≤ 1048576 := Nat.le_trans (bulk_part (by simp)) hbulk
  have hb1 : Rows.uptoBulk d1 ≤ 1048576 := Nat.le_trans (bulk_part (by simp)) hbulk
  have hb2 : Rows.uptoBulk d2 ≤ 1048576 := Nat.le_trans (bulk_part (by simp)) hbulk
  obtain ⟨f0, g0⟩ := h0
  obtain ⟨f1, g1⟩ := h1
  obtain ⟨f2, g2⟩ := h2
  obtain ⟨_, _, _, l0, e0, hl0, hc0⟩ := open_changes (y := (d0, p0)) (weights_of hsz (j := 0) rfl rfl) hb0 g0
  obtain ⟨_, _, _, l1, e1, hl1, hc1⟩ := open_changes (y := (d1, p1)) (weights_of hsz (j := 1) rfl rfl) hb1 g1
  obtain ⟨_, _, _, l2, e2, hl2, hc2⟩ := open_changes (y := (d2, p2)) (weights_of hsz (j := 2) rfl rfl) hb2 g2
  simp [Value.cells] at e0 e1 e2
  obtain ⟨rfl, rfl, rfl⟩ := e0
  obtain ⟨rfl, rfl, rfl⟩ := e1
  obtain ⟨rfl, rfl, rfl⟩ := e2
  subst hl0; subst hl1; subst hl2
  have h0 : DataW.Trod enc Tryz.prog W 0 (fun _ => true) true _ _ d0 p0 := ⟨f0, g0⟩
  have h1 : DataW.Trod enc Tryz.prog W 0 (fun _ => true) true _ _ d1 p1 := ⟨f1, g1⟩
  have h2 : DataW.Trod enc Tryz.prog W 0 (fun _ => true) true _ _ d2 p2 := ⟨f2, g2⟩
  clear hA0
  simp only [List.append_nil] at hW'
  have hlt0 : ∀ x ∈ p0, x.block < W.heap.size := fun x hx => hW'.lt x (by simp [hx])
  have hlt1 : ∀ x ∈ p1, x.block < W.heap.size := fun x hx => hW'.lt x (by simp [hx])
  have hlt2 : ∀ x ∈ p2, x.block < W.heap.size := fun x hx => hW'.lt x (by simp [hx])
  refine (storeApart_any W a0 a1 a2 c0 c1 c2 l0 l1 l2 hc0 hc1 hc2).mono fun e W' ⟨he, hnx⟩ => ?_
  subst he
  refine ⟨_, rfl, _, _, _, [], p0 ++ (p1 ++ p2), [], hW', ?_, ?_, rfl, hnx.frame _, fun h => by cases h⟩
  · exact trodAll_mk1 (shut_bool Tryz.underlying4 true)
  · exact trodAll_mk3 (Below.trod Tryz.laidOut (by kernel_rfl) (of_decide_eq_true (by kernel_rfl)) h0 hnx hlt0) (Below.trod Tryz.laidOut (by kernel_rfl) (of_decide_eq_true (by kernel_rfl)) h1 hnx hlt1) (Below.trod Tryz.laidOut (by kernel_rfl) (of_decide_eq_true (by kernel_rfl)) h2 hnx hlt2)
set_option maxRecDepth 100000 in
theorem storeApart_upto (os : Os) (started : os.Started) (H : Type) (enc : TypeId × Value → H) (F : Stop.Interp) :
    ReturnsInHanded {} Tryz.checked os 4 .any ((Rows.OpenSpec.upto Rows.storeApartSpec).pre6 enc Tryz.prog Tryz.f4 Rows.storeApartUptoRow.domain false) (((Rows.OpenSpec.upto Rows.storeApartSpec).at F).post enc Tryz.prog Tryz.f4 false true false false) := by
  refine returnsInHanded_of_cond_sized (C := Tryz.checked) (s := Rows.OpenSpec.upto Rows.storeApartSpec) (k := Rows.uptoSmall) rfl Tryz.own started (by kernel_rfl) Tryz.func4
    (OpenSpec.witness (enc := enc) (C := Tryz.checked) (s := Rows.OpenSpec.upto Rows.storeApartSpec) (k := Rows.uptoSmall) rfl false ⟨#[], #[.slice none 0 0, .slice none 0 0, .slice none 0 0], []⟩ 8 (by kernel_rfl) (by kernel_rfl) (by kernel_rfl)
      (x := ([.nil, .nil, .nil], [], [])) (by kernel_rfl) rfl (by kernel_rfl)) ?_
  intro W base args ds gs before hval hW _ hk hsz _
  exact storeApart_contract H enc W base args ds gs before hval hW (bulk_bound hk) hsz
theorem storeApart_upto_holds : Rows.StoreApartUptoSaid :=
  OpenClaim.holds_of_cond 4 Tryz.f4 rfl rfl rfl rfl rfl rfl rfl ⟨rfl, rfl, rfl, rfl, rfl⟩ rfl rfl rfl rfl rfl (by kernel_rfl) Tryz.func4 (by kernel_rfl)
    (of_decide_eq_true (by kernel_rfl)) (by unfold Func.isWrapper; first | (rw [if_pos (by decide +kernel)]; kernel_rfl) | (rw [if_neg (by decide +kernel)]; exact ⟨rfl, rfl⟩))
    (fun os started H enc _ F => storeApart_upto os started H enc F)
end Go.Proofs.YtpjpknndfhablaaGreat
