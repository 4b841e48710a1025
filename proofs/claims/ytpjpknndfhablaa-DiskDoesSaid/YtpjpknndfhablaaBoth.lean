/- Disks of the program and of the document side by side: herds of them, and what a call on one of them leaves. -/
import Derived.Test.YtpjpknndfhablaaPair
import Derived.Test.YtpjpknndfhablaaLawD
namespace Go.Proofs.Ytpjpknndfhablaa
open Go.RowKit

/-- Whatever is no document's disk lies as it lay. -/
def NotRef (o : Obj) : Prop := ∀ c f, o ≠ .cells c 75 f
def KeepsNR (w w' : World) : Prop := ∀ (g : Nat) (o : Obj), w.heap[g]? = some o → NotRef o → w'.heap[g]? = some o
theorem keepsNR_of_touch {w w' : World} {y : Nat} {g : DS} {ub : Option Nat} (h : RefAt w y g ub) (ht : Touch (· = y) w w') : KeepsNR w w' := by
  intro b o hb hn
  refine (ht.block b (heap_lt hb) ?_).trans hb
  obtain ⟨_, us, h, rfl⟩ := h
  rintro rfl
  have := h.blk; rw [hb] at this
  exact hn _ _ (Option.some.inj this)
theorem own_keeps {T : Obj → Prop} {w w' : World} {base e size n : Nat} {v : Value} {xs : List Value} (h : w.ownsRow base e size v n xs) (hk : ∀ (g : Nat) (o : Obj), w.heap[g]? = some o → T o → w'.heap[g]? = some o) (hT : ∀ c, T (.cells c e (0, 0))) : w'.ownsRow base e size v n xs := by
  refine ⟨h.1, ?_⟩
  rcases h.2 with h0 | ⟨g, cap, cur, rfl, hb, hg, rest⟩
  · exact .inl h0
  · exact .inr ⟨g, cap, cur, rfl, hb, hk g _ hg (hT _), rest⟩
theorem RefAt.keeps {w w' : World} {y : Nat} {d : DS} {ub : Option Nat} (h : RefAt w y d ub) (hk : KeepsND w w') : RefAt w' y d ub := by
  obtain ⟨ok, us, h, rfl⟩ := h
  exact ⟨ok, us, ⟨hk _ _ h.blk (fun c f => ⟨by simp [refBlock], by simp [refBlock]⟩), own_keeps h.own hk (fun _ c f => ⟨by simp, by simp⟩)⟩, rfl⟩
theorem DiskAt.keepsNR {w w' : World} {c : Nat} {d : DS} {m : Nat} {rb : Option Nat} (h : DiskAt w c d m rb) (hk : KeepsNR w w') : DiskAt w' c d m rb := by
  obtain ⟨ok, rs, r, h, hm, rfl⟩ := h
  exact ⟨ok, rs, r, ⟨hk _ _ h.blk (fun c f => by simp [diskBlock]), own_keeps h.own hk (fun _ c f => by simp), h.u⟩, hm, rfl⟩
/-- Whatever is no disk's, the program's or the document's, lies as it lay. -/
def KeepsX (w w' : World) : Prop := ∀ (g : Nat) (o : Obj), w.heap[g]? = some o → NotDisk o → NotRef o → w'.heap[g]? = some o
theorem KeepsX.of_nd {w w' : World} (h : KeepsND w w') : KeepsX w w' := fun g o hg hn _ => h g o hg hn
theorem KeepsX.of_nr {w w' : World} (h : KeepsNR w w') : KeepsX w w' := fun g o hg _ hn => h g o hg hn
theorem KeepsX.trans {w w1 w2 : World} (h : KeepsX w w1) (h' : KeepsX w1 w2) : KeepsX w w2 := fun g o hg hn hr => h' g o (h g o hg hn hr) hn hr
theorem KeepsX.below {w w' : World} (h : Below w.heap.size w w') : KeepsX w w' := .of_nd (.below h)
theorem KeepsX.own {w w' : World} {base e size n : Nat} {v : Value} {xs : List Value} (h : w.ownsRow base e size v n xs) (hk : KeepsX w w') (h1 : e ≠ 103) (h2 : e ≠ 106) (h3 : e ≠ 75) : w'.ownsRow base e size v n xs :=
  own_keeps (T := fun o => NotDisk o ∧ NotRef o) h (fun g o hg hn => hk g o hg hn.1 hn.2) (fun c => ⟨fun c' f => ⟨by simp [h1], by simp [h2]⟩, fun c' f => by simp [h3]⟩)
theorem KeepsX.cells {w w' : World} {g : Nat} {cs : Array Value} {t : TypeId} {f : Nat × Nat} (h : w.heap[g]? = some (.cells cs t f)) (hk : KeepsX w w') (h1 : t ≠ 103) (h2 : t ≠ 106) (h3 : t ≠ 75) : w'.heap[g]? = some (.cells cs t f) :=
  hk g _ h (fun c' f => ⟨by simp [h1], by simp [h2]⟩) (fun c' f => by simp [h3])
theorem Two.keepsX {w w' : World} {g : Nat} {s t : List UInt8} (h : Two w g s t) (hk : KeepsX w w') : Two w' g s t := by
  obtain ⟨cur, hg, h0, h1⟩ := h
  exact ⟨cur, hk.cells hg (by decide) (by decide) (by decide), h0, h1⟩

/-- A disk of the program and one of the document: where they lie and how they stand. -/
structure Ent where
  c : Nat
  rb : Option Nat
  y : Nat
  ub : Option Nat
  d : DS
  g : DS
/-- In w: such pairs, all made since w0, no block that is written in common. -/
structure Herd (w0 w : World) (L : List Ent) (m : Nat) : Prop where
  old : Below w0.heap.size w0 w
  one : ∀ (i : Nat) (e : Ent), L[i]? = some e → DiskAt w e.c e.d m e.rb ∧ RefAt w e.y e.g e.ub
  lo : ∀ (i : Nat) (e : Ent), L[i]? = some e → w0.heap.size ≤ e.c ∧ w0.heap.size ≤ e.y ∧ ∀ k, e.rb = some k → w0.heap.size ≤ k
  apart : ∀ (i j : Nat) (e f : Ent), L[i]? = some e → L[j]? = some f → i ≠ j → e.c ≠ f.c ∧ e.y ≠ f.y ∧ ∀ k, e.rb = some k → f.rb ≠ some k
theorem Herd.below {w0 w w' : World} {L : List Ent} {m : Nat} (h : Herd w0 w L m) (hb : Below w.heap.size w w') : Herd w0 w' L m :=
  ⟨h.old.trans (hb.mono h.old.size), fun i e hi => ⟨(h.one i e hi).1.below hb, (h.one i e hi).2.below hb⟩, h.lo, h.apart⟩
theorem Herd.mono {w0 w : World} {L : List Ent} {m n : Nat} (h : Herd w0 w L m) (hmn : m ≤ n) : Herd w0 w L n :=
  ⟨h.old, fun i e hi => ⟨(h.one i e hi).1.mono hmn, (h.one i e hi).2⟩, h.lo, h.apart⟩
theorem set_cases {α : Type} {L : List α} {i j : Nat} {x e : α} (h : (L.set i x)[j]? = some e) : (j = i ∧ e = x) ∨ (j ≠ i ∧ L[j]? = some e) := by
  by_cases hij : j = i
  · subst hij
    rw [List.getElem?_set_self'] at h
    cases hL : L[j]? with
    | none => rw [hL] at h; cases h
    | some y => rw [hL] at h; exact .inl ⟨rfl, (Option.some.inj h).symm⟩
  · rw [List.getElem?_set_ne (fun e => hij e.symm)] at h
    exact .inr ⟨hij, h⟩
theorem Herd.turnD {w0 w w' : World} {L : List Ent} {m m' : Nat} (h : Herd w0 w L m) {i : Nat} {e : Ent} (hi : L[i]? = some e) {d' : DS} {rb' : Option Nat} (h1 : DiskAt w' e.c d' m' rb') (hn : Newer w e.rb rb') (ht : Touch (own2 e.c e.rb) w w') (hm : m ≤ m') :
    Herd w0 w' (L.set i { e with d := d', rb := rb' }) m' := by
  have hk : KeepsND w w' := keeps_of_touch (h.one i e hi).1 ht
  have hold : Below w0.heap.size w0 w' := h.old.trans (ht.below h.old.size fun k hk ho => by
    obtain ⟨l1, l2, l3⟩ := h.lo i e hi
    rcases ho with rfl | ho
    · omega
    · have := l3 k ho; omega)
  refine ⟨hold, fun j f hj => ?_, fun j f hj => ?_, fun j k f f' hj hk' hjk => ?_⟩
  · rcases set_cases hj with ⟨rfl, rfl⟩ | ⟨hji, hj2⟩
    · exact ⟨h1, (h.one _ e hi).2.keeps hk⟩
    · refine ⟨((h.one j f hj2).1.touch ht fun k hk ho => ?_).mono hm, (h.one j f hj2).2.keeps hk⟩
      obtain ⟨a1, a2, a3⟩ := h.apart j i f e hj2 hi hji
      rcases hk with rfl | hk
      · rcases ho with ho | ho
        · exact a1 ho
        · exact disk_not_row (h.one i e hi).1 (h.one j f hj2).1 ho
      · rcases ho with rfl | ho
        · exact disk_not_row (h.one j f hj2).1 (h.one i e hi).1 hk
        · exact a3 k hk ho
  · rcases set_cases hj with ⟨rfl, rfl⟩ | ⟨hji, hj2⟩
    · obtain ⟨l1, l2, l3⟩ := h.lo _ e hi
      refine ⟨l1, l2, fun k hk => ?_⟩
      rcases hn k hk with h2 | h2
      · exact l3 k h2
      · exact Nat.le_trans h.old.size h2
    · exact h.lo j f hj2
  · have hnew : ∀ (q : Nat) (f : Ent), L[q]? = some f → q ≠ i → ∀ x, rb' = some x → f.rb ≠ some x := fun q f hq hqi x hx hf => by
      rcases hn x hx with h2 | h2
      · exact (h.apart i q e f hi hq (fun e => hqi e.symm)).2.2 x h2 hf
      · have := (h.one q f hq).1.rb_lt x hf; omega
    rcases set_cases hj with ⟨rfl, rfl⟩ | ⟨hji, hj2⟩
    · rcases set_cases hk' with ⟨rfl, rfl⟩ | ⟨hki, hk2⟩
      · exact absurd rfl hjk
      · obtain ⟨a1, a2, a3⟩ := h.apart _ k e f' hi hk2 hjk
        exact ⟨a1, a2, fun x hx => hnew k f' hk2 hki x hx⟩
    · rcases set_cases hk' with ⟨rfl, rfl⟩ | ⟨hki, hk2⟩
      · obtain ⟨a1, a2, a3⟩ := h.apart j _ f e hj2 hi hjk
        exact ⟨a1, a2, fun x hx hx' => hnew j f hj2 hji x hx' hx⟩
      · exact h.apart j k f f' hj2 hk2 hjk
theorem Herd.turnR {w0 w w' : World} {L : List Ent} {m : Nat} (h : Herd w0 w L m) {i : Nat} {e : Ent} (hi : L[i]? = some e) {g' : DS} {ub' : Option Nat} (h1 : RefAt w' e.y g' ub') (ht : Touch (· = e.y) w w') :
    Herd w0 w' (L.set i { e with g := g', ub := ub' }) m := by
  have hk : KeepsNR w w' := keepsNR_of_touch (h.one i e hi).2 ht
  have hold : Below w0.heap.size w0 w' := h.old.trans (ht.below h.old.size fun k hk ho => by
    obtain ⟨l1, l2, l3⟩ := h.lo i e hi
    subst ho; omega)
  refine ⟨hold, fun j f hj => ?_, fun j f hj => ?_, fun j k f f' hj hk' hjk => ?_⟩
  · rcases set_cases hj with ⟨rfl, rfl⟩ | ⟨hji, hj2⟩
    · exact ⟨(h.one _ e hi).1.keepsNR hk, h1⟩
    · refine ⟨(h.one j f hj2).1.keepsNR hk, (h.one j f hj2).2.touch ht fun k hk ho => ?_⟩
      obtain ⟨a1, a2, a3⟩ := h.apart j i f e hj2 hi hji
      subst ho
      rcases hk with hk | hk
      · exact a2 hk.symm
      · obtain ⟨_, us, hu, hue⟩ := (h.one j f hj2).2
        obtain ⟨_, us', hu', _⟩ := (h.one i e hi).2
        rw [← hue] at hk
        rcases hu.own.2 with ⟨hv, _⟩ | ⟨q, cap, cur, hv, _, hq, _⟩
        · rw [hv] at hk; cases hk
        · rw [hv] at hk
          have e1 : q = e.y := Option.some.inj hk
          subst e1
          have := hu'.blk; rw [hq] at this; simp [refBlock] at this
  · rcases set_cases hj with ⟨rfl, rfl⟩ | ⟨hji, hj2⟩
    · exact h.lo _ e hi
    · exact h.lo j f hj2
  · rcases set_cases hj with ⟨rfl, rfl⟩ | ⟨hji, hj2⟩
    · rcases set_cases hk' with ⟨rfl, rfl⟩ | ⟨hki, hk2⟩
      · exact absurd rfl hjk
      · exact h.apart _ k e f' hi hk2 hjk
    · rcases set_cases hk' with ⟨rfl, rfl⟩ | ⟨hki, hk2⟩
      · exact h.apart j _ f e hj2 hi hjk
      · exact h.apart j k f f' hj2 hk2 hjk
/-- The i-th of a herd: its disks lie at c and y, and stand as d and g. -/
def HerdAt (w0 w : World) (L : List Ent) (i c y : Nat) (d g : DS) (m : Nat) : Prop :=
  i < L.length ∧ ∃ e : Ent, e.c = c ∧ e.y = y ∧ e.d = d ∧ e.g = g ∧ Herd w0 w (L.set i e) m
theorem set_at {α : Type} {L : List α} {i : Nat} (h : i < L.length) (x : α) : (L.set i x)[i]? = some x := by simp [h]
theorem HerdAt.of {w0 w : World} {L : List Ent} {m : Nat} (h : Herd w0 w L m) {i : Nat} {e : Ent} (hi : L[i]? = some e) : HerdAt w0 w L i e.c e.y e.d e.g m := by
  obtain ⟨hl, he⟩ := List.getElem?_eq_some_iff.1 hi
  refine ⟨hl, e, rfl, rfl, rfl, rfl, ?_⟩
  have : L.set i e = L := by rw [← he]; exact List.set_getElem_self hl
  rw [this]; exact h
theorem HerdAt.turnD {w0 w w' : World} {L : List Ent} {i m m' : Nat} {e : Ent} (hi : i < L.length) (h : Herd w0 w (L.set i e) m) {d' : DS} {rb' : Option Nat} (h1 : DiskAt w' e.c d' m' rb') (hn : Newer w e.rb rb') (ht : Touch (own2 e.c e.rb) w w') (hm : m ≤ m') :
    HerdAt w0 w' L i e.c e.y d' e.g m' :=
  ⟨hi, { e with d := d', rb := rb' }, rfl, rfl, rfl, rfl, by have := h.turnD (set_at hi e) h1 hn ht hm; rwa [List.set_set] at this⟩
theorem HerdAt.turnR {w0 w w' : World} {L : List Ent} {i m : Nat} {e : Ent} (hi : i < L.length) (h : Herd w0 w (L.set i e) m) {g' : DS} {ub' : Option Nat} (h1 : RefAt w' e.y g' ub') (ht : Touch (· = e.y) w w') :
    HerdAt w0 w' L i e.c e.y e.d g' m :=
  ⟨hi, { e with g := g', ub := ub' }, rfl, rfl, rfl, rfl, by have := h.turnR (set_at hi e) h1 ht; rwa [List.set_set] at this⟩
section
variable {w0 w : World} {L : List Ent} {i c y : Nat} {d g : DS} {m : Nat} (h : HerdAt w0 w L i c y d g m)
include h
theorem HerdAt.below {w' : World} (hb : Below w.heap.size w w') : HerdAt w0 w' L i c y d g m := by
  obtain ⟨hi, e, a, b, p, q, h⟩ := h; exact ⟨hi, e, a, b, p, q, h.below hb⟩
theorem HerdAt.mono {n : Nat} (hmn : m ≤ n) : HerdAt w0 w L i c y d g n := by
  obtain ⟨hi, e, a, b, p, q, h⟩ := h; exact ⟨hi, e, a, b, p, q, h.mono hmn⟩
theorem HerdAt.one : ∃ rb ub, DiskAt w c d m rb ∧ RefAt w y g ub := by
  obtain ⟨hi, e, rfl, rfl, rfl, rfl, h⟩ := h
  exact ⟨_, _, h.one i e (set_at hi e)⟩
theorem HerdAt.old : Below w0.heap.size w0 w := by obtain ⟨_, _, _, _, _, _, h⟩ := h; exact h.old
theorem HerdAt.ok : d.Ok := by obtain ⟨_, _, h, _⟩ := h.one; exact h.1
theorem append_herd (f : Int) (s : List UInt8) (hs : s.length ≤ 9223372036854775807) (hm : m < 5000000000000) :
    Calls Try.prog 31 #[.pointer (some ⟨c, 0, none⟩), .int .i64 f, .string ⟨s.toArray⟩] w fun e w' => e = .returned (.int .i64 (d.append f s).2) ∧ HerdAt w0 w' L i c y (d.append f s).1 g (m + 1) ∧ KeepsX w w' := by
  obtain ⟨hi, e, rfl, rfl, rfl, rfl, h⟩ := h
  have ho := h.one i e (set_at hi e)
  exact (append_any e.c w e.d m e.rb f s ho.1 hs hm).mono fun _ w' ⟨he, rb', h', hn, ht⟩ => ⟨he, .turnD hi h h' hn ht (by omega), .of_nd (keeps_of_touch ho.1 ht)⟩
theorem sync_herd : Calls Try.prog 16 #[.pointer (some ⟨c, 0, none⟩)] w fun e w' => e = .returned (.int .i64 d.sync.2) ∧ HerdAt w0 w' L i c y d.sync.1 g m ∧ KeepsX w w' := by
  obtain ⟨hi, e, rfl, rfl, rfl, rfl, h⟩ := h
  have ho := h.one i e (set_at hi e)
  exact (sync_any e.c w e.d m e.rb ho.1).mono fun _ w' ⟨he, rb', h', hn, ht⟩ => ⟨he, .turnD hi h h' hn ht (by omega), .of_nd (keeps_of_touch ho.1 ht)⟩
theorem cut_herd (f n : Int) : Calls Try.prog 21 #[.pointer (some ⟨c, 0, none⟩), .int .i64 f, .int .i64 n] w fun e w' => e = .returned (.int .i64 (d.cut f n).2) ∧ HerdAt w0 w' L i c y (d.cut f n).1 g m ∧ KeepsX w w' := by
  obtain ⟨hi, e, rfl, rfl, rfl, rfl, h⟩ := h
  have ho := h.one i e (set_at hi e)
  exact (cut_any e.c w e.d m e.rb f n ho.1).mono fun _ w' ⟨he, rb', h', hn, ht⟩ => ⟨he, .turnD hi h h' hn ht (by omega), .of_nd (keeps_of_touch ho.1 ht)⟩
theorem crash_herd (k : Int) (hk : k ≤ 9223372036854775807) : Calls Try.prog 29 #[.pointer (some ⟨c, 0, none⟩), .int .i64 k] w fun e w' => e = .returned (.int .i64 (d.crash k).2) ∧ HerdAt w0 w' L i c y (d.crash k).1 g m ∧ KeepsX w w' := by
  obtain ⟨hi, e, rfl, rfl, rfl, rfl, h⟩ := h
  have ho := h.one i e (set_at hi e)
  exact (crash_any e.c w e.d m e.rb k ho.1 hk).mono fun _ w' ⟨he, rb', h', hn, ht⟩ => ⟨he, .turnD hi h h' hn ht (by omega), .of_nd (keeps_of_touch ho.1 ht)⟩
theorem arm_herd (n k : Int) (hn : n ≤ 9223372036854775807) (hk : k ≤ 9223372036854775807) : Calls Try.prog 30 #[.pointer (some ⟨c, 0, none⟩), .int .i64 n, .int .i64 k] w fun e w' => e = .returned (.int .i64 (d.arm n k).2) ∧ HerdAt w0 w' L i c y (d.arm n k).1 g m ∧ KeepsX w w' := by
  obtain ⟨hi, e, rfl, rfl, rfl, rfl, h⟩ := h
  have ho := h.one i e (set_at hi e)
  exact (arm_any e.c w e.d m e.rb n k ho.1 hn hk).mono fun _ w' ⟨he, h', ht⟩ => ⟨he, .turnD hi h h' (Newer.refl _ _) ht (Nat.le_refl _), .of_nd (keeps_of_touch ho.1 ht)⟩
theorem revive_herd : Calls Try.prog 45 #[.pointer (some ⟨c, 0, none⟩)] w fun e w' => e = .returned (.tuple #[]) ∧ HerdAt w0 w' L i c y d.revive g m ∧ KeepsX w w' := by
  obtain ⟨hi, e, rfl, rfl, rfl, rfl, h⟩ := h
  have ho := h.one i e (set_at hi e)
  exact (revive_any e.c w e.d m e.rb ho.1).mono fun _ w' ⟨he, h', ht⟩ => ⟨he, .turnD hi h h' (Newer.refl _ _) ht (Nat.le_refl _), .of_nd (keeps_of_touch ho.1 ht)⟩
theorem dead_herd : Calls Try.prog 32 #[.pointer (some ⟨c, 0, none⟩)] w fun e w' => e = .returned (.bool d.dead) ∧ w = w' := by
  obtain ⟨rb, ub, h1, h2⟩ := h.one
  exact dead_any c w d m rb h1
theorem waiting_herd : Calls Try.prog 17 #[.pointer (some ⟨c, 0, none⟩)] w fun e w' => e = .returned (.int .i64 d.u.length) ∧ HerdAt w0 w' L i c y d g m ∧ Below w.heap.size w w' := by
  obtain ⟨rb, ub, ⟨hok, rs, r, h1, _, _⟩, h2⟩ := h.one
  exact (waiting_any c w d rs r h1 hok).mono fun e w' ⟨he, hb'⟩ => ⟨he, h.below hb', hb'⟩
theorem size_herd (f : Int) : Calls Try.prog 22 #[.pointer (some ⟨c, 0, none⟩), .int .i64 f] w fun e w' => e = .returned (.int .i64 (d.sizeI f)) ∧ HerdAt w0 w' L i c y d g m ∧ Below w.heap.size w w' := by
  obtain ⟨rb, ub, ⟨hok, rs, r, h1, _, _⟩, h2⟩ := h.one
  exact (size_any c w d rs r f h1 hok).mono fun e w' ⟨he, hb'⟩ => ⟨he, h.below hb', hb'⟩
theorem read_herd (f : Int) : Calls Try.prog 23 #[.pointer (some ⟨c, 0, none⟩), .int .i64 f] w fun e w' => e = .returned (.tuple #[.string ⟨(d.read f).1.toArray⟩, .int .i64 (d.read f).2]) ∧ HerdAt w0 w' L i c y d g m ∧ Below w.heap.size w w' := by
  obtain ⟨rb, ub, h1, h2⟩ := h.one
  exact (read_any c w d m rb f h1).mono fun e w' ⟨he, hb'⟩ => ⟨he, h.below hb', hb'⟩
theorem files_herd : Calls Try.prog 15 #[.pointer (some ⟨c, 0, none⟩)] w fun e w' => ∃ q, e = .returned (.slice (some ⟨q, 0, none⟩) 2 2) ∧ w.heap.size ≤ q ∧ Two w' q (d.file false) (d.file true) ∧ HerdAt w0 w' L i c y d g m ∧ Below w.heap.size w w' := by
  obtain ⟨rb, ub, h1, h2⟩ := h.one
  exact (files_any c w d m rb h1).mono fun e w' ⟨q, he, hg, ht, hb'⟩ => ⟨q, he, hg, ht, h.below hb', hb'⟩
theorem after_herd (k : Int) (k0 : -9223372036854775808 ≤ k) (k1 : k ≤ 9223372036854775807) : Calls Try.prog 19 #[.pointer (some ⟨c, 0, none⟩), .int .i64 k] w fun e w' => ∃ q, e = .returned (.slice (some ⟨q, 0, none⟩) 2 2) ∧ w.heap.size ≤ q ∧ Two w' q (d.left k.toNat false) (d.left k.toNat true) ∧ HerdAt w0 w' L i c y d g m ∧ Below w.heap.size w w' := by
  obtain ⟨rb, ub, h1, h2⟩ := h.one
  exact (after_any c w d m rb k h1 k0 k1).mono fun e w' ⟨q, he, hg, ht, hb'⟩ => ⟨q, he, hg, ht, h.below hb', hb'⟩

theorem rappend_herd (f : Int) (s : List UInt8) (hs : s.length ≤ 9223372036854775807 - 1048576) :
    Calls Try.prog 68 #[.pointer (some ⟨y, 0, none⟩), .int .i64 f, .string ⟨s.toArray⟩] w fun e w' => e = .returned (.int .i64 (g.append f s).2) ∧ HerdAt w0 w' L i c y d (g.append f s).1 m ∧ KeepsX w w' := by
  obtain ⟨hi, e, rfl, rfl, rfl, rfl, h⟩ := h
  have ho := h.one i e (set_at hi e)
  exact (rappend_any e.y w e.g e.ub f s ho.2 hs).mono fun _ w' ⟨he, ub', h', hn, ht⟩ => ⟨he, .turnR hi h h' ht, .of_nr (keepsNR_of_touch ho.2 ht)⟩
theorem rsync_herd : Calls Try.prog 69 #[.pointer (some ⟨y, 0, none⟩)] w fun e w' => e = .returned (.int .i64 g.sync.2) ∧ HerdAt w0 w' L i c y d g.sync.1 m ∧ KeepsX w w' := by
  obtain ⟨hi, e, rfl, rfl, rfl, rfl, h⟩ := h
  have ho := h.one i e (set_at hi e)
  exact (rsync_any e.y w e.g e.ub ho.2).mono fun _ w' ⟨he, ub', h', hn, ht⟩ => ⟨he, .turnR hi h h' ht, .of_nr (keepsNR_of_touch ho.2 ht)⟩
theorem rcut_herd (f n : Int) : Calls Try.prog 70 #[.pointer (some ⟨y, 0, none⟩), .int .i64 f, .int .i64 n] w fun e w' => e = .returned (.int .i64 (g.cut f n).2) ∧ HerdAt w0 w' L i c y d (g.cut f n).1 m ∧ KeepsX w w' := by
  obtain ⟨hi, e, rfl, rfl, rfl, rfl, h⟩ := h
  have ho := h.one i e (set_at hi e)
  exact (rcut_any e.y w e.g e.ub f n ho.2).mono fun _ w' ⟨he, ub', h', hn, ht⟩ => ⟨he, .turnR hi h h' ht, .of_nr (keepsNR_of_touch ho.2 ht)⟩
theorem rcrash_herd (k : Int) (hk : k ≤ 9223372036854775807) : Calls Try.prog 71 #[.pointer (some ⟨y, 0, none⟩), .int .i64 k] w fun e w' => e = .returned (.int .i64 (g.crash k).2) ∧ HerdAt w0 w' L i c y d (g.crash k).1 m ∧ KeepsX w w' := by
  obtain ⟨hi, e, rfl, rfl, rfl, rfl, h⟩ := h
  have ho := h.one i e (set_at hi e)
  exact (rcrash_any e.y w e.g e.ub k ho.2 hk).mono fun _ w' ⟨he, ub', h', hn, ht⟩ => ⟨he, .turnR hi h h' ht, .of_nr (keepsNR_of_touch ho.2 ht)⟩
theorem rarm_herd (n k : Int) (hn : n ≤ 9223372036854775807) (hk : k ≤ 9223372036854775807) : Calls Try.prog 42 #[.pointer (some ⟨y, 0, none⟩), .int .i64 n, .int .i64 k] w fun e w' => e = .returned (.int .i64 (g.arm n k).2) ∧ HerdAt w0 w' L i c y d (g.arm n k).1 m ∧ KeepsX w w' := by
  obtain ⟨hi, e, rfl, rfl, rfl, rfl, h⟩ := h
  have ho := h.one i e (set_at hi e)
  exact (rarm_any e.y w e.g e.ub n k ho.2 hn hk).mono fun _ w' ⟨he, h', ht⟩ => ⟨he, .turnR hi h h' ht, .of_nr (keepsNR_of_touch ho.2 ht)⟩
theorem rrevive_herd : Calls Try.prog 46 #[.pointer (some ⟨y, 0, none⟩)] w fun e w' => e = .returned (.tuple #[]) ∧ HerdAt w0 w' L i c y d g.revive m ∧ KeepsX w w' := by
  obtain ⟨hi, e, rfl, rfl, rfl, rfl, h⟩ := h
  have ho := h.one i e (set_at hi e)
  exact (rrevive_any e.y w e.g e.ub ho.2).mono fun _ w' ⟨he, h', ht⟩ => ⟨he, .turnR hi h h' ht, .of_nr (keepsNR_of_touch ho.2 ht)⟩
theorem rread_herd (f : Int) : Calls Try.prog 66 #[.pointer (some ⟨y, 0, none⟩), .int .i64 f] w fun e w' => e = .returned (.tuple #[.string ⟨(g.read f).1.toArray⟩, .int .i64 (g.read f).2]) ∧ HerdAt w0 w' L i c y d g m ∧ Below w.heap.size w w' := by
  obtain ⟨rb, ub, h1, h2⟩ := h.one
  exact (rread_any y w g ub f h2).mono fun e w' ⟨he, hb'⟩ => ⟨he, h.below hb', hb'⟩
theorem rsize_herd (f : Int) : Calls Try.prog 67 #[.pointer (some ⟨y, 0, none⟩), .int .i64 f] w fun e w' => e = .returned (.int .i64 (g.sizeI f)) ∧ w = w' := by
  obtain ⟨rb, ub, h1, hok, us, h2, _⟩ := h.one
  exact rsize_any y w g us f h2 hok
theorem rfiles_herd : Calls Try.prog 44 #[.pointer (some ⟨y, 0, none⟩)] w fun e w' => ∃ q, e = .returned (.slice (some ⟨q, 0, none⟩) 2 2) ∧ w.heap.size ≤ q ∧ Two w' q (g.file false) (g.file true) ∧ HerdAt w0 w' L i c y d g m ∧ Below w.heap.size w w' := by
  obtain ⟨rb, ub, h1, hok, us, h2, _⟩ := h.one
  exact (rfiles_any y w g us h2 hok).mono fun e w' ⟨q, he, hg, ht, hb'⟩ => ⟨q, he, hg, ht, h.below hb', hb'⟩
theorem rafter_herd (k : Int) (k1 : k ≤ 9223372036854775807) : Calls Try.prog 72 #[.pointer (some ⟨y, 0, none⟩), .int .i64 k] w fun e w' => ∃ q, e = .returned (.slice (some ⟨q, 0, none⟩) 2 2) ∧ w.heap.size ≤ q ∧ Two w' q (g.left k.toNat false) (g.left k.toNat true) ∧ HerdAt w0 w' L i c y d g m ∧ Below w.heap.size w w' := by
  obtain ⟨rb, ub, h1, hok, us, h2, _⟩ := h.one
  exact (rafter_any y w g us k h2 hok k1).mono fun e w' ⟨q, he, hg, ht, hb'⟩ => ⟨q, he, hg, ht, h.below hb', hb'⟩
end
/-- One more pair, of blocks that are new since w. -/
theorem Herd.push {w0 w w' : World} {L : List Ent} {m : Nat} (h : Herd w0 w L m) (h' : Herd w0 w' L m) {e : Ent} (h1 : DiskAt w' e.c e.d m e.rb) (h2 : RefAt w' e.y e.g e.ub) (l1 : w.heap.size ≤ e.c) (l2 : w.heap.size ≤ e.y) (l3 : ∀ k, e.rb = some k → w.heap.size ≤ k) : Herd w0 w' (L ++ [e]) m := by
  have hsz := h.old.size
  have key : ∀ (i : Nat) (f : Ent), (L ++ [e])[i]? = some f → (L[i]? = some f ∧ i < L.length) ∨ (f = e ∧ i = L.length) := fun i f hi => by
    by_cases hl : i < L.length
    · rw [List.getElem?_append_left hl] at hi; exact .inl ⟨hi, hl⟩
    · rw [List.getElem?_append_right (by omega)] at hi
      have hi0 : i - L.length = 0 := by
        apply Classical.byContradiction
        intro hn
        rw [List.getElem?_eq_none (by simp; omega)] at hi; cases hi
      rw [hi0] at hi
      exact .inr ⟨(Option.some.inj hi).symm, by omega⟩
  refine ⟨h'.old, fun i f hi => ?_, fun i f hi => ?_, fun i j f f' hi hj hij => ?_⟩
  · rcases key i f hi with ⟨hi, _⟩ | ⟨rfl, _⟩
    · exact h'.one i f hi
    · exact ⟨h1, h2⟩
  · rcases key i f hi with ⟨hi, _⟩ | ⟨rfl, _⟩
    · exact h.lo i f hi
    · exact ⟨by omega, by omega, fun k hk => by have := l3 k hk; omega⟩
  · rcases key i f hi with ⟨hi, hil⟩ | ⟨rfl, hil⟩
    · have o := h.one i f hi
      have := o.1.lt; have := o.2.lt
      rcases key j f' hj with ⟨hj, hjl⟩ | ⟨rfl, hjl⟩
      · exact h.apart i j f f' hi hj hij
      · exact ⟨by omega, by omega, fun k hk hk' => by have := o.1.rb_lt k hk; have := l3 k hk'; omega⟩
    · rcases key j f' hj with ⟨hj, hjl⟩ | ⟨rfl, hjl⟩
      · have o := h.one j f' hj
        have := o.1.lt; have := o.2.lt
        exact ⟨by omega, by omega, fun k hk hk' => by have := o.1.rb_lt k hk'; have := l3 k hk; omega⟩
      · omega
def NoDisk (T : TypeId) : Prop := T ≠ 103 ∧ T ≠ 106 ∧ T ≠ 75 ∧ T ≠ 131
/-- A block that is no disk's has turned. -/
theorem DiskAt.awayT {w w' : World} {c : Nat} {d : DS} {m : Nat} {rb : Option Nat} {q : Nat} {T : TypeId} {cur : Array Value} {fr : Nat × Nat} (h : DiskAt w c d m rb) (hT : NoDisk T) (hq : w.heap[q]? = some (.cells cur T fr)) (ht : Touch (· = q) w w') : DiskAt w' c d m rb := by
  obtain ⟨t1, t2, t3, t4⟩ := hT
  refine h.touch ht fun k hk ho => ?_
  subst ho
  obtain ⟨_, rs, r, hd, _, hrb⟩ := h
  rcases hk with hk | hk
  · have := hd.blk; rw [← hk, hq] at this; simp [diskBlock] at this; exact t1 this.2.1
  · rw [← hrb] at hk
    rcases hd.own.2 with ⟨hv, _⟩ | ⟨g, cap, c, hv, _, hg, _⟩
    · rw [hv] at hk; cases hk
    · rw [hv] at hk
      have e1 : g = k := Option.some.inj hk
      subst e1
      rw [hq] at hg; simp at hg; exact t2 hg.2.1
theorem RefAt.awayT {w w' : World} {y : Nat} {d : DS} {ub : Option Nat} {q : Nat} {T : TypeId} {cur : Array Value} {fr : Nat × Nat} (h : RefAt w y d ub) (hT : NoDisk T) (hq : w.heap[q]? = some (.cells cur T fr)) (ht : Touch (· = q) w w') : RefAt w' y d ub := by
  obtain ⟨t1, t2, t3, t4⟩ := hT
  refine h.touch ht fun k hk ho => ?_
  subst ho
  obtain ⟨_, us, hd, hrb⟩ := h
  rcases hk with hk | hk
  · have := hd.blk; rw [← hk, hq] at this; simp [refBlock] at this; exact t3 this.2.1
  · rw [← hrb] at hk
    rcases hd.own.2 with ⟨hv, _⟩ | ⟨g, cap, c, hv, _, hg, _⟩
    · rw [hv] at hk; cases hk
    · rw [hv] at hk
      have e1 : g = k := Option.some.inj hk
      subst e1
      rw [hq] at hg; simp at hg; exact t4 hg.2.1
theorem Herd.awayT {w0 w w' : World} {L : List Ent} {m q : Nat} {T : TypeId} {cur : Array Value} {fr : Nat × Nat} (h : Herd w0 w L m) (hT : NoDisk T) (hq : w.heap[q]? = some (.cells cur T fr)) (hlo : w0.heap.size ≤ q) (ht : Touch (· = q) w w') : Herd w0 w' L m :=
  ⟨h.old.trans (ht.below h.old.size fun k hk ho => by subst ho; omega), fun i e hi => ⟨(h.one i e hi).1.awayT hT hq ht, (h.one i e hi).2.awayT hT hq ht⟩, h.lo, h.apart⟩
end Go.Proofs.Ytpjpknndfhablaa
