/- Whatever calls, of bulk at most 1048576: StoreDoes answers true, and each argument reads afterwards as it read before. -/
import Derived.JoinedCond
import Derived.Deep.CondSized
import Derived.Test.YtpjpknndfhablaaGreatK15
import Derived.Test.YtpjpknndfhablaaGreatK16
import Derived.Test.YtpjpknndfhablaaGreatK18
import Derived.Test.YtpjpknndfhablaaGreatK20
import Derived.Test.YtpjpknndfhablaaGreatK21
import Derived.Test.YtpjpknndfhablaaGreatK22
namespace Go.Proofs.YtpjpknndfhablaaGreat
open Go.RowKit
/-- Sides that lie apart. -/
structure Herd11 (w : World) (UA : Nat → Prop) (B k : Nat) (l : List Ent11) : Prop where
 one : ∀ (i : Nat) e, l[i]? = some e → SideAt w UA B e
 two : ∀ (i j : Nat) e e', l[i]? = some e → l[j]? = some e' → i ≠ j → ∀ n, e.own n → ¬ e'.own n
 num : ∀ e ∈ l, NumOk e k
theorem Herd11.below {w w' : World} {UA : Nat → Prop} {B k : Nat} {l : List Ent11} (h : Herd11 w UA B k l) (hb : Below w.heap.size w w') : Herd11 w' UA B k l := ⟨fun i e hi => (h.one i e hi).below hb, h.two, h.num⟩
theorem set_ent {l : List Ent11} {i j : Nat} {r r' : Ent11} (h : (l.set i r)[j]? = some r') : (i = j ∧ r' = r) ∨ (i ≠ j ∧ l[j]? = some r') := by
 rw [List.getElem?_set] at h
 by_cases e : i = j
 ·rw [if_pos e] at h
  split at h
  ·exact .inl ⟨e, (Option.some.inj h).symm⟩
  ·cases h
 ·rw [if_neg e] at h
  exact .inr ⟨e, h⟩
/-- One side has turned. -/
theorem Herd11.turn {w w' : World} {UA : Nat → Prop} {B k : Nat} {l : List Ent11} (h : Herd11 w UA B k l) {i : Nat} {e e' : Ent11} (hi : l[i]? = some e) (ht : SideTurn w w' UA B e e') (hn : NumOk e' (k + 1)) : Herd11 w' (fun n => UA n ∨ e'.own n) B (k + 1) (l.set i e') := by
 obtain ⟨a, ⟨b, c⟩, _⟩ := ht
 have he := h.one i e hi
 have hlt : ∀ n, e.own n → n < w.heap.size := fun n hn => he.doc.lt n (he.sub n hn)
 refine ⟨fun j q hj => ?_, fun j m q q' h1 h2 hne n => ?_, fun q hq => ?_⟩
 ·rcases set_ent hj with ⟨_, rfl⟩ | ⟨hij, hj⟩
  ·exact a
  ·refine (h.one j q hj).other b (fun n hn => ⟨he.sub n hn, h.two i j e q hi hj hij n hn⟩) (nobyte_of he.ty (by decide)) (fun n hn => ?_) (fun _ => .inl) (fun n hn => a.doc.lt n hn)
   rcases hn with hn | hn
   ·exact .inl hn
   ·exact (c n hn).imp (he.sub n) id
 ·intro x1 x2
  rcases set_ent h1 with ⟨e1, rfl⟩ | ⟨e1, g1⟩ <;> rcases set_ent h2 with ⟨e2, rfl⟩ | ⟨e2, g2⟩
  ·omega
  ·rcases c n x1 with x | x
   ·exact h.two i m e q' hi g2 e2 n x x2
   ·have h3 := h.one m q' g2
    have := h3.doc.lt n (h3.sub n x2)
    omega
  ·rcases c n x2 with x | x
   ·exact h.two j i q e g1 hi (fun e => e1 e.symm) n x1 x
   ·have h3 := h.one j q g1
    have := h3.doc.lt n (h3.sub n x1)
    omega
  ·exact h.two j m q q' g1 g2 hne n x1 x2
 ·rcases List.mem_or_eq_of_mem_set hq with hq | rfl
  ·exact (h.num q hq).more
  ·exact hn
/-- One side more, all of it new. -/
theorem Herd11.push {w w' : World} {UA : Nat → Prop} {B k : Nat} {l : List Ent11} (h : Herd11 w UA B k l) (hb : Below w.heap.size w w') {e : Ent11} (he : SideAt w' (fun n => UA n ∨ e.own n) B e) (hnew : ∀ n, e.own n → w.heap.size ≤ n) (hn : NumOk e k) : Herd11 w' (fun n => UA n ∨ e.own n) B k (l ++ [e]) := by
 have key : ∀ (i : Nat) q, (l ++ [e])[i]? = some q → l[i]? = some q ∨ (i = l.length ∧ q = e) := fun i q hi => by
  rw [List.getElem?_append] at hi
  split at hi
  ·exact .inl hi
  ·have : i - l.length = 0 := by have := (List.getElem?_eq_some_iff.1 hi).1; simp at this; omega
   rw [this] at hi
   cases hi
   exact .inr ⟨by omega, rfl⟩
 refine ⟨fun i q hi => ?_, fun i j q q' h1 h2 hne n x1 x2 => ?_, fun q hq => ?_⟩
 ·rcases key i q hi with hi | ⟨_, rfl⟩
  ·exact (h.one i q hi).other (S := fun _ => False) (Touch.of_below hb) (fun _ a => a.elim) (fun _ _ _ _ a => a.elim) (fun n hn => hn.imp id (hnew n)) (fun _ => .inl) (fun n hn => he.doc.lt n hn)
  ·exact he
 ·rcases key i q h1 with g1 | ⟨e1, rfl⟩ <;> rcases key j q' h2 with g2 | ⟨e2, rfl⟩
  ·exact h.two i j q q' g1 g2 hne n x1 x2
  ·have h3 := h.one i q g1; have := h3.doc.lt n (h3.sub n x1); have := hnew n x2; omega
  ·have h3 := h.one j q' g2; have := h3.doc.lt n (h3.sub n x2); have := hnew n x1; omega
  ·omega
 ·rcases List.mem_append.1 hq with hq | hq
  ·exact h.num q hq
  ·simp only [List.mem_singleton] at hq
   subst hq
   exact hn
theorem own_lo11 {w : World} {base e size n : Nat} {v : Value} {xs : List Value} (h : w.ownsRow base e size v n xs) (k : Nat) (hk : v.ownBlock = some k) : base ≤ k := by
 rcases h.2 with ⟨hv, _⟩ | ⟨g, cap, cur, hv, hb, _⟩
 ·rw [hv] at hk; cases hk
 ·rw [hv] at hk
  have e1 : g = k := Option.some.inj hk
  omega
abbrev sidePtrs (l : List Ent11) : List Value := l.map fun e => .pointer (some ⟨e.p, 0, none⟩)
theorem sidePtrs_set {l : List Ent11} {i : Nat} {e e' : Ent11} (hi : l[i]? = some e) (h : e'.p = e.p) : sidePtrs (l.set i e') = sidePtrs l := by
 unfold sidePtrs
 rw [List.map_set, h]
 obtain ⟨hl, he⟩ := List.getElem?_eq_some_iff.1 hi
 have : (.pointer (some ⟨e.p, 0, none⟩) : Value) = (l.map fun e => (.pointer (some ⟨e.p, 0, none⟩) : Value))[i]'(by simpa using hl) := by simp [he]
 rw [this]; exact List.set_getElem_self _
theorem sideInfo : (Tryz.prog.info? 73).map (fun i => (i.zero, i.size, i.bytes)) = some (some (.pointer none), 1, 8) := by kernel_rfl
/-- What stands in the loops of StoreDoes. -/
structure DoesRel (w wr : World) (k n : Nat) (l : List Ent11) (v : Value) : Prop where
 herd : ∃ UA, Herd11 wr UA w.heap.size k l ∧ ∀ g, v.ownBlock = some g → UA g
 row : wr.ownsRow w.heap.size 73 1 v l.length (sidePtrs l)
 old : Below w.heap.size w wr
 pos : 0 < l.length
 few : l.length ≤ n
theorem DoesRel.below {w wr wr' : World} {k n : Nat} {l : List Ent11} {v : Value} (h : DoesRel w wr k n l v) (hb : Below wr.heap.size wr wr') : DoesRel w wr' k n l v := by
 obtain ⟨UA, hh, hu⟩ := h.herd
 exact ⟨⟨UA, hh.below hb, hu⟩, own_touch h.row (Touch.of_below (S := fun _ => False) hb) (fun _ _ a => a), h.old.trans (hb.mono h.old.size), h.pos, h.few⟩
theorem DoesRel.turn {w wr wr' : World} {k n i : Nat} {l : List Ent11} {v : Value} {UA : Nat → Prop} {e e' : Ent11} (h : DoesRel w wr k n l v) (hh : Herd11 wr UA w.heap.size k l) (hu : ∀ g, v.ownBlock = some g → UA g) (hi : l[i]? = some e) (ht : SideTurn wr wr' UA w.heap.size e e') (hn : NumOk e' (k + 1)) : DoesRel w wr' (k + 1) n (l.set i e') v := by
 have he := hh.one i e hi
 refine ⟨⟨_, hh.turn hi ht hn, fun g hg => .inl (hu g hg)⟩, ?_, h.old.trans (ht.2.1.1.below h.old.size fun n a b => by have := he.low n b; omega), by rw [List.length_set]; exact h.pos, by rw [List.length_set]; exact h.few⟩
 rw [List.length_set, sidePtrs_set hi ht.2.2]
 exact tyOwn he.ty ht.2.1.1 h.row (by decide)
/-- A side that the clone of another makes. -/
theorem SideAt.cloned {w w5 : World} {UA : Nat → Prop} {B : Nat} {e : Ent11} (h : SideAt w UA B e) (hB : B ≤ w.heap.size) (hb : Below w.heap.size w w5) {p' x' c' z' lg' y' : Nat} {F' : Nat → Prop} {UA5 : Nat → Prop} (hp : Sc w5 F' x' c' e.s e.d e.m []) (hd : Doc w5 UA5 z' lg' y' e.v e.s e.d [])
  (hblk : w5.heap[p']? = some (sideBlock x' c' z' y' (.slice none 0 0) (.slice none 0 0))) (hF : ∀ k, F' k → w.heap.size ≤ k) (hz : w.heap.size ≤ z') (hl : w.heap.size ≤ lg') (hy : w.heap.size ≤ y') (hpp : w.heap.size ≤ p') :
  ∃ e', SideAt w5 (fun n => UA n ∨ e'.own n) B e' ∧ (∀ n, e'.own n → w.heap.size ≤ n) ∧ e'.p = p' ∧ (∀ k, NumOk e k → NumOk e' k) := by
 have hown : ∀ n, ({ p := p', x := x', c := c', z := z', lg := lg', y := y', F := F', v := e.v, tsv := .slice none 0 0, usv := .slice none 0 0, s := e.s, d := e.d, m := e.m, ts := [], us := [] } : Ent11).own n → w.heap.size ≤ n ∧ n < w5.heap.size := fun n a => by
  rcases a with a | a | a | a | a
  ·exact ⟨hF n a, hp.lt n a⟩
  ·have h1 := hd.typed n a
   obtain ⟨_, _, _, h2, _⟩ := h1
   refine ⟨?_, heap_lt h2⟩
   rcases a with a | a | a | ⟨q, hq, _⟩
   ·rw [a]; exact hy
   ·rw [a]; exact hl
   ·rw [a]; exact hz
   ·cases hq
  ·rw [a]; exact ⟨hpp, heap_lt hblk⟩
  ·cases a
  ·cases a
 refine ⟨{ p := p', x := x', c := c', z := z', lg := lg', y := y', F := F', v := e.v, tsv := .slice none 0 0, usv := .slice none 0 0, s := e.s, d := e.d, m := e.m, ts := [], us := [] }, ⟨hblk, hp, ?_, rfl, World.ownsRow_nil _ _ _ _, World.ownsRow_nil _ _ _ _, fun k a => .inr a, fun k a => Nat.le_trans hB (hown k a).1⟩, fun n a => (hown n a).1, rfl, fun k hn => ⟨hn.m, hn.g, hn.n, hn.turn, fun q hq => (by cases hq), Nat.zero_le _⟩⟩
 refine ⟨hd.st, hd.log, hd.disk, ⟨hd.kept.pairs, fun g hg => ⟨fun c => ?_, (hd.kept.off g hg).2⟩⟩, fun i r hi => (by cases hi), fun i j r r' hi => (by cases hi), fun k a => .inr (.inr (.inl a)), fun k a => ?_⟩
 ·obtain ⟨b1, b2⟩ := h.doc.kept.off g hg
  rcases c with c | c
  ·exact b1 c
  ·have := (hown g c).1; omega
 ·rcases a with a | a
  ·exact Nat.lt_of_lt_of_le (h.doc.lt k a) hb.size
  ·exact (hown k a).2
theorem DoesRel.more {w wr : World} {k n n' : Nat} {l : List Ent11} {v : Value} (h : DoesRel w wr k n l v) (hn : n ≤ n') : DoesRel w wr k n' l v := ⟨h.herd, h.row, h.old, h.pos, Nat.le_trans h.few hn⟩
theorem Herd11.wider {w w' : World} {UA UA' S : Nat → Prop} {B k : Nat} {l : List Ent11} (h : Herd11 w UA B k l) (ht : Touch S w w') (hS : ∀ n, S n → UA n ∧ ∃ a f, w.heap[n]? = some (.cells a 73 f)) (hU : ∀ n, UA' n → UA n ∨ w.heap.size ≤ n) (hsub : ∀ n, UA n → UA' n) (hlt : ∀ n, UA' n → n < w'.heap.size) : Herd11 w' UA' B k l := by
 refine ⟨fun i e hi => (h.one i e hi).other ht (fun n hn => ⟨(hS n hn).1, fun ho => ?_⟩) (fun n a t f hn hb => ?_) hU hsub hlt, h.two, h.num⟩
 ·obtain ⟨_, a, f, hb⟩ := hS n hn
  have := (h.one i e hi).ty n a _ f ho hb
  revert this
  decide
 ·obtain ⟨_, a', f', hb'⟩ := hS n hn
  rw [hb] at hb'
  cases hb'
  decide
theorem DoesRel.pushed {w wr w6 w7 w8 : World} {k n : Nat} {l : List Ent11} {v v' : Value} {UA : Nat → Prop} {e' : Ent11} (h : DoesRel w wr k n l v) (hh : Herd11 wr UA w.heap.size k l) (hu : ∀ g, v.ownBlock = some g → UA g) (hb : Below wr.heap.size wr w6) (he : SideAt w6 (fun m => UA m ∨ e'.own m) w.heap.size e') (hnew : ∀ m, e'.own m → wr.heap.size ≤ m) (hnum : NumOk e' k) (hb7 : Below w6.heap.size w6 w7)
  (ho : w8.ownsRow w.heap.size 73 1 v' (l.length + 1) (sidePtrs l ++ [.pointer (some ⟨e'.p, 0, none⟩)])) (ht : Touch (fun m => v.ownBlock = some m) w7 w8) (hv : v'.ownBlock = v.ownBlock ∨ v'.ownBlock = some w7.heap.size) :
  ∃ UA8, Herd11 w8 UA8 w.heap.size k (l ++ [e']) ∧ (∀ g, v'.ownBlock = some g → UA8 g) ∧ DoesRel w w8 k (n + 1) (l ++ [e']) v' := by
 have hrow := own_touch h.row (Touch.of_below (S := fun _ => False) (bthen hb hb7)) (fun _ _ a => a)
 have h7 := (hh.push hb he hnew hnum).below hb7
 have h8 : Herd11 w8 (fun m => (UA m ∨ e'.own m) ∨ v'.ownBlock = some m) w.heap.size k (l ++ [e']) := by
  refine h7.wider ht (fun m hm => ⟨.inl (hu m hm), ?_⟩) (fun m hm => ?_) (fun _ => .inl) (fun m hm => ?_)
  ·obtain ⟨a, t, f, hb, ht⟩ := own_typed hrow hm
   exact ⟨a, f, by rw [← ht]; exact hb⟩
  ·rcases hm with hm | hm
   ·exact .inl hm
   ·rcases hv with hv | hv
    ·rw [hv] at hm; exact .inl (.inl (hu m hm))
    ·rw [hv] at hm; have e1 := Option.some.inj hm; exact .inr (by omega)
  ·rcases hm with hm | hm
   ·exact Nat.lt_of_lt_of_le (he.doc.lt m hm) (Nat.le_trans hb7.size ht.size)
   ·obtain ⟨_, _, _, h1, _⟩ := own_typed ho hm
    exact heap_lt h1
 refine ⟨_, h8, fun g hg => .inr hg, ⟨⟨_, h8, fun g hg => .inr hg⟩, ?_, ?_, by simp, by rw [List.length_append, List.length_singleton]; have := h.few; omega⟩⟩
 ·rw [List.length_append, List.length_singleton]
  simpa [sidePtrs] using ho
 ·refine h.old.trans (((bthen hb hb7).mono h.old.size).trans (ht.below (Nat.le_trans h.old.size (bthen hb hb7).size) fun m hm hs => ?_))
  have := own_lo11 h.row m hs
  omega
/-- The first side. -/
theorem SideAt.first {w w4 : World} (hb4 : w.heap.size ≤ w4.heap.size) {F : Nat → Prop} {x c z lg y p m : Nat} {v : Value} {s : SS} {d : DS} (hp : Sc w4 F x c s d m []) (hr : RstoreAt w4 z lg y v s) (hd : ∃ ub, RefAt w4 y d ub) {w5 : World} (hb : Below w4.heap.size w4 w5) (hblk : w5.heap[p]? = some (sideBlock x c z y (.slice none 0 0) (.slice none 0 0)))
  (hF : ∀ k, F k → w.heap.size ≤ k) (hz : w.heap.size ≤ z) (hl : w.heap.size ≤ lg) (hy : w.heap.size ≤ y) (hpp : w4.heap.size ≤ p) (hv : ∀ g, v.ownBlock = some g → ¬ F g ∧ g ≠ z ∧ g ≠ lg ∧ g ≠ y) (hps : s.turn = 0 ∧ s.l.g ≤ 4611686018427387904 ∧ s.l.n ≤ 2000000 ∧ m ≤ 1) :
  ∃ e : Ent11, e.p = p ∧ SideAt w5 e.own w.heap.size e ∧ NumOk e 0 := by
 obtain ⟨ub, hd⟩ := hd
 have hd5 := hd.below hb
 have hyl : y < w4.heap.size := by obtain ⟨_, us, h1, _⟩ := hd; exact heap_lt h1.blk
 refine ⟨{ p := p, x := x, c := c, z := z, lg := lg, y := y, F := F, v := v, tsv := .slice none 0 0, usv := .slice none 0 0, s := s, d := d, m := m, ts := [], us := [] }, rfl, ⟨hblk, hp.below hb, ⟨stays hr.blk hb, hr.log.below hb, ⟨ub, hd5⟩, ⟨hr.pairs.below hb, fun g hg => ⟨fun a => ?_, Nat.lt_of_lt_of_le (hr.pairs.blk hg) hb.size⟩⟩, fun i r hi => (by cases hi), fun i j r r' hi => (by cases hi), fun k a => .inr (.inl a), fun k a => ?_⟩, rfl, World.ownsRow_nil _ _ _ _, World.ownsRow_nil _ _ _ _, fun k a => a, fun k a => ?_⟩, ⟨by show m ≤ _; omega, hps.2.1, by show s.l.n ≤ _; omega, by show s.turn ≤ _; omega, fun q hq => (by cases hq), Nat.le_refl _⟩⟩
 ·obtain ⟨b1, b2, b3, b4⟩ := hv g hg
  have hgl := hr.pairs.blk hg
  rcases a with a | (a | a | a | ⟨q, hq, _⟩) | a | a | a
  ·exact b1 a
  ·exact b4 a
  ·exact b3 a
  ·exact b2 a
  ·cases hq
  ·simp only at a; omega
  ·cases a
  ·cases a
 ·rcases a with a | (a | a | a | ⟨q, hq, _⟩) | a | a | a
  ·exact (hp.below hb).lt k a
  ·rw [a]; exact Nat.lt_of_lt_of_le hyl hb.size
  ·rw [a]; exact heap_lt (show w5.heap[lg]? = some (rlogBlock y s.l) from hr.log.below hb)
  ·rw [a]; exact heap_lt (stays hr.blk hb)
  ·cases hq
  ·rw [a]; exact heap_lt hblk
  ·cases a
  ·cases a
 ·rcases a with a | (a | a | a | ⟨q, hq, _⟩) | a | a | a
  ·exact hF k a
  ·rw [a]; exact hy
  ·rw [a]; exact hl
  ·rw [a]; exact hz
  ·cases hq
  ·rw [a]; exact Nat.le_trans hb4 hpp
  ·cases a
  ·cases a
end Go.Proofs.YtpjpknndfhablaaGreat
namespace Go.Proofs.YtpjpknndfhablaaGreat
open Go.RowKit
theorem twoS_texts {w : World} {g : Nat} {s t : List UInt8} (h : Two w g s t) : Texts w (some ⟨g, 0, none⟩) [s, t] := by
 obtain ⟨h0, h1, _⟩ := h.cells
 refine ⟨by simp, fun i x hi => ⟨g, 0, rfl, ?_⟩⟩
 match i, hi with
 | 0, hi => simp at hi; subst hi; exact h0
 | 1, hi => simp at hi; subst hi; exact h1
theorem dfiles_sc {w : World} {F : Nat → Prop} {x c : Nat} {s : SS} {d : DS} {m : Nat} {ts : List (Nat × TS)} (h : Sc w F x c s d m ts) : Calls Tryz.prog 17 #[.pointer (some ⟨c, 0, none⟩)] w fun e w' => ∃ g, e = .returned (.slice (some ⟨g, 0, none⟩) 2 2) ∧ w.heap.size ≤ g ∧ Two w' g (d.file false) (d.file true) ∧ Below w.heap.size w w' := by
 obtain ⟨lg, mb, rb, rows, _, h2, _⟩ := h
 exact files_any c w d m rb h2.disk
section
variable {w : World} {F : Nat → Prop} {x c : Nat} {s : SS} {d : DS} {m : Nat} {ts : List (Nat × TS)} (h : Sc w F x c s d m ts)
include h
theorem keys_b : Calls Tryz.prog 42 #[.pointer (some ⟨x, 0, none⟩)] w fun e w' => e = .returned (.int .i64 s.ps.length) ∧ Below w.heap.size w w' := (keys_sc h).mono fun _ _ a => ⟨a.1, belowOf a.2⟩
theorem bytes_b : Calls Tryz.prog 43 #[.pointer (some ⟨x, 0, none⟩)] w fun e w' => e = .returned (.int .i64 (Sto.size s.ps)) ∧ Below w.heap.size w w' := (bytes_sc h).mono fun _ _ a => ⟨a.1, belowOf a.2⟩
theorem dead_b : Calls Tryz.prog 29 #[.pointer (some ⟨x, 0, none⟩)] w fun e w' => e = .returned (.bool s.dead) ∧ Below w.heap.size w w' := (dead_sc h).mono fun _ _ a => ⟨a.1, belowOf a.2⟩
theorem ddead_b : Calls Tryz.prog 30 #[.pointer (some ⟨c, 0, none⟩)] w fun e w' => e = .returned (.bool d.dead) ∧ Below w.heap.size w w' := (ddead_sc h).mono fun _ _ a => ⟨a.1, belowOf a.2⟩
end
set_option maxHeartbeats 8000000 in
set_option maxRecDepth 100000 in
theorem ssame_any (w : World) (UA : Nat → Prop) (B : Nat) (e : Ent11) (h : SideAt w UA B e) :
  Calls Tryz.prog 38 #[.pointer (some ⟨e.p, 0, none⟩)] w fun r w' => r = .returned (.bool true) ∧ Below w.heap.size w w' := by
 obtain ⟨p, x, c, z, lg, y, F, v, tsv, usv, s, d, m, ts, us⟩ := e
 have HP := Lib.hid h.prog
 have HD := Lib.hid h.doc
 obtain ⟨ub, hok, us', hr, _⟩ := h.doc.disk
 have HOK := Lib.hid hok
 have HR := Lib.hid hr
 have HK := Lib.hid h.doc.kept.pairs
 obtain ⟨_, hgood, hfit⟩ := h.prog.good
 have HFIT := Lib.hid hfit
 have hsz : Sto.size s.ps ≤ 4611686018427387904 := by have := hfit; unfold Sto.fits at this; simp at this; omega
 obtain ⟨av, cv, hv, _⟩ := h.doc.kept.pairs.read
 simp only at hv
 subst hv
 obtain ⟨_, _, _, _, _, e5, _, _⟩ := hr.cells
 have z1 : w.cell? ⟨z, 1, none⟩ = some (.slice av s.ps.length cv) := cell_of h.doc.st rfl
 have z3 : w.cell? ⟨z, 3, none⟩ = some (.bool s.dead) := cell_of h.doc.st rfl
 have p0 : w.cell? ⟨p, 0, none⟩ = some (.pointer (some ⟨x, 0, none⟩)) := cell_of h.blk rfl
 have p1 : w.cell? ⟨p, 1, none⟩ = some (.pointer (some ⟨c, 0, none⟩)) := cell_of h.blk rfl
 have p2 : w.cell? ⟨p, 2, none⟩ = some (.pointer (some ⟨z, 0, none⟩)) := cell_of h.blk rfl
 have p3 : w.cell? ⟨p, 3, none⟩ = some (.pointer (some ⟨y, 0, none⟩)) := cell_of h.blk rfl
 have HBB : Hid (∀ w' : World, Below w.heap.size w w' → (Below w.heap.size w w' ∧ w'.cell? ⟨p, 0, none⟩ = some (.pointer (some ⟨x, 0, none⟩)) ∧ w'.cell? ⟨p, 1, none⟩ = some (.pointer (some ⟨c, 0, none⟩)) ∧ w'.cell? ⟨p, 2, none⟩ = some (.pointer (some ⟨z, 0, none⟩)) ∧ w'.cell? ⟨p, 3, none⟩ = some (.pointer (some ⟨y, 0, none⟩)) ∧ w'.cell? ⟨z, 1, none⟩ = some (.slice av s.ps.length cv) ∧ w'.cell? ⟨z, 3, none⟩ = some (.bool s.dead) ∧ w'.cell? ⟨y, 5, none⟩ = some (.bool d.dead))) :=
  fun w' hb => ⟨hb, cell_later hb p0, cell_later hb p1, cell_later hb p2, cell_later hb p3, cell_later hb z1, cell_later hb z3, cell_later hb e5⟩
 clear h hok hr hfit hgood p0 p1 p2 p3 z1 z3 e5
 go_enter Tryz.func38, Tryz.ntmps38
 go_wp2
 go_region_held3 (fun w' => Below w.heap.size w w' ∧ w'.cell? ⟨p, 0, none⟩ = some (.pointer (some ⟨x, 0, none⟩)) ∧ w'.cell? ⟨p, 1, none⟩ = some (.pointer (some ⟨c, 0, none⟩)) ∧ w'.cell? ⟨p, 2, none⟩ = some (.pointer (some ⟨z, 0, none⟩)) ∧ w'.cell? ⟨p, 3, none⟩ = some (.pointer (some ⟨y, 0, none⟩)) ∧ w'.cell? ⟨z, 1, none⟩ = some (.slice av s.ps.length cv) ∧ w'.cell? ⟨z, 3, none⟩ = some (.bool s.dead) ∧ w'.cell? ⟨y, 5, none⟩ = some (.bool d.dead))
  (first | exact HBB.out _ (Below.refl _ _).drew | exact HBB.out _ (bthen (by assumption : Below w.heap.size w _ ∧ _).1 (by assumption)))
  (first
   | (go_at_call 20; refine (scan_sc (HP.out.below (by assumption : Below w.heap.size w _ ∧ _).1) [] 99999 (by decide) (by decide)).mono ?_; rintro r w1 ⟨q1, rfl, t1, _, hb⟩; have T1 : Hid (PairsAt w1 q1 s.ps) := Lib.hid (by rw [show Sto.scan s.ps [] (99999 : Int).toNat = s.ps from scan_fit3 HFIT.out] at t1; exact t1); clear t1)
   | (go_at_call 19; refine (rsame11_any _ (.slice av s.ps.length cv) s.ps s.ps _ T1.out (HK.out.below (by assumption : Below w.heap.size w _ ∧ _).1)).mono ?_; rw [show decide (s.ps = s.ps) = true from decide_eq_true rfl]; rintro r w2 ⟨rfl, hb⟩)
   | (go_at_call 42; refine (keys_b (HP.out.below (by assumption : Below w.heap.size w _ ∧ _).1)).mono ?_; rintro r w3 ⟨rfl, hb⟩)
   | (go_at_call 43; refine (bytes_b (HP.out.below (by assumption : Below w.heap.size w _ ∧ _).1)).mono ?_; rintro r w4 ⟨rfl, hb⟩)
   | (go_at_call 83; refine (rsize11_any (.slice av s.ps.length cv) s.ps _ (HK.out.below (by assumption : Below w.heap.size w _ ∧ _).1) hsz).mono ?_; rintro r w5 ⟨rfl, hb⟩)
   | (go_at_call 29; refine (dead_b (HP.out.below (by assumption : Below w.heap.size w _ ∧ _).1)).mono ?_; rintro r w6 ⟨rfl, hb⟩)
   | (go_at_call 17; refine (dfiles_sc (HP.out.below (by assumption : Below w.heap.size w _ ∧ _).1)).mono ?_; rintro r w7 ⟨q2, rfl, _, t2, hb⟩; have T2 := Lib.hid t2; clear t2)
   | (go_at_call 18; refine (rfiles_any y _ d _ (HR.out.below (by assumption : Below w.heap.size w _ ∧ _).1) HOK.out).mono ?_; rintro r w8 ⟨q3, rfl, _, t3, hb⟩; have T3 := Lib.hid t3; have T4 := Lib.hid (T2.out.below hb); clear t3)
   | (go_at_call 16; refine (same_any _ _ _ 2 2 _ _ (twoS_texts T4.out) (twoS_texts T3.out)).mono ?_; rw [show decide ([d.file false, d.file true] = [d.file false, d.file true]) = true from decide_eq_true rfl]; rintro r w9 ⟨rfl, hb⟩)
   | (go_at_call 30; refine (ddead_b (HP.out.below (by assumption : Below w.heap.size w _ ∧ _).1)).mono ?_; rintro r wa ⟨rfl, hb⟩))
 go_wp2
 go_ret
 exact ⟨rfl, (by assumption : Below w.heap.size w _ ∧ _).1⟩
end Go.Proofs.YtpjpknndfhablaaGreat
namespace Go.Proofs.YtpjpknndfhablaaGreat
namespace Wal
theorem Live.clean {l : LS} {d : DS} {snap : List UInt8} {rs : List (List UInt8)} (h : Live l d snap rs rs.length) : Clean d l.f l.g snap rs :=
 ⟨by rw [h.u]; simp [frames], h.g1, h.g2, h.sl, h.short, by rw [h.file, List.take_length], h.other⟩
def q0 : LS := { f := false, g := 1, n := 0, dead := false }
def e0 : DS := { a := head 1 [], armed := 0 }
theorem new_q : new {} = (some q0, e0, 0) := by rfl
def q1 : LS := (append q0 e0 [97]).1
def e1 : DS := (append q0 e0 [97]).2.1
def e2 : DS := (sync q1 e1).2.1
def q3 : LS := ((open_ e2).1.map (·.l)).getD {}
def e3 : DS := (open_ e2).2.1
def q4 : LS := ((open_ e3).1.map (·.l)).getD {}
def e4 : DS := (open_ e3).2.1
def q5 : LS := (checkpoint q4 e4 [115]).1
def e5 : DS := (checkpoint q4 e4 [115]).2.1
def e6 : DS := (open_ e5).2.1
def q6 : LS := ((open_ e5).1.map (·.l)).getD {}
theorem live0 : Live q0 e0 [] [] 0 ∧ e0.armed = 0 := by
 obtain ⟨l, h1, _, h2, h3⟩ := new_live new_q
 cases h1
 exact ⟨h2, h3⟩
theorem append_q : append q0 e0 [97] = (q1, e1, 0) ∧ Live q1 e1 [] [[97]] 0 ∧ e1.armed = 0 := by
 rcases append_live live0.1 [97] rfl with ⟨h, _⟩ | ⟨h1, h2, h3⟩ | ⟨_, _, _, h, _⟩
 ·exfalso
  have : (append q0 e0 [97]).2.2 = 0 := by decide +kernel
  rw [this] at h
  omega
 ·exact ⟨Prod.ext rfl (Prod.ext rfl h1), h2, h3 live0.2⟩
 ·exact absurd live0.2 h
theorem sync_q : sync q1 e1 = (q1, e2, 0) ∧ Clean e2 q1.f q1.g [] [[97]] ∧ e2.armed = 0 ∧ e2.dead = false := by
 rcases sync_live append_q.2.1 rfl with ⟨h1, h2, h3, h4⟩ | ⟨_, _, _, h, _⟩
 ·exact ⟨Prod.ext h2 (Prod.ext rfl h1), h3.clean, h4 append_q.2.2, h3.dd⟩
 ·exact absurd append_q.2.2 h
theorem open_clean {d : DS} {f : Bool} {g : Nat} {snap : List UInt8} {rs : List (List UInt8)} (h : Clean d f g snap rs) (hd : d.dead = false) (ha : d.armed = 0) :
  open_ d = (some ⟨{ f := f, g := g, n := rs.length, dead := false }, snap, rs⟩, (open_ d).2.1, 0) ∧ Clean (open_ d).2.1 f g snap rs ∧ (open_ d).2.1.armed = 0 ∧ (open_ d).2.1.dead = false := by
 rcases open_sits h.sits hd rfl with ⟨_, _, _, _, h0⟩ | ⟨h1, h2, h3, h4, h5⟩
 ·exact absurd ha h0
 ·exact ⟨Prod.ext h1 (Prod.ext rfl h2), h4, h5 ha, h3⟩
end Wal
end Go.Proofs.YtpjpknndfhablaaGreat
namespace Go.Proofs.YtpjpknndfhablaaGreat
namespace FixS
def s0 : SS := { l := Wal.q0, ps := [], turn := 0, dead := false }
theorem new_s : SS.new {} = (some s0, Wal.e0, 0) := by unfold SS.new; rw [Wal.new_q]; rfl
def ps : Sto.Pairs := [([97], []), ([98], [50])]
def C : List Sto.Ch := [⟨true, [97], []⟩, ⟨true, [98], [50]⟩]
def t1 : TS := { was := [], now := [([98], [50])], turn := 0, over := false }
def t2 : TS := { was := [], now := ps, turn := 0, over := false }
theorem put_1 : s0.begin_.put [98] [50] = (t1, 0) := by rfl
theorem put_2 : t1.put [97] [] = (t2, 0) := by rfl
theorem put_3 : t2.put [] [] = (t2, 111) := by rfl
theorem get_t : (Sto.get t2.now [98]).getD [] = [50] ∧ Sto.here t2.now [98] = true := by decide
theorem get_s : (Sto.get s0.ps [98]).getD [] = [] ∧ Sto.here s0.ps [98] = false := by decide
theorem changes_t : Sto.changes t2.was t2.now = C := by show Sto.changes [] ps = C; rw [Sto.changes_nil]; rfl
def E : List UInt8 := [0, 2, 1, 1, 97, 0, 0, 1, 1, 98, 0, 1, 50]
theorem encode_C : Sto.encode C 2 = E := by decide +kernel
theorem does_C : Sto.does [] C = some ps := by decide
def qa : Wal.LS := (Wal.append Wal.q0 Wal.e0 E).1
def ea : DS := (Wal.append Wal.q0 Wal.e0 E).2.1
theorem append_E : Wal.append Wal.q0 Wal.e0 E = (qa, ea, 0) ∧ Wal.Live qa ea [] [E] 0 ∧ ea.armed = 0 := by
 rcases Wal.append_live Wal.live0.1 E rfl with ⟨h, _⟩ | ⟨h1, h2, h3⟩ | ⟨_, _, _, h, _⟩
 ·exfalso
  have : (Wal.append Wal.q0 Wal.e0 E).2.2 = 0 := by decide +kernel
  rw [this] at h
  omega
 ·exact ⟨Prod.ext rfl (Prod.ext rfl h1), h2, h3 Wal.live0.2⟩
 ·exact absurd Wal.live0.2 h
def sa : SS := { l := qa, ps := ps, turn := 1, dead := false }
theorem commit_s : s0.commit t2 Wal.e0 = (sa, ea, 0) := by
 unfold SS.commit
 rw [changes_t]
 rw [if_neg (by decide), if_neg (by decide), if_neg (by decide), if_neg (by decide), if_neg (by rw [encode_C]; decide)]
 show (match Sto.does [] C with | none => (s0, Wal.e0, 113) | some m => s0.taking Wal.e0 C m) = _
 rw [does_C]
 show s0.taking Wal.e0 C ps = _
 unfold SS.taking SS.making
 rw [encode_C]
 have hr : ¬ Wal.room s0.l Wal.e0 < E.length := by decide +kernel
 rw [if_neg hr, if_neg (fun e => e rfl)]
 unfold SS.adding
 show (if (Wal.append Wal.q0 Wal.e0 E).2.2 ≠ 0 then _ else _) = _
 rw [append_E.1, if_neg (fun e => e rfl)]
 rfl
theorem commit_again : sa.commit t2.ends ea = (sa, ea, 114) := by rfl
def eb : DS := (Wal.sync qa ea).2.1
theorem sync_q : Wal.sync qa ea = (qa, eb, 0) ∧ Wal.Clean eb qa.f qa.g [] [E] ∧ eb.armed = 0 ∧ eb.dead = false := by
 rcases Wal.sync_live append_E.2.1 rfl with ⟨h1, h2, h3, h4⟩ | ⟨_, _, _, h, _⟩
 ·exact ⟨Prod.ext h2 (Prod.ext rfl h1), h3.clean, h4 append_E.2.2, h3.dd⟩
 ·exact absurd append_E.2.2 h
theorem sync_s : sa.sync ea = (sa, eb, 0) := by
 unfold SS.sync
 rw [if_neg (by decide)]
 have e : sa.l = qa := rfl
 rw [e, sync_q.1]
 rfl
theorem told_s : sa.ps.length = 2 ∧ Sto.size sa.ps = 3 := by decide
theorem replay_E : SS.opened ⟨qa, [], [E]⟩ = some ps := by
 have hd : Sto.decode E 2 512 = some C := by
  rw [← encode_C]
  exact Sto.decode_encode (by decide) (by decide) (by decide) (fun c hc => by simp [C] at hc; rcases hc with rfl | rfl <;> exact ⟨by decide, by decide, by decide⟩) (by unfold Sto.RiseC C; simp; decide)
 have h1 : SS.rec1 [] E = some ps := by unfold SS.rec1; rw [hd]; exact does_C
 have h2 := SS.replay_next (rs := [E]) (l := []) (m := []) (j := 0) (r := E) rfl rfl
 rw [h1] at h2
 unfold SS.opened SS.snapPairs
 rw [if_pos rfl]
 have h3 : List.take (0 + 1) [E] = [E] := rfl
 rw [h3] at h2
 simp only [Option.bind_some]
 exact h2
theorem open_s : ∃ u ec, SS.open_ eb = (some u, ec, 0) ∧ u.ps = ps := by
 obtain ⟨h1, _⟩ := Wal.open_clean sync_q.2.1 sync_q.2.2.2 sync_q.2.2.1
 unfold SS.open_
 rw [h1]
 have h2 : ∀ l, SS.opened ⟨l, [], [E]⟩ = some ps := fun l => replay_E
 simp only [h2]
 exact ⟨_, _, rfl, rfl⟩
theorem scan_s : Sto.scan ps [] 9 = ps := by decide
theorem qa_few : qa.n ≤ 4611686018427387904 ∧ qa.g ≤ 4611686018427387904 := by
 have := append_E.2.1
 exact ⟨by rw [this.n]; decide, this.g2⟩
end FixS
end Go.Proofs.YtpjpknndfhablaaGreat
namespace Go.Proofs.YtpjpknndfhablaaGreat
open Go.RowKit
theorem made_two : DS.made [[], []] = (some {}, 0) := by simp [DS.made]
set_option maxHeartbeats 2000000 in
set_option maxRecDepth 100000 in
theorem laid11_any (w : World) : Calls Tryz.prog 21 #[] w fun e w' => ∃ c x, e = .returned (.tuple #[.pointer (some ⟨c, 0, none⟩), .pointer (some ⟨x, 0, none⟩)]) ∧ Sone w w' x c FixS.s0 Wal.e0 1 := by
 have E0 := Lib.hid made_two
 go_enter Tryz.func21, Tryz.ntmps21
 go_wp2_with fail
 have hn0 := heap_new w (.cells #[.string ⟨#[]⟩, .string ⟨#[]⟩] 9)
 obtain ⟨x0, x1, _, _⟩ := cells2 hn0
 have HT : Hid (Texts (w.alloc (.cells #[.string ⟨#[]⟩, .string ⟨#[]⟩] 9)) (some ⟨w.heap.size, 0, none⟩) [[], []]) := ⟨by decide, fun i s hi => ⟨w.heap.size, 0, rfl, by
  match i, hi with
  | 0, hi => simp at hi; subst hi; exact x0
  | 1, hi => simp at hi; subst hi; exact x1⟩⟩
 clear hn0 x0 x1
 refine (new_any _ (some ⟨w.heap.size, 0, none⟩) 2 [[], []] HT.out).mono ?_
 rw [E0.out]
 rintro e w1 ⟨hb1, ⟨h, _⟩ | ⟨d, c, hd, rfl, hc, hat⟩⟩
 ·cases h
 obtain rfl := Option.some.inj hd
 have HAT := Lib.hid hat
 have hc' : w.heap.size ≤ c := by have := hc; simp at this; omega
 have HB := Lib.hid (bthen (balloc w _) hb1)
 clear hb1 hd hat HT hc
 go_wp2_with fail
 have hw := new11_any c w1 {} 0 none HAT.out (by decide)
 rw [FixS.new_s] at hw
 refine hw.mono ?_
 clear hw
 rintro e w2 ⟨v, rfl, h1, _, rb', hd2, hn2, ht2, _⟩
 obtain ⟨x, lg, mb, rfl, hst, hx, hlg, hmb⟩ := h1 _ rfl
 have hold : Below w.heap.size w w2 := HB.out.trans (ht2.below HB.out.size fun k hk ho => by
  rcases ho with rfl | ho
  ·omega
  ·cases ho)
 have HO : Hid (Sone w w2 x c FixS.s0 Wal.e0 1) := ⟨lg, mb, rb', hst, hd2, hold, Nat.le_trans HB.out.size hx, Nat.le_trans HB.out.size hlg, Nat.le_trans HB.out.size hmb, hc', fun k hk => (hn2 k hk).elim (fun e => by cases e) (Nat.le_trans HB.out.size)⟩
 clear h1 hd2 hn2 ht2 hx hlg hmb hst hold
 go_wp2
 refine bodyPost_ret (results_tmp2 rfl _ _ _) rfl ?_
 exact ⟨c, x, rfl, HO.out⟩
set_option maxHeartbeats 4000000 in
set_option maxRecDepth 100000 in
theorem fixed11_any (w : World) : Calls Tryz.prog 9 #[] w fun e w' => e = .returned (.bool true) ∧ Below w.heap.size w w' := by
 have HP1 := Lib.hid FixS.put_1
 have HP2 := Lib.hid FixS.put_2
 have HP3 := Lib.hid FixS.put_3
 have HG1 := Lib.hid FixS.get_t
 have HG2 := Lib.hid FixS.get_s
 have HC := Lib.hid FixS.commit_s
 have HC2 := Lib.hid FixS.commit_again
 have HS := Lib.hid FixS.sync_s
 have HK := Lib.hid FixS.told_s
 have HO := Lib.hid FixS.open_s
 have HSC := Lib.hid FixS.scan_s
 have HQ := Lib.hid FixS.qa_few
 go_enter Tryz.func9, Tryz.ntmps9
 go_wp2_with fail
 refine (laid11_any w).mono ?_
 rintro e w1 ⟨c, x, rfl, h1⟩
 have H1 := Lib.hid h1
 clear h1
 go_wp2_with fail
 refine (begin_sone H1.out).mono ?_
 rintro e w2 ⟨y, rfl, h2⟩
 have H2 := Lib.hid h2
 clear h2
 go_wp2_with fail
 refine (put_stx H2.out [98] [50] (by decide) (by decide) (by decide)).mono ?_
 rw [HP1.out]
 rintro e w3 ⟨rfl, h3⟩
 have H3 := Lib.hid h3
 clear h3
 go_wp2_with fail
 refine (put_stx H3.out [97] [] (by decide) (by decide) (by decide)).mono ?_
 rw [HP2.out]
 rintro e w4 ⟨rfl, h4⟩
 have H4 := Lib.hid h4
 clear h4
 go_wp2_with fail
 refine (put_stx H4.out [] [] (by decide) (by decide) (by decide)).mono ?_
 rw [HP3.out]
 rintro e w5 ⟨rfl, h5⟩
 have H5 := Lib.hid h5
 clear h5
 go_wp2_with fail
 refine (get_stx H5.out [98] (by decide)).mono ?_
 rw [HG1.out.1, HG1.out.2]
 rintro e w6 ⟨rfl, rfl⟩
 go_wp2_with fail
 refine (get_sone H5.out.one [98] (by decide)).mono ?_
 rw [HG2.out.1, HG2.out.2]
 rintro e w6 ⟨rfl, rfl⟩
 go_wp2_with fail
 refine (commit_stx H5.out (by decide) (by decide) (by decide) (by decide) (by decide) (by decide)).mono ?_
 rw [HC.out]
 rintro e w7 ⟨rfl, h7, _⟩
 have H7 := Lib.hid h7
 clear h7
 go_wp2_with fail
 refine (commit_stx (t := FixS.t2.ends) H7.out (by decide) HQ.out.2 HQ.out.1 (by decide) (by decide) (by decide)).mono ?_
 rw [HC2.out]
 rintro e w8 ⟨rfl, h8, _⟩
 have H8 := Lib.hid h8.one
 clear h8
 go_wp2_with fail
 refine (sync_sone H8.out).mono ?_
 rw [HS.out]
 rintro e w9 ⟨rfl, h9, _⟩
 have H9 := Lib.hid h9
 clear h9
 go_wp2_with fail
 refine (keys_sone H9.out).mono ?_
 rw [HK.out.1]
 rintro e wa ⟨rfl, rfl⟩
 go_wp2_with fail
 refine (bytes_sone H9.out).mono ?_
 rw [HK.out.2]
 rintro e wa ⟨rfl, rfl⟩
 obtain ⟨u, ec, ho1, ho2⟩ := HO.out
 have HO1 := Lib.hid ho1
 have HO2 := Lib.hid ho2
 clear ho1 ho2 HO
 go_wp2_with fail
 have ho := open_sone H9.out.disk
 rw [HO1.out] at ho
 refine ho.mono ?_
 clear ho
 rintro e wb ⟨v, rfl, hb, _, _, _⟩
 obtain ⟨xb, rfl, hb1⟩ := hb _ rfl
 have HB := Lib.hid hb1
 clear hb hb1
 go_wp2_with fail
 refine (scan_sone HB.out [] 9 (by decide) (by decide)).mono ?_
 rintro e wc ⟨v, rfl, hv, _, bc⟩
 have hv2 : PairsAt wc v FixS.ps := by
  have e1 : Sto.scan u.ps [] (9 : Int).toNat = FixS.ps := by rw [HO2.out]; exact HSC.out
  rw [e1] at hv
  exact hv
 have HOLD := Lib.hid ((HB.out.below bc).old)
 obtain ⟨ao, cap, rfl, hn, hcap, hcell⟩ := hv2.read
 obtain ⟨g, rfl, _, a0, a1⟩ := hcell 0 ([97], []) rfl
 obtain ⟨g', e', _, b0, b1⟩ := hcell 1 ([98], [50]) rfl
 cases e'
 clear hv hv2 hcell bc
 have hl2 : FixS.ps.length = 2 := rfl
 rw [hl2] at hn
 have z0 : wc.cell? ⟨g, 0, none⟩ = some (.string ⟨#[97]⟩) := a0
 have z1 : wc.cell? ⟨g, 1, none⟩ = some (.string ⟨#[]⟩) := a1
 have z2 : wc.cell? ⟨g, 2, none⟩ = some (.string ⟨#[98]⟩) := b0
 have z3 : wc.cell? ⟨g, 3, none⟩ = some (.string ⟨#[50]⟩) := b1
 clear a0 a1 b0 b1
 rw [hl2]
 go_wp2_with fail
 go_ret
 exact ⟨rfl, HOLD.out⟩
end Go.Proofs.YtpjpknndfhablaaGreat
namespace Go.Proofs.YtpjpknndfhablaaGreat
open Go.RowKit
/-- Calls that came in. -/
structure OpsS (w : World) (ao : Option Addr) (l : List OpS) : Prop where
 len : l.length ≤ 1048576
 cell : ∀ i o, l[i]? = some o → ∃ b off, ao = some ⟨b, off, none⟩ ∧ b < w.heap.size ∧ w.cell? ⟨b, off + i * 6, none⟩ = some (.int .i64 o.on) ∧ w.cell? ⟨b, off + i * 6 + 1, none⟩ = some (.int .i64 o.kind) ∧ w.cell? ⟨b, off + i * 6 + 2, none⟩ = some (.int .i64 o.a) ∧
  w.cell? ⟨b, off + i * 6 + 3, none⟩ = some (.int .i64 o.b) ∧ w.cell? ⟨b, off + i * 6 + 4, none⟩ = some (.string ⟨o.k.toArray⟩) ∧ w.cell? ⟨b, off + i * 6 + 5, none⟩ = some (.string ⟨o.v.toArray⟩)
 fits : ∀ o ∈ l, o.Fine
theorem RefAt.ty1 {w : World} {y : Nat} {d : DS} {ub : Option Nat} (h : RefAt w y d ub) : TyIn [92] w (· = y) := fun k a t f hk hb => by
 obtain ⟨_, us, hr, _⟩ := h
 have h1 := hr.blk
 rw [← hk, hb] at h1
 simp only [refBlock, Option.some.injEq, Obj.cells.injEq] at h1
 simp [h1.2.1]
set_option maxHeartbeats 8000000 in
set_option maxRecDepth 100000 in
theorem storeDoes_any (w : World) (ao : Option Addr) (ca : Nat) (sc : List OpS) (hS : OpsS w ao sc) :
  Calls Tryz.prog 6 #[.slice ao sc.length ca] w fun e w' => e = .returned (.bool true) ∧ Below w.heap.size w w' := by
 have HS := Lib.hid hS
 have hlen := hS.len
 have E0 := Lib.hid made_two
 clear hS
 have tt : ∀ (W : World), Texts (W.alloc (.cells #[.string ⟨#[]⟩, .string ⟨#[]⟩] 9)) (some ⟨W.heap.size, 0, none⟩) [[], []] := fun W => by
  obtain ⟨x0, x1, _, _⟩ := cells2 (heap_new W (.cells #[.string ⟨#[]⟩, .string ⟨#[]⟩] 9))
  exact ⟨by decide, fun i s hi => ⟨W.heap.size, 0, rfl, by
   match i, hi with
   | 0, hi => simp at hi; subst hi; exact x0
   | 1, hi => simp at hi; subst hi; exact x1⟩⟩
 have TT := Lib.hid tt
 clear tt
 go_enter Tryz.func6, Tryz.ntmps6
 go_wp2_with fail
 refine (new_any _ (some ⟨w.heap.size, 0, none⟩) 2 [[], []] (TT.out w)).mono ?_
 rw [E0.out]
 rintro e w1 ⟨hb1, ⟨h, _⟩ | ⟨d, c, hd, rfl, hc, hat⟩⟩
 ·cases h
 obtain rfl := Option.some.inj hd
 have HAT := Lib.hid hat
 have HB1 := Lib.hid (bthen (balloc w _) hb1)
 have hc' : w.heap.size ≤ c := by have := hc; simp at this; omega
 clear hb1 hd hat hc
 go_wp2_with fail
 refine (rnew_any _ (some ⟨w1.heap.size, 0, none⟩) 2 [[], []] (TT.out w1)).mono ?_
 rw [E0.out]
 rintro e w2 ⟨hb2, ⟨h, _⟩ | ⟨d, y, hd, rfl, hy, hrt⟩⟩
 ·cases h
 obtain rfl := Option.some.inj hd
 have HRT := Lib.hid hrt
 have HB2 := Lib.hid (bthen (balloc w1 _) hb2)
 have hy' : w.heap.size ≤ y := by have := hy; simp at this; have := HB1.out.size; omega
 have hw12 : w.heap.size ≤ w2.heap.size := Nat.le_trans HB1.out.size HB2.out.size
 clear hb2 hd hrt hy
 go_wp2_with fail
 have hw := new11_any c w2 {} 0 none (HAT.out.below HB2.out) (by decide)
 rw [FixS.new_s] at hw
 refine hw.mono ?_
 clear hw
 rintro e w3 ⟨v, rfl, h1, _, rb', hd2, hn2, ht2, _⟩
 obtain ⟨x, lg0, mb, rfl, hst, hx, hlg, hmb⟩ := h1 _ rfl
 have hold3 : Below w.heap.size w w3 := (HB1.out.trans (HB2.out.mono HB1.out.size)).trans (ht2.below hw12 fun k hk ho => by
  rcases ho with rfl | ho
  ·omega
  ·cases ho)
 have HONE : Hid (Sone w w3 x c FixS.s0 Wal.e0 1) := Lib.hid ⟨lg0, mb, rb', hst, hd2, hold3, Nat.le_trans hw12 hx, Nat.le_trans hw12 hlg, Nat.le_trans hw12 hmb, hc', fun k hk => (hn2 k hk).elim (fun e => by cases e) (Nat.le_trans hw12)⟩
 have HRT3 : Hid (RefAt w3 y {} none) := Lib.hid (HRT.out.other ht2 (fun e => by
  have h3 := (HAT.out.below HB2.out).typed y e
  obtain ⟨a, t, f, h4, h5⟩ := h3
  have h6 := HRT.out.ty1 y a t f rfl h4
  simp only [List.mem_cons, List.not_mem_nil, or_false] at h5 h6
  subst h6
  revert h5
  decide) (fun k a t f hk hb => by
  obtain ⟨a', t', f', h4, h5⟩ := (HAT.out.below HB2.out).typed k hk
  rw [hb] at h4
  cases h4
  intro e
  subst e
  revert h5
  decide))
 obtain ⟨F3, hsc3, hsi3⟩ := HONE.out.sc'
 have HSC3 := Lib.hid hsc3
 have HSI3 := Lib.hid hsi3
 have hy3 : y < w3.heap.size := by obtain ⟨_, us, h1, _⟩ := HRT3.out; exact heap_lt h1.blk
 clear h1 hd2 hn2 ht2 hx hlg hmb hst hold3 hsc3 hsi3
 go_wp2_with fail
 have hw := rnew11_any y w3 {} none HRT3.out
 rw [FixS.new_s] at hw
 refine hw.mono ?_
 clear hw
 rintro e w4 ⟨v, rfl, h1, _, ub', hd4, _, ht4⟩
 obtain ⟨z, lg, u, rfl, hrs, hz, hlg, hu⟩ := h1 _ rfl
 have hw3 : w.heap.size ≤ w3.heap.size := HSI3.out.old.size
 have HSC4 := Lib.hid (HSC3.out.aside ht4 (fun k a b => by
  obtain ⟨_, us, h3, _⟩ := HRT3.out
  have h4 := HSC3.out.ty k _ _ _ b (by rw [a]; exact h3.blk)
  revert h4
  decide))
 have HRS := Lib.hid hrs
 have HD4 := Lib.hid hd4
 have HOLD4 : Hid (Below w.heap.size w w4) := Lib.hid (HSI3.out.old.trans (ht4.below hw3 (fun k hk e => by omega)))
 have HUV : Hid (∀ g, u.ownBlock = some g → ¬ F3 g ∧ g ≠ z ∧ g ≠ lg ∧ g ≠ y) := Lib.hid (fun g hg => by
  obtain ⟨a1, a2, a3⟩ := hu g hg
  exact ⟨fun e => by have := HSC3.out.lt g e; omega, a2, a3, by omega⟩)
 have hz' : w.heap.size ≤ z := Nat.le_trans hw3 hz
 have hlg' : w.heap.size ≤ lg := Nat.le_trans hw3 hlg
 clear h1 hd4 ht4 hz hlg hu hrs
 go_wp2
 obtain ⟨w5, hw5⟩ : ∃ W, w4.alloc (.cells #[.pointer (some ⟨x, 0, none⟩), .pointer (some ⟨c, 0, none⟩), .pointer (some ⟨z, 0, none⟩), .pointer (some ⟨y, 0, none⟩), .slice none 0 0, .slice none 0 0] 77) = W := ⟨_, rfl⟩
 have hb5 := balloc w4 (.cells #[.pointer (some ⟨x, 0, none⟩), .pointer (some ⟨c, 0, none⟩), .pointer (some ⟨z, 0, none⟩), .pointer (some ⟨y, 0, none⟩), .slice none 0 0, .slice none 0 0] 77)
 have hn5 := heap_new w4 (.cells #[.pointer (some ⟨x, 0, none⟩), .pointer (some ⟨c, 0, none⟩), .pointer (some ⟨z, 0, none⟩), .pointer (some ⟨y, 0, none⟩), .slice none 0 0, .slice none 0 0] 77)
 rw [hw5] at hb5 hn5
 try rw [hw5]
 obtain ⟨e0, hep, hse, hne⟩ := SideAt.first HOLD4.out.size HSC4.out HRS.out ⟨_, HD4.out⟩ hb5 hn5 HSI3.out.low hz' hlg' hy' (Nat.le_refl _) HUV.out ⟨rfl, by decide, by decide, Nat.le_refl _⟩
 obtain ⟨w6, hw6⟩ : ∃ W, w5.alloc (.cells #[.pointer (some ⟨w4.heap.size, 0, none⟩)] 73) = W := ⟨_, rfl⟩
 have hb6 := balloc w5 (.cells #[.pointer (some ⟨w4.heap.size, 0, none⟩)] 73)
 have hn6 := heap_new w5 (.cells #[.pointer (some ⟨w4.heap.size, 0, none⟩)] 73)
 rw [hw6] at hb6 hn6
 try rw [hw6]
 have h45 : w4.heap.size ≤ w5.heap.size := hb5.size
 have hro : w6.ownsRow w.heap.size 73 1 (.slice (some ⟨w5.heap.size, 0, none⟩) 1 1) 1 (sidePtrs [e0]) := by
  refine ⟨rfl, .inr ⟨w5.heap.size, 1, _, rfl, by have := HOLD4.out.size; omega, hn6, Nat.le_refl _, by decide, rfl, by simp [sidePtrs, hep]⟩⟩
 have HREL : Hid (DoesRel w w6 0 1 [e0] (.slice (some ⟨w5.heap.size, 0, none⟩) 1 1)) := Lib.hid (by
  have h0 : Herd11 w5 e0.own w.heap.size 0 [e0] := ⟨fun i q hi => by
   match i, hi with
   | 0, hi => cases hi; exact hse, fun i j q q' h1 h2 hne' => by
   match i, j, h1, h2 with
   | 0, 0, _, _ => exact absurd rfl hne', fun q hq => by simp only [List.mem_singleton] at hq; subst hq; exact hne⟩
  refine ⟨⟨fun n => e0.own n ∨ n = w5.heap.size, h0.wider (S := fun _ => False) (Touch.of_below hb6) (fun _ a => a.elim) (fun n hn => hn.imp id (fun e => by omega)) (fun _ => .inl) (fun n hn => ?_), fun g hg => .inr (Option.some.inj hg).symm⟩, hro, HOLD4.out.trans ((bthen hb5 hb6).mono HOLD4.out.size), by simp, Nat.le_refl _⟩
  rcases hn with hn | hn
  ·exact Nat.lt_of_lt_of_le (hse.doc.lt n hn) hb6.size
  ·rw [hn]; exact heap_lt hn6)
 have hs5 : w5.heap.size = w4.heap.size + 1 := by rw [← hw5]; simp
 rw [hs5] at HREL
 clear hb5 hn5 hep hse hne hb6 hn6 hro hw5 hw6 hs5 h45
 go_loopw [11, 12] (fun lv i wr => ∃ (j : Nat) (L : List Ent11), i = .int .i64 j ∧ j ≤ sc.length ∧ DoesRel w wr j (j + 1) L lv) (fun _ i _ => sc.length - (intOf i).toNat)
 case atStart => exact ⟨0, [e0], rfl, Nat.zero_le _, HREL.out⟩
 case round =>
  clear HREL HAT HB1 HRT HB2 HONE HRT3 HSC3 HSI3 HSC4 HRS HD4 HOLD4 HUV TT E0
  obtain ⟨j, L, rfl, hj, hrel⟩ := hrel
  obtain ⟨g, cap, hlv, hcap, hg, hcl⟩ := row_ptr hrel.row hrel.pos
  subst hlv
  have HR := Lib.hid hrel
  have HCL := Lib.hid hcl
  have hLp := hrel.pos
  have hLf := hrel.few
  clear hrel hcl
  by_cases hlt : j < sc.length
  ·obtain ⟨⟨on, kind, a, b, KY, VL⟩, ho⟩ : ∃ o, sc[j]? = some o := ⟨_, List.getElem?_eq_getElem hlt⟩
   obtain ⟨bb, off, rfl, hbl, k0, k1, k2, k3, k4, k5⟩ := HS.out.cell j _ ho
   have HOF := Lib.hid (HS.out.fits _ (List.mem_of_getElem? ho))
   simp only at k0 k1 k2 k3 k4 k5
   have hold := HR.out.old
   have q0 := (hold.cell (p := ⟨bb, off + j * 6, none⟩) hbl).trans k0
   have q1 := (hold.cell (p := ⟨bb, off + j * 6 + 1, none⟩) hbl).trans k1
   have q2 := (hold.cell (p := ⟨bb, off + j * 6 + 2, none⟩) hbl).trans k2
   have q3 := (hold.cell (p := ⟨bb, off + j * 6 + 3, none⟩) hbl).trans k3
   have q4 := (hold.cell (p := ⟨bb, off + j * 6 + 4, none⟩) hbl).trans k4
   have q5 := (hold.cell (p := ⟨bb, off + j * 6 + 5, none⟩) hbl).trans k5
   obtain ⟨N, hN⟩ : ∃ N : Nat, (N : Int) = on % (L.length : Int) := ⟨(on % (L.length : Int)).toNat, by have := Int.emod_nonneg on (show (L.length : Int) ≠ 0 by omega); omega⟩
   have hNL : N < L.length := by have := Int.emod_lt_of_pos on (show (0 : Int) < L.length by omega); omega
   obtain ⟨e, he⟩ : ∃ e, L[N]? = some e := ⟨_, List.getElem?_eq_getElem hNL⟩
   have HE := Lib.hid he
   have HPL := Lib.hid (place11_any on (L.length : Int))
   rw [← hN] at HPL
   clear ho k0 k1 k2 k3 k4 k5 hold hN he
   go_wp2_with fail
   obtain ⟨B9, hB9⟩ : ∃ n, wr.heap.size = n := ⟨_, rfl⟩
   obtain ⟨wa, hwa⟩ : ∃ W, wr.alloc (.cells #[.int .i64 on, .int .i64 kind, .int .i64 a, .int .i64 b, .string ⟨KY.toArray⟩, .string ⟨VL.toArray⟩] 80) = W := ⟨_, rfl⟩
   have hba := balloc wr (.cells #[.int .i64 on, .int .i64 kind, .int .i64 a, .int .i64 b, .string ⟨KY.toArray⟩, .string ⟨VL.toArray⟩] 80)
   have hna := heap_new wr (.cells #[.int .i64 on, .int .i64 kind, .int .i64 a, .int .i64 b, .string ⟨KY.toArray⟩, .string ⟨VL.toArray⟩] 80)
   rw [hwa] at hba
   rw [hwa, hB9] at hna
   try rw [hwa]
   try rw [hB9]
   have HRA := Lib.hid (HR.out.below hba)
   have HOB : Hid (wa.heap[B9]? = some (.cells #[.int .i64 on, .int .i64 kind, .int .i64 a, .int .i64 b, .string ⟨KY.toArray⟩, .string ⟨VL.toArray⟩] 80 (0, 0))) := Lib.hid hna
   have r1 := cell_later hba (HCL.out N (.pointer (some ⟨e.p, 0, none⟩)) (by simp [sidePtrs, HE.out]))
   have o1 := cell_of (i := 1) hna rfl
   have hB9l : wr.heap.size ≤ B9 := Nat.le_of_eq hB9
   clear q0 q1 q2 q3 q4 q5 hba hna hwa hB9
   refine (HPL.out wa (by omega) (by omega)).mono ?_
   rintro x _ ⟨rfl, rfl⟩
   obtain ⟨UA, hherd, huu⟩ := HRA.out.herd
   have HH := Lib.hid hherd
   have HU := Lib.hid huu
   clear hherd huu HPL
   by_cases k10 : kind = 10
   ·subst k10
    have HSE := Lib.hid (HH.out.one N e HE.out)
    have HNM := Lib.hid (HH.out.num e (List.mem_of_getElem? HE.out))
    have hmm := HNM.out.m
    have p0 : wa.cell? ⟨e.p, 0, none⟩ = some (.pointer (some ⟨e.x, 0, none⟩)) := cell_of HSE.out.blk rfl
    have p1 : wa.cell? ⟨e.p, 1, none⟩ = some (.pointer (some ⟨e.c, 0, none⟩)) := cell_of HSE.out.blk rfl
    have p2 : wa.cell? ⟨e.p, 2, none⟩ = some (.pointer (some ⟨e.z, 0, none⟩)) := cell_of HSE.out.blk rfl
    have p3 : wa.cell? ⟨e.p, 3, none⟩ = some (.pointer (some ⟨e.y, 0, none⟩)) := cell_of HSE.out.blk rfl
    have HBB : Hid (∀ w' : World, Below wa.heap.size wa w' → (w'.cell? ⟨e.p, 0, none⟩ = some (.pointer (some ⟨e.x, 0, none⟩)) ∧ w'.cell? ⟨e.p, 1, none⟩ = some (.pointer (some ⟨e.c, 0, none⟩)) ∧ w'.cell? ⟨e.p, 2, none⟩ = some (.pointer (some ⟨e.z, 0, none⟩)) ∧ w'.cell? ⟨e.p, 3, none⟩ = some (.pointer (some ⟨e.y, 0, none⟩)))) := Lib.hid (fun w' h => ⟨cell_later h p0, cell_later h p1, cell_later h p2, cell_later h p3⟩)
    clear p0 p1 p2 p3
    go_wp2_with fail
    have B1 := Lib.hid (Below.refl wa.heap.size wa).drew
    have hS1 := HBB.out wa.drew B1.out
    refine wp_region_heldL (S := fun w' => w'.cell? ⟨e.p, 0, none⟩ = some (.pointer (some ⟨e.x, 0, none⟩)) ∧ w'.cell? ⟨e.p, 1, none⟩ = some (.pointer (some ⟨e.c, 0, none⟩)) ∧ w'.cell? ⟨e.p, 2, none⟩ = some (.pointer (some ⟨e.z, 0, none⟩)) ∧ w'.cell? ⟨e.p, 3, none⟩ = some (.pointer (some ⟨e.y, 0, none⟩))) (by kernel_rfl) ?_
    refine planned [0, 1, 2, 3, 5, 6, 7, 8] ?_
    iterate 8 (refine planned_take (v := ?_) rfl (by kernel_rfl) (by kernel_rfl) (by kernel_rfl) (fun _ _ _ h => h) ?_ (by assumption) ?_; rotate_left; (focus (first | (refine Or.inr ⟨by rfl, ?_⟩; with_reducible rfl) | (refine Or.inl ⟨by rfl, ?_⟩; (intro w hSw; (try dsimp only at hSw); go_simp); try with_reducible rfl))); try simp only [Act.put, List.setIfInBounds_toArray, List.set_cons_zero, List.set_cons_succ])
    refine planned_end ?_
    refine wpAnyH_oneL (i := 4) rfl (by kernel_rfl) ?_
    intro K hK
    rw [if_pos (by rfl)]
    go_simp
    go_at_call 11
    refine (dclone_sc (HSE.out.prog.below B1.out) (by omega)).mono ?_
    rintro x w1 ⟨c', rb', rfl, hc1, hd1, hr1, b1⟩
    have B2 := Lib.hid (bthen B1.out b1)
    have HD1 := Lib.hid hd1
    have hc' : wa.heap.size ≤ c' := Nat.le_trans B1.out.size hc1
    have HRB : Hid (∀ k, rb' = some k → wa.heap.size ≤ k) := Lib.hid (fun k hk => Nat.le_trans B1.out.size (hr1 k hk))
    have hS2 := HBB.out w1 B2.out
    clear hc1 hd1 hr1 b1
    refine hK _ _ hS2 ?_
    clear hK K
    try simp only [Act.put, List.setIfInBounds_toArray, List.set_cons_zero, List.set_cons_succ]
    refine wpAnyH_oneL (i := 9) rfl (by kernel_rfl) ?_
    intro K hK
    rw [if_pos (by rfl)]
    go_simp
    go_at_call 13
    refine (dcopy_doc (HSE.out.doc.below B2.out)).mono ?_
    rintro x w2 ⟨y', ub', rfl, hy1, hr2, b2⟩
    have B3 := Lib.hid (bthen B2.out b2)
    have HD2 := Lib.hid (HD1.out.below b2)
    have HR2 := Lib.hid hr2
    have hy' : wa.heap.size ≤ y' := Nat.le_trans B2.out.size hy1
    have hS3 := HBB.out w2 B3.out
    clear hy1 hr2 b2
    refine hK _ _ hS3 ?_
    clear hK K
    try simp only [Act.put, List.setIfInBounds_toArray, List.set_cons_zero, List.set_cons_succ]
    refine planned [10, 11] ?_
    iterate 2 (refine planned_take (v := ?_) rfl (by kernel_rfl) (by kernel_rfl) (by kernel_rfl) (fun _ _ _ h => h) ?_ (by assumption) ?_; rotate_left; (focus (first | (refine Or.inr ⟨by rfl, ?_⟩; with_reducible rfl) | (refine Or.inl ⟨by rfl, ?_⟩; (intro w hSw; (try dsimp only at hSw); go_simp); try with_reducible rfl))); try simp only [Act.put, List.setIfInBounds_toArray, List.set_cons_zero, List.set_cons_succ])
    refine planned_end ?_
    refine wpAnyH_done (by kernel_rfl) ?_ _
    clear hS1 hS2 hS3
    go_wp2_with fail
    have B4 := Lib.hid (bthen B3.out (Below.refl _ w2).drew)
    have hS1 := HBB.out w2.drew B4.out
    refine wp_region_heldL (S := fun w' => w'.cell? ⟨e.p, 0, none⟩ = some (.pointer (some ⟨e.x, 0, none⟩)) ∧ w'.cell? ⟨e.p, 1, none⟩ = some (.pointer (some ⟨e.c, 0, none⟩)) ∧ w'.cell? ⟨e.p, 2, none⟩ = some (.pointer (some ⟨e.z, 0, none⟩)) ∧ w'.cell? ⟨e.p, 3, none⟩ = some (.pointer (some ⟨e.y, 0, none⟩))) (by kernel_rfl) ?_
    refine planned [0, 1, 2, 3, 4, 6, 7, 8, 9, 10, 11, 13] ?_
    iterate 12 (refine planned_take (v := ?_) rfl (by kernel_rfl) (by kernel_rfl) (by kernel_rfl) (fun _ _ _ h => h) ?_ (by assumption) ?_; rotate_left; (focus (first | (refine Or.inr ⟨by rfl, ?_⟩; with_reducible rfl) | (refine Or.inl ⟨by rfl, ?_⟩; (intro w hSw; (try dsimp only at hSw); go_simp); try with_reducible rfl))); try simp only [Act.put, List.setIfInBounds_toArray, List.set_cons_zero, List.set_cons_succ])
    refine planned_end ?_
    refine wpAnyH_oneL (i := 5) rfl (by kernel_rfl) ?_
    intro K hK
    rw [if_pos (by rfl)]
    go_simp
    go_at_call 35
    refine (clone_sc (HSE.out.prog.below B4.out) (HD2.out.below (Below.refl _ w2).drew)).mono ?_
    rintro x w3 ⟨x', F', rfl, hsc3, hF3, b3⟩
    have B5 := Lib.hid (bthen B4.out b3)
    have SC3 := Lib.hid hsc3
    have HF3 : Hid (∀ k, F' k → wa.heap.size ≤ k) := Lib.hid (fun k hk => by
     rcases hF3 k hk with h | h | h
     ·rw [h]; exact hc'
     ·exact HRB.out k h
     ·exact Nat.le_trans B4.out.size h)
    have HR3 := Lib.hid (HR2.out.below (bthen (Below.refl _ w2).drew b3))
    have hS2 := HBB.out w3 B5.out
    clear hsc3 hF3 b3
    refine hK _ _ hS2 ?_
    clear hK K
    try simp only [Act.put, List.setIfInBounds_toArray, List.set_cons_zero, List.set_cons_succ]
    refine wpAnyH_oneL (i := 12) rfl (by kernel_rfl) ?_
    intro K hK
    rw [if_pos (by rfl)]
    go_simp
    go_at_call 36
    have hdoc := HSE.out.doc.other (S := fun _ => False) (UA' := fun k => UA k ∨ k = y') (Touch.of_below B5.out) (fun _ a => a.elim) (fun _ _ _ _ a => a.elim) (fun k hk => hk.imp id (fun h => by rw [h]; exact hy')) (fun k hk => .inl (HSE.out.doc.sub k hk)) (fun k hk => by
     rcases hk with hk | hk
     ·exact Nat.lt_of_lt_of_le (HSE.out.doc.lt k hk) B5.out.size
     ·obtain ⟨_, us, h1, _⟩ := HR3.out
      rw [hk]; exact heap_lt h1.blk)
    refine (copy_doc hdoc (.inr rfl) HR3.out).mono ?_
    rintro x w4 ⟨z', lg', rfl, hz1, hl1, hd4, b4⟩
    have B6 := Lib.hid (bthen B5.out b4)
    have DC4 := Lib.hid hd4
    have SC4 := Lib.hid (SC3.out.below b4)
    have hz' : wa.heap.size ≤ z' := Nat.le_trans B5.out.size hz1
    have hl' : wa.heap.size ≤ lg' := Nat.le_trans B5.out.size hl1
    have hS3 := HBB.out w4 B6.out
    clear hdoc hz1 hl1 hd4 b4
    refine hK _ _ hS3 ?_
    clear hK K
    try simp only [Act.put, List.setIfInBounds_toArray, List.set_cons_zero, List.set_cons_succ]
    refine wpAnyH_takeL (i := 14) (v := ?_) rfl (by kernel_rfl) (by kernel_rfl) (by kernel_rfl) (fun _ _ _ h => h) ?_ (by assumption) ?_; rotate_left; focus (first | (refine Or.inr ⟨by rfl, ?_⟩; with_reducible rfl) | (refine Or.inl ⟨by rfl, ?_⟩; (intro w hSw; (try dsimp only at hSw); go_simp); try with_reducible rfl))
    try simp only [Act.put, List.setIfInBounds_toArray, List.set_cons_zero, List.set_cons_succ]
    refine wpAnyH_oneL (i := 15) rfl (by kernel_rfl) ?_
    intro K hK
    rw [if_pos (by rfl)]
    go_simp
    obtain ⟨w5, hw5⟩ : ∃ W, w4.alloc (.cells #[.pointer (some ⟨x', 0, none⟩), .pointer (some ⟨c', 0, none⟩), .pointer (some ⟨z', 0, none⟩), .pointer (some ⟨y', 0, none⟩), .slice none 0 0, .slice none 0 0] 77) = W := ⟨_, rfl⟩
    have hb5 := balloc w4 (.cells #[.pointer (some ⟨x', 0, none⟩), .pointer (some ⟨c', 0, none⟩), .pointer (some ⟨z', 0, none⟩), .pointer (some ⟨y', 0, none⟩), .slice none 0 0, .slice none 0 0] 77)
    have hn5 := heap_new w4 (.cells #[.pointer (some ⟨x', 0, none⟩), .pointer (some ⟨c', 0, none⟩), .pointer (some ⟨z', 0, none⟩), .pointer (some ⟨y', 0, none⟩), .slice none 0 0, .slice none 0 0] 77)
    rw [hw5] at hb5 hn5
    try rw [hw5]
    have B7 := Lib.hid (bthen B6.out hb5)
    have HN5 := Lib.hid hn5
    have hcl := HSE.out.cloned HRA.out.old.size B7.out (SC4.out.below hb5) (DC4.out.below hb5) hn5 HF3.out hz' hl' hy' B6.out.size
    have HCLN := Lib.hid hcl
    have hS4 := HBB.out w5 B7.out
    clear hb5 hn5 hw5 hcl
    refine hK _ _ hS4 ?_
    clear hK K
    try simp only [Act.put, List.setIfInBounds_toArray, List.set_cons_zero, List.set_cons_succ]
    refine wpAnyH_takeL (i := 16) (v := ?_) rfl (by kernel_rfl) (by kernel_rfl) (by kernel_rfl) (fun _ _ _ h => h) ?_ (by assumption) ?_; rotate_left; focus (first | (refine Or.inr ⟨by rfl, ?_⟩; with_reducible rfl) | (refine Or.inl ⟨by rfl, ?_⟩; (intro w hSw; (try dsimp only at hSw); go_simp); try with_reducible rfl))
    try simp only [Act.put, List.setIfInBounds_toArray, List.set_cons_zero, List.set_cons_succ]
    refine wpAnyH_done (by kernel_rfl) ?_ _
    clear hS1 hS2 hS3 hS4
    obtain ⟨eN, hse, hnw, hpN, hnN⟩ := HCLN.out
    have SEN := Lib.hid hse
    have NWN := Lib.hid hnw
    have NMN := Lib.hid (hnN j HNM.out)
    have HPN := Lib.hid hpN
    obtain ⟨pN, hpn⟩ : ∃ p, w4.heap.size = p := ⟨_, rfl⟩
    rw [hpn] at HN5 HPN
    rw [hpn]
    have c0 : w5.cell? ⟨pN, 0, none⟩ = some (.pointer (some ⟨x', 0, none⟩)) := cell_of HN5.out rfl
    obtain ⟨w7, hw7⟩ : ∃ W, w5.alloc (.cells #[.pointer (some ⟨pN, 0, none⟩)] 73) = W := ⟨_, rfl⟩
    have hb7 := balloc w5 (.cells #[.pointer (some ⟨pN, 0, none⟩)] 73)
    have hn7 := heap_new w5 (.cells #[.pointer (some ⟨pN, 0, none⟩)] 73)
    rw [hw7] at hb7 hn7
    have HB7 := Lib.hid hb7
    have HN7 := Lib.hid hn7
    have HW7 := Lib.hid hw7
    have ROW7 := Lib.hid (own_touch HRA.out.row (Touch.of_below (S := fun _ => False) (bthen B7.out hb7)) (fun _ _ a => a))
    have hLk : L.length ≤ 1048577 := by omega
    have hw7s : w.heap.size ≤ w7.heap.size := Nat.le_trans HRA.out.old.size (bthen B7.out hb7).size
    clear hse hnw hpN hnN hpn hb7 hn7 hw7 HCLN
    go_wp2_with (first | (at_builtin; go_must (rw [HW7.out]; refine wpList_append_own2 _ rfl (.tmp 120) (.tmp 122) 78 rfl w.heap.size 73 1 8 _ sideInfo Tryz.underlying78 rfl (by decide) (.slice (some ⟨g, 0, none⟩) L.length cap) L.length (sidePtrs L) rfl ROW7.out ⟨w5.heap.size, 0, none⟩ 1 1 [.pointer (some ⟨pN, 0, none⟩)] rfl rfl (fun i u hi => by rw [addr_add, Nat.zero_add]; exact cell_of HN7.out (by simpa using hi)) (by intro u hu; simp at hu; subst hu; rfl) (by unfold maxLen; omega) (by omega) hw7s ?_; intro lv w8 ho8 hg8 hv8; have HPU := Lib.hid (HRA.out.pushed HH.out HU.out B7.out SEN.out NWN.out NMN.out HB7.out (by rw [HPN.out]; exact ho8) (touch_of_grown hg8) hv8); have HOB8 := Lib.hid ((touch_of_grown hg8).block B9 (Nat.lt_of_lt_of_le (heap_lt HOB.out) (bthen B7.out HB7.out).size) (fun e1 => by have e2 : g = B9 := Option.some.inj e1; omega) |>.trans (stays HOB.out (bthen B7.out HB7.out))); obtain ⟨g8, c8, hgv8, _⟩ := row_ptr ho8 (Nat.succ_pos _); subst hgv8; clear ho8 hg8 hv8; have o1 := cell_of (i := 1) HOB8.out rfl; have o0 := cell_of (i := 0) HOB8.out rfl; have o2 := cell_of (i := 2) HOB8.out rfl; have o3 := cell_of (i := 3) HOB8.out rfl; have o4 := cell_of (i := 4) HOB8.out rfl; have o5 := cell_of (i := 5) HOB8.out rfl)))
    obtain ⟨UA8, hh8, hu8, hr8⟩ := HPU.out
    have HH8 := Lib.hid hh8
    have HU8 := Lib.hid hu8
    have HR8 := Lib.hid hr8
    have HE8 : Hid ((L ++ [eN])[N]? = some e) := Lib.hid (by rw [List.getElem?_append_left hNL]; exact HE.out)
    clear hh8 hu8 hr8 HPU c0
    have hob := HOB8.out
    have o0' := cell_of (i := 0) hob rfl
    have o1' := cell_of (i := 1) hob rfl
    have o2' := cell_of (i := 2) hob rfl
    have o3' := cell_of (i := 3) hob rfl
    have o4' := cell_of (i := 4) hob rfl
    have o5' := cell_of (i := 5) hob rfl
    clear hob
    have hBW : w.heap.size ≤ w8.heap.size := HR8.out.old.size
    refine (does11s_any w8 UA8 w.heap.size j e ⟨on, 10, a, b, KY, VL⟩ (HH8.out.one N e HE8.out) (HH8.out.num e (List.mem_of_getElem? HE8.out)) HOF.out hBW (by omega)).mono ?_
    rintro x wb ⟨rfl, e', hst, hnum⟩
    have HREL2 := Lib.hid (HR8.out.turn HH8.out HU8.out HE8.out hst hnum)
    have HSE := Lib.hid hst.1
    have hep : e'.p = e.p := hst.2.2
    have hsm := ssame_any wb _ _ e' hst.1
    rw [hep] at hsm
    have HSM := Lib.hid hsm
    clear hst hnum hsm o0' o1' o2' o3' o4' o5'
    go_wp2_with fail
    refine HSM.out.mono ?_
    rintro x wc ⟨rfl, bc⟩
    have HREL3 := Lib.hid (HREL2.out.below bc)
    clear bc HSM
    go_wp2_with fail
    go_roundw
    case rel => exact ⟨j + 1, _, by go_num, by omega, HREL3.out.more (by omega)⟩
    case measure => simp [intOf]; omega
   ·have kb10 : (kind == 10) = false := by simp [k10]
    have hob := HOB.out
    have o0' := cell_of (i := 0) hob rfl
    have o1' := cell_of (i := 1) hob rfl
    have o2' := cell_of (i := 2) hob rfl
    have o3' := cell_of (i := 3) hob rfl
    have o4' := cell_of (i := 4) hob rfl
    have o5' := cell_of (i := 5) hob rfl
    clear hob
    go_wp2_with fail
    have hBW : w.heap.size ≤ wa.heap.size := HRA.out.old.size
    refine (does11s_any wa UA w.heap.size j e ⟨on, kind, a, b, KY, VL⟩ (HH.out.one N e HE.out) (HH.out.num e (List.mem_of_getElem? HE.out)) HOF.out hBW (by omega)).mono ?_
    rintro x wb ⟨rfl, e', hst, hnum⟩
    have HREL2 := Lib.hid (HRA.out.turn HH.out HU.out HE.out hst hnum)
    have HSE := Lib.hid hst.1
    have hep : e'.p = e.p := hst.2.2
    have hsm := ssame_any wb _ _ e' hst.1
    rw [hep] at hsm
    have HSM := Lib.hid hsm
    clear hst hnum hsm o0' o1' o2' o3' o4' o5'
    go_wp2_with fail
    refine HSM.out.mono ?_
    rintro x wc ⟨rfl, bc⟩
    have HREL3 := Lib.hid (HREL2.out.below bc)
    clear bc HSM
    go_wp2_with fail
    go_roundw
    case rel => exact ⟨j + 1, _, by go_num, by omega, HREL3.out.more (by omega)⟩
    case measure => simp [intOf]; omega
  ·obtain rfl : j = sc.length := by omega
   go_wp2
   go_loopw [20] (fun i wr' => ∃ m : Nat, i = .int .i64 m ∧ m ≤ L.length ∧ DoesRel w wr' sc.length (sc.length + 1) L (.slice (some ⟨g, 0, none⟩) L.length cap)) (fun i _ => L.length - (intOf i).toNat)
   case atStart => exact ⟨0, rfl, Nat.zero_le _, HR.out⟩
   case round =>
    clear HR HCL
    obtain ⟨m, rfl, hm, hrel⟩ := hrel
    obtain ⟨g', cap', hlv, _, _, hcl⟩ := row_ptr hrel.row hrel.pos
    cases hlv
    have HR := Lib.hid hrel
    obtain ⟨UA, hherd, _⟩ := hrel.herd
    by_cases hml : m < L.length
    ·obtain ⟨e, he⟩ : ∃ e, L[m]? = some e := ⟨_, List.getElem?_eq_getElem hml⟩
     have r1 := hcl m (.pointer (some ⟨e.p, 0, none⟩)) (by simp [sidePtrs, he])
     have HSM := Lib.hid (ssame_any _ UA w.heap.size e (hherd.one m e he))
     clear hrel hcl hherd he
     go_wp2_with fail
     refine HSM.out.mono ?_
     rintro x wc ⟨rfl, bc⟩
     have HR2 := Lib.hid (HR.out.below bc)
     clear bc
     go_wp2_with fail
     go_roundw
     case rel => exact ⟨m + 1, by go_num, by omega, HR2.out⟩
     case measure => simp [intOf]; omega
    ·have hml2 : m = L.length := by omega
     clear hrel hcl hherd
     go_wp2_with fail
     refine (fixed11_any _).mono ?_
     rintro x wf ⟨rfl, bf⟩
     have HR2 := Lib.hid (HR.out.below bf)
     clear bf
     go_wp2
     go_ret
     exact ⟨rfl, HR2.out.old⟩
end Go.Proofs.YtpjpknndfhablaaGreat
namespace Go.Proofs.YtpjpknndfhablaaGreat
open Go.ChangeShapes Go.WideShapes Go.ChangeAt Go.RowKit Go.Deep
theorem bulk_bound2 {H : Type} {l : List (DataW H)} (hk : Rows.uptoSmall H l = true) : Rows.uptoBulkAll l ≤ 1048576 := of_decide_eq_true hk
theorem Tryz.cellsOp11 : Tryz.prog.cellsOf 80 = 6 := by kernel_rfl
theorem open_opsS {H : Type} {enc : TypeId × Value → H} {W : World} {sp : Nat → Bool} {held : Bool} {fuel : Nat} {cs : List Value} {y : DataW H × List MemPlace} (hw : ∀ k ∈ y.1.weights Tryz.prog 72, k ≤ reachBytes) (hb : Rows.uptoBulk y.1 ≤ 1048576) (hf : DataW.trod enc Tryz.prog W 0 sp held fuel 72 cs = some y) :
  ∃ ao len cap l, cs = [.slice ao len cap] ∧ l.length = len ∧ OpsS W ao l := by
 rcases open_slice_fields Tryz.underlying72 Tryz.underlying80 (by kernel_rfl) Tryz.cellsOp11 hf with ⟨hcs, _⟩ | ⟨a, len, cap, m, D, Pl, hcs, _, hl, hm, hmm, hx, hc⟩
 ·exact ⟨none, 0, 0, [], hcs, rfl, by simp, by simp, by simp⟩
 ·subst hx
  have hlm : len ≤ m := by rw [hmm]; split <;> omega
  have hlen : len ≤ 1048576 := by
   have := bulk_slice hb
   simpa using this
  obtain ⟨l, hll, hq⟩ := list_of (T := OpS) (Q := fun i o => (∃ b off, (some a : Option Addr) = some ⟨b, off, none⟩ ∧ b < W.heap.size ∧ W.cell? ⟨b, off + i * 6, none⟩ = some (.int .i64 o.on) ∧ W.cell? ⟨b, off + i * 6 + 1, none⟩ = some (.int .i64 o.kind) ∧ W.cell? ⟨b, off + i * 6 + 2, none⟩ = some (.int .i64 o.a) ∧
    W.cell? ⟨b, off + i * 6 + 3, none⟩ = some (.int .i64 o.b) ∧ W.cell? ⟨b, off + i * 6 + 4, none⟩ = some (.string ⟨o.k.toArray⟩) ∧ W.cell? ⟨b, off + i * 6 + 5, none⟩ = some (.string ⟨o.v.toArray⟩)) ∧ o.Fine) len (fun i hi => by
   obtain ⟨ys, n, hD, _, _, hf⟩ := hc i (by omega)
   obtain ⟨v0, y0, c0, _, t0⟩ := hf 0 _ rfl
   obtain ⟨v1, y1, c1, _, t1⟩ := hf 1 _ rfl
   obtain ⟨v2, y2, c2, _, t2⟩ := hf 2 _ rfl
   obtain ⟨v3, y3, c3, _, t3⟩ := hf 3 _ rfl
   obtain ⟨v4, y4, c4, hy4, t4⟩ := hf 4 _ rfl
   obtain ⟨v5, y5, c5, hy5, t5⟩ := hf 5 _ rfl
   obtain ⟨n0, e0, _, _⟩ := DataW.trod_int Tryz.underlying3 t0
   obtain ⟨n1, e1, _, _⟩ := DataW.trod_int Tryz.underlying3 t1
   obtain ⟨n2, e2, _, w2⟩ := DataW.trod_int Tryz.underlying3 t2
   obtain ⟨n3, e3, _, w3⟩ := DataW.trod_int Tryz.underlying3 t3
   obtain ⟨s, e4, x4, _⟩ := DataW.trod_string Tryz.underlying9 t4
   obtain ⟨u, e5, x5, _⟩ := DataW.trod_string Tryz.underlying9 t5
   simp at e0 e1 e2 e3 e4 e5
   subst e0 e1 e2 e3 e4 e5
   subst x4 x5
   have hs : s.data.toList.length ≤ reachBytes := by
    refine hw _ ?_
    simp only [DataW.weights, Tryz.underlying72, List.mem_cons, List.mem_append]
    refine Or.inr (Or.inl (weightsAll_mem (List.mem_map.2 ⟨i, List.mem_range.2 hi, rfl⟩) _ ?_))
    rw [hD]
    simp only [DataW.weights, Tryz.underlying80]
    exact DataW.weights_mem_each (j := 4) (t := 9) (d := .lit (.string s.data.toList)) rfl (by rw [List.getElem?_map, hy4]; rfl) _ (by simp [DataW.weights])
   have hu : u.data.toList.length ≤ reachBytes := by
    refine hw _ ?_
    simp only [DataW.weights, Tryz.underlying72, List.mem_cons, List.mem_append]
    refine Or.inr (Or.inl (weightsAll_mem (List.mem_map.2 ⟨i, List.mem_range.2 hi, rfl⟩) _ ?_))
    rw [hD]
    simp only [DataW.weights, Tryz.underlying80]
    exact DataW.weights_mem_each (j := 5) (t := 9) (d := .lit (.string u.data.toList)) rfl (by rw [List.getElem?_map, hy5]; rfl) _ (by simp [DataW.weights])
   obtain ⟨_, _, _, _, _, hf0⟩ := hc 0 (by omega)
   obtain ⟨_, _, z0, _⟩ := hf0 0 _ rfl
   rw [Nat.zero_mul] at z0
   obtain ⟨b, off, rfl⟩ := plainSpot z0
   simp only [add_plain] at c0 c1 c2 c3 c4 c5
   exact ⟨⟨n0, n1, n2, n3, s.data.toList, u.data.toList⟩, ⟨b, off, rfl, cell_lt c0, c0, c1, c2, c3, c4, c5⟩, ⟨(int_fits w2).2, (int_fits w2).1, (int_fits w3).2, Nat.le_trans hs (by simp [reachBytes, maxLen]), Nat.le_trans hu (by simp [reachBytes, maxLen])⟩⟩)
  refine ⟨some a, len, cap, l, hcs, hll, by omega, fun i o hi => (hq i o hi).1, fun o ho => ?_⟩
  obtain ⟨i, hi⟩ := List.getElem?_of_mem ho
  exact (hq i o hi).2
set_option maxRecDepth 100000 in
theorem storeDoes_contract (H : Type) (enc : TypeId × Value → H) (W : World) (base : Nat) (args : Array Value) (ds gs : List (DataW H)) (before : List MemPlace)
  (hval : ∀ (j : Nat) t v, Tryz.f6.params[j]? = some t → args[j]? = some v → Value.okWide Tryz.prog W .any base t v)
  (hW : DataW.Whole enc Tryz.prog Tryz.f6.params.toList Rows.storeDoesSpec.vars false W args.toList ds gs before)
  (hbulk : Rows.uptoBulkAll (ds ++ gs) ≤ 1048576)
  (hsz : (DataW.weightsEach Tryz.prog (Tryz.f6.params.toList ++ Rows.storeDoesSpec.plain.varTypes Tryz.prog) (ds ++ gs)).all (· ≤ reachBytes) = true) :
  Calls Tryz.prog 6 args W fun e W' => ∃ v, e = .returned v ∧ Rows.storeDoesSpec.post enc Tryz.prog Tryz.f6 false true false false W args v W' := by
 have hW' := hW
 obtain ⟨p, q, hA0, hV, rfl, _, _⟩ := hW
 have hA : DataW.TrodAll enc Tryz.prog W 0 (fun _ => true) true Tryz.f6.params.toList args.toList ds p := hA0
 rw [Tryz.params6] at hA hval hsz
 obtain ⟨v0, d0, rfl, rfl, h0⟩ := trodAll_one hA
 obtain ⟨rfl, rfl⟩ := trodVars_none hV
 obtain ⟨a0, n0, c0, rfl⟩ := okWide_slice Tryz.underlying72 (hval 0 72 v0 rfl rfl)
 have hb0 : Rows.uptoBulk d0 ≤ 1048576 := Nat.le_trans (bulk_part (by simp)) hbulk
 obtain ⟨f0, g0⟩ := h0
 obtain ⟨_, _, _, l0, e0, hl0, hc0⟩ := open_opsS (y := (d0, p)) (weights_of hsz (j := 0) rfl rfl) hb0 g0
 simp [Value.cells] at e0
 obtain ⟨rfl, rfl, rfl⟩ := e0
 subst hl0
 have h0 : DataW.Trod enc Tryz.prog W 0 (fun _ => true) true _ _ d0 p := ⟨f0, g0⟩
 clear hA0
 simp only [List.append_nil] at hW'
 have hlt0 : ∀ x ∈ p, x.block < W.heap.size := fun x hx => hW'.lt x (by simp [hx])
 refine (storeDoes_any W a0 c0 l0 hc0).mono fun e W' ⟨he, hnx⟩ => ?_
 subst he
 refine ⟨_, rfl, _, _, _, [], p, [], hW', ?_, ?_, rfl, hnx.frame _, fun h => by cases h⟩
 ·exact trodAll_mk1 (shut_bool Tryz.underlying4 true)
 ·exact trodAll_mk1 (Below.trod Tryz.laidOut (by kernel_rfl) (of_decide_eq_true (by kernel_rfl)) h0 hnx hlt0)
set_option maxRecDepth 100000 in
theorem storeDoes_upto (os : Os) (started : os.Started) (H : Type) (enc : TypeId × Value → H) (F : Stop.Interp) :
  ReturnsInHanded {} Tryz.checked os 6 .any ((Rows.OpenSpec.upto Rows.storeDoesSpec).pre6 enc Tryz.prog Tryz.f6 Rows.storeDoesUptoRow.domain false) (((Rows.OpenSpec.upto Rows.storeDoesSpec).at F).post enc Tryz.prog Tryz.f6 false true false false) := by
 refine returnsInHanded_of_cond_sized (C := Tryz.checked) (s := Rows.OpenSpec.upto Rows.storeDoesSpec) (k := Rows.uptoSmall) rfl Tryz.own started (by kernel_rfl) Tryz.func6
  (OpenSpec.witness (enc := enc) (C := Tryz.checked) (s := Rows.OpenSpec.upto Rows.storeDoesSpec) (k := Rows.uptoSmall) rfl false ⟨#[], #[.slice none 0 0], []⟩ 8 (by kernel_rfl) (by kernel_rfl) (by kernel_rfl)
   (x := ([.nil], [], [])) (by kernel_rfl) rfl (by kernel_rfl)) ?_
 intro W base args ds gs before hval hW _ hk hsz _
 exact storeDoes_contract H enc W base args ds gs before hval hW (bulk_bound2 hk) hsz
theorem storeDoes_upto_holds : Rows.StoreDoesUptoSaid :=
 OpenClaim.holds_of_cond 6 Tryz.f6 rfl rfl rfl rfl rfl rfl rfl ⟨rfl, rfl, rfl, rfl, rfl⟩ rfl rfl rfl rfl rfl (by kernel_rfl) Tryz.func6 (by kernel_rfl)
  (of_decide_eq_true (by kernel_rfl)) (by unfold Func.isWrapper; first | (rw [if_pos (by decide +kernel)]; kernel_rfl) | (rw [if_neg (by decide +kernel)]; exact ⟨rfl, rfl⟩))
  (fun os started H enc _ F => storeDoes_upto os started H enc F)
end Go.Proofs.YtpjpknndfhablaaGreat
