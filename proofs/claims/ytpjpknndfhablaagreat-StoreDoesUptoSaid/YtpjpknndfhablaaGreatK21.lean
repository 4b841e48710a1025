/- A side of the law: a store and the document's, each over its disk, their transactions. More calls: Abort, Open, Clone, Copy, over all that a side has. The law's place, tells. Numbers of a side; a call on a side's transaction: what both halves have come to. The law's tx: a call on a transaction of both. -/
import Derived.BigQuiet
import Derived.Test.YtpjpknndfhablaaGreatK4
import Derived.Test.YtpjpknndfhablaaGreatK15
import Derived.Test.YtpjpknndfhablaaGreatK16
import Derived.Test.YtpjpknndfhablaaGreatK20
namespace Go.Proofs.YtpjpknndfhablaaGreat
open Go.RowKit
/-- The cells that lie in these blocks are of these types. -/
def TyIn (ts : List TypeId) (w : World) (S : Nat → Prop) : Prop := ∀ k a t f, S k → w.heap[k]? = some (.cells a t f) → t ∈ ts
theorem tyStay {ts : List TypeId} {w w' : World} {S : Nat → Prop} (hT : TyIn ts w S) (ht : Touch S w w') {k : Nat} {a : Array Value} {t : TypeId} {f : Nat × Nat} (hk : w.heap[k]? = some (.cells a t f)) (hn : t ∉ ts) : w'.heap[k]? = some (.cells a t f) :=
 (ht.block k (heap_lt hk) (fun e => hn (hT k a t f e hk))).trans hk
theorem tyOwn {ts : List TypeId} {w w' : World} {S : Nat → Prop} (hT : TyIn ts w S) (ht : Touch S w w') {base e size n : Nat} {v : Value} {xs : List Value} (h : w.ownsRow base e size v n xs) (hn : e ∉ ts) : w'.ownsRow base e size v n xs := by
 refine own_touch h ht (fun k hk hs => ?_)
 rcases h.2 with ⟨hv, _⟩ | ⟨g, cap, cur, hv, _, hg, _⟩
 ·rw [hv] at hk; cases hk
 ·rw [hv] at hk
  have e1 : g = k := Option.some.inj hk
  subst e1
  exact hn (hT g _ _ _ hs hg)
abbrev progT : List TypeId := [89, 106, 148, 103, 131]
abbrev docT : List TypeId := [92, 155, 46, 196]
theorem Sc.ty {w : World} {F : Nat → Prop} {x c : Nat} {s : SS} {d : DS} {m : Nat} {ts : List (Nat × TS)} (h : Sc w F x c s d m ts) : TyIn progT w F := by
 obtain ⟨lg, mb, rb, rows, rfl, h2, _⟩ := h
 intro k a t f hk hb
 rcases hk with hk | rfl | rfl | ⟨r, hr, hk⟩
 ·obtain ⟨a', t', f', h1, h3⟩ := h2.store.log.typed3 h2.disk k hk
  rw [hb] at h1
  cases h1
  simp only [List.mem_cons, List.not_mem_nil, or_false] at h3 ⊢
  rcases h3 with rfl | rfl | rfl <;> simp
 ·have := h2.store.blk
  rw [hb] at this
  simp only [storeBlock, stBlock, Option.some.injEq, Obj.cells.injEq] at this
  rw [this.2.1]; simp
 ·obtain ⟨es, cl, h4⟩ := h2.store.map.isMap
  rw [hb] at h4
  cases h4
 ·obtain ⟨i, hi⟩ := List.getElem?_of_mem hr
  have ht := (h2.txs i r hi).1
  rcases hk with rfl | hk | rfl
  ·have := ht.blk
   rw [hb] at this
   simp only [txBlock, Option.some.injEq, Obj.cells.injEq] at this
   rw [this.2.1]; simp
  ·have hn := ht.now
   rw [hk] at hn
   obtain ⟨es, cl, h4⟩ := MapAt.isMap (l := r.t.now) hn
   rw [hb] at h4
   cases h4
  ·obtain ⟨es, cl, h4⟩ := ht.was.isMap
   rw [hb] at h4
   cases h4
theorem Doc.typed {w : World} {UA : Nat → Prop} {z lg y : Nat} {v : Value} {s : SS} {d : DS} {us : List URow} (h : Doc w UA z lg y v s d us) : ∀ k, GD z lg y us k → ∃ a t f, w.heap[k]? = some (.cells a t f) ∧ t ∈ docT := by
 obtain ⟨ub, _, us', hr, _⟩ := h.disk
 rintro k (rfl | rfl | rfl | ⟨r, hm, rfl⟩)
 ·exact ⟨_, _, _, hr.blk, by simp⟩
 ·exact ⟨_, _, _, (show w.heap[k]? = some (rlogBlock y s.l) from h.log), by simp⟩
 ·exact ⟨_, _, _, h.st, by simp⟩
 ·obtain ⟨i, hi⟩ := List.getElem?_of_mem hm
  exact ⟨_, _, _, (h.txs i r hi).1, by simp⟩
theorem Doc.ty {w : World} {UA : Nat → Prop} {z lg y : Nat} {v : Value} {s : SS} {d : DS} {us : List URow} (h : Doc w UA z lg y v s d us) : TyIn docT w (GD z lg y us) := by
 intro k a t f hk hb
 obtain ⟨a', t', f', h1, h2⟩ := h.typed k hk
 rw [hb] at h1
 cases h1
 exact h2
theorem Doc.offTy {w : World} {UA : Nat → Prop} {z lg y : Nat} {v : Value} {s : SS} {d : DS} {us : List URow} (h : Doc w UA z lg y v s d us) {ts : List TypeId} {S : Nat → Prop} (hT : TyIn ts w S) (hd : ∀ t, t ∈ docT → t ∉ ts) (k : Nat) (hk : S k) : ¬ GD z lg y us k := fun e => by
 obtain ⟨a, t, f, h1, h2⟩ := h.typed k e
 exact hd t h2 (hT k a t f hk h1)
theorem nobyte_of {ts : List TypeId} {w : World} {S : Nat → Prop} (hT : TyIn ts w S) (h : 177 ∉ ts) : NoByte w S := fun k a t f hk hb e => h (e ▸ hT k a t f hk hb)
theorem Doc.setUA {w : World} {UA UA' : Nat → Prop} {z lg y : Nat} {v : Value} {s : SS} {d : DS} {us : List URow} (h : Doc w UA z lg y v s d us) (hU : ∀ k, UA' k → UA k) (hs : ∀ k, GD z lg y us k → UA' k) : Doc w UA' z lg y v s d us := by
 have kp : ∀ (x : Value) (l : Sto.Pairs), KeptP w UA x l → KeptP w UA' x l := fun x l a => ⟨a.pairs, fun g hg => ⟨fun e => (a.off g hg).1 (hU g e), (a.off g hg).2⟩⟩
 exact ⟨h.st, h.log, h.disk, kp _ _ h.kept, fun i r hi => ⟨(h.txs i r hi).1, kp _ _ (h.txs i r hi).2.1, kp _ _ (h.txs i r hi).2.2⟩, h.ne, hs, fun k e => h.lt k (hU k e)⟩
/-- All of a side. -/
structure Ent11 where
 p : Nat
 x : Nat
 c : Nat
 z : Nat
 lg : Nat
 y : Nat
 F : Nat → Prop
 v : Value
 tsv : Value
 usv : Value
 s : SS
 d : DS
 m : Nat
 ts : List (Nat × TS)
 us : List URow
def sideBlock (x c z y : Nat) (tsv usv : Value) : Obj := .cells #[.pointer (some ⟨x, 0, none⟩), .pointer (some ⟨c, 0, none⟩), .pointer (some ⟨z, 0, none⟩), .pointer (some ⟨y, 0, none⟩), tsv, usv] 77 (0, 0)
/-- The blocks of a side. -/
def Ent11.own (e : Ent11) : Nat → Prop := fun k => e.F k ∨ GD e.z e.lg e.y e.us k ∨ k = e.p ∨ e.tsv.ownBlock = some k ∨ e.usv.ownBlock = some k
abbrev tsPtrs (ts : List (Nat × TS)) : List Value := ts.map fun q => .pointer (some ⟨q.1, 0, none⟩)
abbrev usPtrs (us : List URow) : List Value := us.map fun q => .pointer (some ⟨q.u, 0, none⟩)
structure SideAt (w : World) (UA : Nat → Prop) (B : Nat) (e : Ent11) : Prop where
 blk : w.heap[e.p]? = some (sideBlock e.x e.c e.z e.y e.tsv e.usv)
 prog : Sc w e.F e.x e.c e.s e.d e.m e.ts
 doc : Doc w UA e.z e.lg e.y e.v e.s e.d e.us
 same : e.ts.map (·.2) = e.us.map (·.t)
 trow : w.ownsRow B 55 1 e.tsv e.ts.length (tsPtrs e.ts)
 urow : w.ownsRow B 139 1 e.usv e.us.length (usPtrs e.us)
 sub : ∀ k, e.own k → UA k
 low : ∀ k, e.own k → B ≤ k
theorem SideAt.len {w : World} {UA : Nat → Prop} {B : Nat} {e : Ent11} (h : SideAt w UA B e) : e.ts.length = e.us.length := by
 have := congrArg List.length h.same
 simpa using this
abbrev sideT : List TypeId := [77, 55, 139]
theorem SideAt.ty {w : World} {UA : Nat → Prop} {B : Nat} {e : Ent11} (h : SideAt w UA B e) : TyIn (progT ++ docT ++ sideT) w e.own := by
 intro k a t f hk hb
 have row : ∀ {b e' size n : Nat} {v : Value} {xs : List Value}, w.ownsRow b e' size v n xs → v.ownBlock = some k → t = e' := fun {b e' size n v xs} ho hv => by
  rcases ho.2 with ⟨h0, _⟩ | ⟨g, cap, cur, h0, _, hg, _⟩
  ·rw [h0] at hv; cases hv
  ·rw [h0] at hv
   have e1 : g = k := Option.some.inj hv
   subst e1
   rw [hg] at hb
   cases hb
   rfl
 rcases hk with hk | hk | rfl | hk | hk
 ·exact List.mem_append_left _ (List.mem_append_left _ (h.prog.ty k a t f hk hb))
 ·exact List.mem_append_left _ (List.mem_append_right _ (h.doc.ty k a t f hk hb))
 ·have := h.blk
  rw [hb] at this
  simp only [sideBlock, Option.some.injEq, Obj.cells.injEq] at this
  rw [this.2.1]; simp
 ·rw [row h.trow hk]; simp
 ·rw [row h.urow hk]; simp
/-- Others have worked. -/
theorem SideAt.other {w w' : World} {UA UA' S : Nat → Prop} {B : Nat} {e : Ent11} (h : SideAt w UA B e) (ht : Touch S w w') (hS : ∀ k, S k → UA k ∧ ¬ e.own k) (hn : NoByte w S) (hU : ∀ k, UA' k → UA k ∨ w.heap.size ≤ k) (hsub : ∀ k, UA k → UA' k) (hlt : ∀ k, UA' k → k < w'.heap.size) : SideAt w' UA' B e := by
 have off : ∀ k, e.own k → ¬ S k := fun k a b => (hS k b).2 a
 exact ⟨(ht.block e.p (heap_lt h.blk) (off _ (.inr (.inr (.inl rfl))))).trans h.blk, h.prog.aside ht (fun k hk a => off k (.inl a) hk), h.doc.other ht (fun k hk => ⟨(hS k hk).1, fun a => off k (.inr (.inl a)) hk⟩) hn hU (fun k a => hsub k (h.sub k (.inr (.inl a)))) hlt, h.same,
  own_touch h.trow ht (fun k hk a => off k (.inr (.inr (.inr (.inl hk)))) a), own_touch h.urow ht (fun k hk a => off k (.inr (.inr (.inr (.inr hk)))) a), fun k a => hsub k (h.sub k a), h.low⟩
theorem SideAt.below {w w' : World} {UA : Nat → Prop} {B : Nat} {e : Ent11} (h : SideAt w UA B e) (hb : Below w.heap.size w w') : SideAt w' UA B e :=
 h.other (S := fun _ => False) (Touch.of_below hb) (fun _ a => a.elim) (fun _ _ _ _ a => a.elim) (fun _ a => .inl a) (fun _ a => a) (fun k a => Nat.lt_of_lt_of_le (h.doc.lt k a) hb.size)
/-- The program's half has worked. -/
theorem SideAt.half {w w1 : World} {UA : Nat → Prop} {B : Nat} {e : Ent11} (h : SideAt w UA B e) {F1 : Nat → Prop} {x1 c1 : Nat} {s1 : SS} {d1 : DS} {m1 : Nat} {ts1 : List (Nat × TS)} (hp : Sc w1 F1 x1 c1 s1 d1 m1 ts1) (tp : STurn w w1 e.F F1) :
  Doc w1 (fun k => UA k ∨ F1 k) e.z e.lg e.y e.v e.s e.d e.us ∧ w1.heap[e.p]? = some (sideBlock e.x e.c e.z e.y e.tsv e.usv) ∧ w1.ownsRow B 55 1 e.tsv e.ts.length (tsPtrs e.ts) ∧ w1.ownsRow B 139 1 e.usv e.us.length (usPtrs e.us) := by
 have hT := h.prog.ty
 refine ⟨h.doc.other tp.1 (fun k hk => ⟨h.sub k (.inl hk), h.doc.offTy hT (by decide) k hk⟩) (nobyte_of hT (by decide)) (fun k a => ?_) (fun k a => .inl (h.doc.sub k a)) (fun k a => ?_), tyStay hT tp.1 h.blk (by decide), tyOwn hT tp.1 h.trow (by decide), tyOwn hT tp.1 h.urow (by decide)⟩
 ·rcases a with a | a
  ·exact .inl a
  ·rcases tp.2 k a with b | b
   ·exact .inl (h.sub k (.inl b))
   ·exact .inr b
 ·rcases a with a | a
  ·exact Nat.lt_of_lt_of_le (h.doc.lt k a) tp.1.size
  ·exact hp.lt k a
/-- What a call leaves of a side. -/
def SideTurn (w w' : World) (UA : Nat → Prop) (B : Nat) (e e' : Ent11) : Prop :=
 SideAt w' (fun k => UA k ∨ e'.own k) B e' ∧ STurn w w' e.own e'.own ∧ e'.p = e.p
/-- Both halves have worked, and no transaction is new. -/
theorem SideAt.turn {w w1 w2 : World} {UA : Nat → Prop} {B : Nat} {e : Ent11} (h : SideAt w UA B e) (hB : B ≤ w.heap.size) {F1 : Nat → Prop} {v2 : Value} {s1 : SS} {d1 : DS} {m1 : Nat} {ts1 : List (Nat × TS)} {us1 : List URow} (hp : Sc w1 F1 e.x e.c s1 d1 m1 ts1) (tp : STurn w w1 e.F F1)
  (hd : Doc w2 (fun k => UA k ∨ F1 k) e.z e.lg e.y v2 s1 d1 us1) (td : Touch (GD e.z e.lg e.y e.us) w1 w2) (hts : tsPtrs ts1 = tsPtrs e.ts) (hus : us1.map (·.u) = e.us.map (·.u)) (hsame : ts1.map (·.2) = us1.map (·.t)) :
  SideTurn w w2 UA B e { e with F := F1, v := v2, s := s1, d := d1, m := m1, ts := ts1, us := us1 } := by
 obtain ⟨h1, h2, h3, h4⟩ := h.half hp tp
 have hT := h1.ty
 have hus' : usPtrs us1 = usPtrs e.us := by
  have : ∀ (l : List URow), usPtrs l = (l.map (·.u)).map fun k => (.pointer (some ⟨k, 0, none⟩) : Value) := fun l => by simp [usPtrs]
  rw [this, this, hus]
 have hlt : ts1.length = e.ts.length := by have := congrArg List.length hts; simpa using this
 have hlu : us1.length = e.us.length := by have := congrArg List.length hus; simpa using this
 have hgd : ∀ k, GD e.z e.lg e.y us1 k ↔ GD e.z e.lg e.y e.us k := fun k => by
  have key : ∀ (l : List URow), (∃ r ∈ l, k = r.u) ↔ k ∈ l.map (·.u) := fun l => by simp [eq_comm]
  unfold GD
  rw [key, key, hus]
 have hprog : Sc w2 F1 e.x e.c s1 d1 m1 ts1 := hp.aside td (fun k a b => h1.offTy hp.ty (by decide) k b a)
 have hown : ∀ k, ({ e with F := F1, v := v2, s := s1, d := d1, m := m1, ts := ts1, us := us1 } : Ent11).own k → e.own k ∨ w.heap.size ≤ k := fun k a => by
  rcases a with a | a | a | a | a
  ·exact (tp.2 k a).imp .inl id
  ·exact .inl (.inr (.inl ((hgd k).1 a)))
  ·exact .inl (.inr (.inr (.inl a)))
  ·exact .inl (.inr (.inr (.inr (.inl a))))
  ·exact .inl (.inr (.inr (.inr (.inr a))))
 refine ⟨⟨tyStay hT td h2 (by decide), hprog, ?_, hsame, ?_, ?_, fun k a => .inr a, fun k a => ?_⟩, ⟨tp.1.mono (fun _ _ a => .inl a) |>.trans td (fun k _ a => .inr (.inl a)), hown⟩, rfl⟩
 ·refine hd.setUA (fun k a => ?_) (fun k a => .inr (.inr (.inl a)))
  rcases a with a | a | a | a | a | a
  ·exact .inl a
  ·exact .inr a
  ·exact .inl (h.sub k (.inr (.inl ((hgd k).1 a))))
  ·exact .inl (h.sub k (.inr (.inr (.inl a))))
  ·exact .inl (h.sub k (.inr (.inr (.inr (.inl a)))))
  ·exact .inl (h.sub k (.inr (.inr (.inr (.inr a)))))
 ·show w2.ownsRow B _ 1 e.tsv ts1.length (tsPtrs ts1)
  rw [hts, hlt]
  exact tyOwn hT td h3 (by decide)
 ·show w2.ownsRow B _ 1 e.usv us1.length (usPtrs us1)
  rw [hus', hlu]
  exact tyOwn hT td h4 (by decide)
 ·rcases hown k a with b | b
  ·exact h.low k b
  ·exact Nat.le_trans hB b
end Go.Proofs.YtpjpknndfhablaaGreat
namespace Go.Proofs.YtpjpknndfhablaaGreat
open Go.RowKit
theorem cells_map {w : World} {k : Nat} {a : Array Value} {t : TypeId} {f : Nat × Nat} {l : Sto.Pairs} (h : w.heap[k]? = some (.cells a t f)) (hm : MapAt w k l) : False := by
 obtain ⟨es, cl, h4⟩ := hm.isMap
 rw [h] at h4
 cases h4
/-- A transaction is over. -/
theorem Scn.over {w w' : World} {x lg c mb : Nat} {rb : Option Nat} {s : SS} {d : DS} {m : Nat} {rows : List TRow} (h : Scn w x lg c mb rb s d m rows) {i : Nat} {r : TRow} (hi : rows[i]? = some r) {t' : TS} (ht : TxAt w' x r.y none r.wm t') (hT : Touch (· = r.y) w w') :
  Scn w' x lg c mb rb s d m (rows.set i { r with pm := none, t := t' }) ∧ STurn w w' (Foot11 x lg c mb rb rows) (Foot11 x lg c mb rb (rows.set i { r with pm := none, t := t' })) := by
 have hr := h.txs i r hi
 have hmem := List.mem_of_getElem? hi
 have hb := hr.1.blk
 have hx : x ≠ r.y := fun e => by have := h.store.blk; rw [e, hb] at this; simp [storeBlock, stBlock, txBlock] at this
 have hl : ¬ own3 c rb lg r.y := fun e => by
  obtain ⟨a, t, f, h1, h2⟩ := h.store.log.typed3 h.disk r.y e
  rw [hb] at h1
  simp only [txBlock, Option.some.injEq, Obj.cells.injEq] at h1
  rw [← h1.2.1] at h2
  exact absurd h2 (by decide)
 have hm : mb ≠ r.y := fun e => cells_map hb (e ▸ h.store.map)
 have far : ∀ (j : Nat) r', rows[j]? = some r' → r'.wm ≠ r.y ∧ (∀ b, r'.pm = some b → b ≠ r.y) := fun j r' hj => by
  have h1 := (h.txs j r' hj).1
  refine ⟨fun e => cells_map hb (e ▸ h1.was), fun b hb' e => ?_⟩
  have hn := h1.now
  rw [hb'] at hn
  exact cells_map (l := r'.t.now) hb (e ▸ hn)
 refine ⟨⟨h.store.touch hT hx (fun e => hl (.inr e.symm)) hm, h.disk.touch hT (fun k hk e => hl (.inl (e ▸ hk))), fun j r' hj => ?_, fun j k r1 r2 h1 h2 hne => ?_⟩, hT.mono (fun k _ e => .inr (.inr (.inr ⟨r, hmem, .inl e⟩))), fun k hk => .inl ?_⟩
 ·rcases set_row hj with ⟨_, rfl, _⟩ | ⟨hij, hj⟩
  ·exact ⟨ht, fun e => by cases e⟩
  ·have hr' := h.txs j r' hj
   exact ⟨hr'.1.touch hT (fun e => (h.apart i j r r' hi hj hij).1 e.symm) (far j r' hj).1 (far j r' hj).2, hr'.2⟩
 ·rcases set_row h1 with ⟨e1, rfl, _⟩ | ⟨e1, h1⟩ <;> rcases set_row h2 with ⟨e2, rfl, _⟩ | ⟨e2, h2⟩
  ·omega
  ·exact ⟨(h.apart i k r r2 hi h2 e2).1, fun b e => by cases e⟩
  ·have := h.apart j i r1 r h1 hi (fun e => e1 e.symm)
   exact ⟨this.1, fun b e => ⟨(fun e' => by cases e'), (this.2 b e).2⟩⟩
  ·exact h.apart j k r1 r2 h1 h2 hne
 ·rcases hk with hk | hk | hk | ⟨q, hq, hk⟩
  ·exact .inl hk
  ·exact .inr (.inl hk)
  ·exact .inr (.inr (.inl hk))
  ·rcases mem_set_row hq with rfl | hq
   ·rcases hk with hk | hk | hk
    ·exact .inr (.inr (.inr ⟨r, hmem, .inl hk⟩))
    ·cases hk
    ·exact .inr (.inr (.inr ⟨r, hmem, .inr (.inr hk)⟩))
   ·exact .inr (.inr (.inr ⟨q, hq, hk⟩))
section
variable {w : World} {F : Nat → Prop} {x c : Nat} {s : SS} {d : DS} {m : Nat} {ts : List (Nat × TS)} (h : Sc w F x c s d m ts)
include h
theorem abort_sc {i y : Nat} {t : TS} (hi : ts[i]? = some (y, t)) : Calls Tryz.prog 136 #[.pointer (some ⟨y, 0, none⟩)] w fun e w' => e = .returned (.tuple #[]) ∧ ∃ F', Sc w' F' x c s d m (ts.set i (y, t.ends)) ∧ STurn w w' F F' := by
 obtain ⟨lg, mb, rb, rows, r, rfl, h2, h3, hr, rfl, rfl⟩ := row_of h hi
 refine (abort11_any (h2.txs i r hr).1).mono ?_
 rintro e w' ⟨he, a1, a2⟩
 obtain ⟨b1, b2⟩ := h2.over hr a1 a2
 exact ⟨he, _, ⟨lg, mb, rb, _, rfl, b1, by rw [map_set_row, h3]⟩, b2⟩
theorem keys_sc : Calls Tryz.prog 42 #[.pointer (some ⟨x, 0, none⟩)] w fun e w' => e = .returned (.int .i64 s.ps.length) ∧ w' = w := by
 obtain ⟨lg, mb, rb, rows, _, h2, _⟩ := h
 exact keys11_any h2.store
theorem bytes_sc : Calls Tryz.prog 43 #[.pointer (some ⟨x, 0, none⟩)] w fun e w' => e = .returned (.int .i64 (Sto.size s.ps)) ∧ w' = w := by
 obtain ⟨lg, mb, rb, rows, _, h2, _⟩ := h
 exact bytes11_any h2.store
theorem get_sc (k : Sto.S) (hk : k.length ≤ maxLen) : Calls Tryz.prog 40 #[.pointer (some ⟨x, 0, none⟩), .string ⟨k.toArray⟩] w fun e w' => e = .returned (.tuple #[.string ⟨((Sto.get s.ps k).getD []).toArray⟩, .bool (Sto.here s.ps k)]) ∧ w' = w := by
 obtain ⟨lg, mb, rb, rows, _, h2, _⟩ := h
 exact get11_any h2.store k hk
/-- What Open leaves, whether something is there or not. -/
theorem open2_sc : Calls Tryz.prog 14 #[.pointer (some ⟨c, 0, none⟩)] w fun e w' => ∃ v, e = .returned (.tuple #[v, .int .i64 (SS.open_ d).2.2]) ∧
  (∀ u, (SS.open_ d).1 = some u → ∃ x' F', v = .pointer (some ⟨x', 0, none⟩) ∧ Sc w' F' x' c u (SS.open_ d).2.1 m [] ∧ STurn w w' F F') ∧
  ((SS.open_ d).1 = none → v = .pointer none ∧ ∃ F', Sc w' F' x c s (SS.open_ d).2.1 m ts ∧ STurn w w' F F') := by
 obtain ⟨lg, mb, rb, rows, rfl, h2, h3⟩ := h
 refine (open11_any c w d m rb h2.disk).mono ?_
 rintro e w' ⟨v, rfl, hs, hn, rb', a1, a2, a3, _⟩
 refine ⟨v, rfl, fun u e => ?_, fun e => ⟨hn e, ?_⟩⟩
 ·obtain ⟨x', lg', mb', rfl, hst, b1, b2, b3⟩ := hs u e
  refine ⟨x', _, rfl, ⟨lg', mb', rb', [], rfl, ⟨hst, a1, fun i r hi => (by cases hi), fun i j r r' hi => (by cases hi)⟩, rfl⟩, a3.mono (fun _ _ e => .inl (.inl e)), fun k hk => ?_⟩
  rcases hk with ((rfl | hk) | rfl) | rfl | rfl | ⟨r, hr, _⟩
  ·exact .inl (.inl (.inl (.inl rfl)))
  ·rcases a2 k hk with e | e
   ·exact .inl (.inl (.inl (.inr e)))
   ·exact .inr e
  ·exact .inr b2
  ·exact .inr b1
  ·exact .inr b3
  ·cases hr
 ·obtain ⟨b1, b2⟩ := h2.disked a1 a2 a3
  exact ⟨_, ⟨lg, mb, rb', rows, rfl, b1, h3⟩, b2⟩
theorem dclone_sc (hm : m < 5000000000000) : Calls Tryz.prog 11 #[.pointer (some ⟨c, 0, none⟩)] w fun e w' => ∃ c' rb', e = .returned (.pointer (some ⟨c', 0, none⟩)) ∧ w.heap.size ≤ c' ∧ DiskAt w' c' d m rb' ∧ (∀ k, rb' = some k → w.heap.size ≤ k) ∧ Below w.heap.size w w' := by
 obtain ⟨lg, mb, rb, rows, _, h2, _⟩ := h
 exact clone_any c w d m rb h2.disk hm
theorem clone_sc {c' : Nat} {rb' : Option Nat} (hd : DiskAt w c' d m rb') : Calls Tryz.prog 35 #[.pointer (some ⟨x, 0, none⟩), .pointer (some ⟨c', 0, none⟩)] w fun e w' => ∃ x' F', e = .returned (.pointer (some ⟨x', 0, none⟩)) ∧ Sc w' F' x' c' s d m [] ∧ (∀ k, F' k → k = c' ∨ rb' = some k ∨ w.heap.size ≤ k) ∧ Below w.heap.size w w' := by
 obtain ⟨lg, mb, rb, rows, _, h2, _⟩ := h
 refine (clone11_any x lg c mb c' w s h2.store).mono ?_
 rintro e w' ⟨x', lg', mb', rfl, hst, b1, b2, b3, hb⟩
 refine ⟨x', _, rfl, ⟨lg', mb', rb', [], rfl, ⟨hst, hd.below hb, fun i r hi => (by cases hi), fun i j r r' hi => (by cases hi)⟩, rfl⟩, fun k hk => ?_, hb⟩
 rcases hk with ((rfl | hk) | rfl) | rfl | rfl | ⟨r, hr, _⟩
 ·exact .inl rfl
 ·exact .inr (.inl hk)
 ·exact .inr (.inr b2)
 ·exact .inr (.inr b1)
 ·exact .inr (.inr b3)
 ·cases hr
end
section
variable {w : World} {UA : Nat → Prop} {z lg y : Nat} {v : Value} {s : SS} {d : DS} {us : List URow} (h : Doc w UA z lg y v s d us)
include h
theorem open_doc : Calls Tryz.prog 15 #[.pointer (some ⟨y, 0, none⟩)] w fun e w' => ∃ vr, e = .returned (.tuple #[vr, .int .i64 (SS.open_ d).2.2]) ∧
  (∀ u, (SS.open_ d).1 = some u → ∃ z' lg' v', vr = .pointer (some ⟨z', 0, none⟩) ∧ w.heap.size ≤ z' ∧ w.heap.size ≤ lg' ∧ Doc w' (fun k => UA k ∨ k = z' ∨ k = lg') z' lg' y v' u (SS.open_ d).2.1 []) ∧
  ((SS.open_ d).1 = none → vr = .pointer none ∧ Doc w' UA z lg y v s (SS.open_ d).2.1 us) ∧ Touch (GD z lg y us) w w' := by
 obtain ⟨ub, hd⟩ := h.disk
 refine (ropen11_any y w d ub hd.1 hd).mono ?_
 rintro e w' ⟨vr, rfl, hs, hn, ub', h1, _, ht⟩
 obtain ⟨a1, a2⟩ := h.disked h1 ht
 refine ⟨vr, rfl, fun u e => ?_, fun e => ⟨hn e, a1⟩, a2⟩
 obtain ⟨z', lg', v', rfl, hr, hz, hl, hv⟩ := hs u e
 refine ⟨z', lg', v', rfl, hz, hl, hr.blk, hr.log, ⟨ub', h1⟩, ⟨hr.pairs, fun g hg => ⟨fun e => ?_, hr.pairs.blk hg⟩⟩, fun i r hi => (by cases hi), fun i j r r' hi => (by cases hi), fun k hk => ?_, fun k hk => ?_⟩
 ·obtain ⟨b1, b2, b3⟩ := hv g hg
  rcases e with e | e | e
  ·have := h.lt g e; omega
  ·exact b2 e
  ·exact b3 e
 ·rcases hk with rfl | rfl | rfl | ⟨r, hr, _⟩
  ·exact .inl (h.sub _ (.inl rfl))
  ·exact .inr (.inr rfl)
  ·exact .inr (.inl rfl)
  ·cases hr
 ·rcases hk with hk | rfl | rfl
  ·exact Nat.lt_of_lt_of_le (h.lt k hk) ht.size
  ·exact heap_lt hr.blk
  ·exact heap_lt (show w'.heap[k]? = some (rlogBlock y u.l) from hr.log)
theorem dcopy_doc : Calls Tryz.prog 13 #[.pointer (some ⟨y, 0, none⟩)] w fun e w' => ∃ y' ub', e = .returned (.pointer (some ⟨y', 0, none⟩)) ∧ w.heap.size ≤ y' ∧ RefAt w' y' d ub' ∧ Below w.heap.size w w' := by
 obtain ⟨ub, hd⟩ := h.disk
 refine (rcopy_any y w d ub hd).mono ?_
 rintro e w' ⟨c, rfl, a, b, e⟩
 exact ⟨c, ub, rfl, a, b, e⟩
theorem copy_doc {y' : Nat} {ub' : Option Nat} (hy : UA y') (hd : RefAt w y' d ub') : Calls Tryz.prog 36 #[.pointer (some ⟨z, 0, none⟩), .pointer (some ⟨y', 0, none⟩)] w fun e w' => ∃ z' lg', e = .returned (.pointer (some ⟨z', 0, none⟩)) ∧ w.heap.size ≤ z' ∧ w.heap.size ≤ lg' ∧ Doc w' (fun k => UA k ∨ k = z' ∨ k = lg') z' lg' y' v s d [] ∧ Below w.heap.size w w' := by
 obtain ⟨ao, cap, hv, _⟩ := h.kept.pairs.read
 refine (rcopy11_any z lg y y' v w s h.st h.log ⟨ao, _, cap, hv⟩).mono ?_
 rintro e w' ⟨z', lg', rfl, b1, b2, b3, b4, hb⟩
 refine ⟨z', lg', rfl, b3, b4, ⟨b1, b2, ⟨ub', hd.below hb⟩, ⟨h.kept.pairs.below hb, fun g hg => ⟨fun e => ?_, Nat.lt_of_lt_of_le (h.kept.off g hg).2 hb.size⟩⟩, fun i r hi => (by cases hi), fun i j r r' hi => (by cases hi), fun k hk => ?_, fun k hk => ?_⟩, hb⟩
 ·obtain ⟨c1, c2⟩ := h.kept.off g hg
  rcases e with e | e | e
  ·exact c1 e
  ·omega
  ·omega
 ·rcases hk with rfl | rfl | rfl | ⟨r, hr, _⟩
  ·exact .inl hy
  ·exact .inr (.inr rfl)
  ·exact .inr (.inl rfl)
  ·cases hr
 ·rcases hk with hk | rfl | rfl
  ·exact Nat.lt_of_lt_of_le (h.lt k hk) hb.size
  ·exact heap_lt b1
  ·exact heap_lt (show w'.heap[k]? = some (rlogBlock y' s.l) from b2)
end
end Go.Proofs.YtpjpknndfhablaaGreat
namespace Go.Proofs.YtpjpknndfhablaaGreat
open Go.RowKit
theorem belowOf {w w' : World} (h : w' = w) : Below w.heap.size w w' := by subst h; exact Below.refl _ _
theorem scan_fit3 {l : Sto.Pairs} (h : Sto.fits l = true) : Sto.scan l [] 99999 = l := by
 unfold Sto.fits at h
 simp at h
 unfold Sto.scan
 have h1 : (l.filter fun p => !Sto.lt p.1 []) = l := by
  rw [List.filter_eq_self]
  intro p _
  cases p.1 <;> rfl
 rw [h1, List.take_of_length_le (by omega)]
set_option maxHeartbeats 1000000 in
theorem place11_any (n m : Int) (w : World) (h0 : 0 < m) (h1 : m ≤ 4611686018427387904) :
  Calls Tryz.prog 34 #[.int .i64 n, .int .i64 m] w fun e w' => e = .returned (.int .i64 (n % m)) ∧ w = w' := by
 obtain ⟨l1, l2⟩ := tmod_lo (n := n) h0
 go_enter Tryz.func34, Tryz.ntmps34
 go_wp2
 all_goals go_ret
 ·exact ⟨ret_int (tmod_neg h0 (by assumption)), rfl⟩
 ·exact ⟨ret_int (tmod_pos h0 (by assumption)), rfl⟩
set_option maxHeartbeats 4000000 in
set_option maxRecDepth 100000 in
theorem tells11_any (w : World) (vl vm : Value) (l : Sto.Pairs) (hl : PairsAt w vl l) (hm : PairsAt w vm l) (a : Sto.S) (b : Bool) :
  Calls Tryz.prog 75 #[vl, vm, .string ⟨a.toArray⟩, .bool b, .string ⟨a.toArray⟩, .bool b] w fun e w' => e = .returned (.bool true) ∧ Touch (fun k => vl.ownBlock = some k) w w' := by
 have HL := Lib.hid hl
 have HM := Lib.hid hm
 have hcells : (vl = .slice none 0 0 ∧ l.length = 0) ∨ ∃ g cap, vl = .slice (some ⟨g, 0, none⟩) l.length cap ∧ l.length ≤ cap ∧ g < w.heap.size ∧ ∀ j, j < cap * 2 → (w.cell? ⟨g, j, none⟩).isSome = true ∧ w.frozen? ⟨g, j, none⟩ = false := by
  rcases hl.2 with h | ⟨g, cap, h1, _, h2, h3, _, h4, _⟩
  ·exact .inl h
  ·exact .inr ⟨g, cap, h1, h3, h2, h4⟩
 have hnl : l.length ≤ 9223372036854775807 := by obtain ⟨_, _, _, h1, h2, _⟩ := hl.read; omega
 clear hl hm
 have HSM := Lib.hid (rsame11_any vl vm l l w HL.out HM.out)
 rw [show decide (l = l) = true from decide_eq_true rfl] at HSM
 rcases hcells with ⟨rfl, h0⟩ | ⟨g, cap, rfl, hcap, hg, hcells⟩
 ·obtain ⟨am, cm, rfl, _⟩ := HM.out.read
  clear h0
  go_enter Tryz.func75, Tryz.ntmps75
  go_wp2_with fail
  refine HSM.out.mono ?_
  rintro e w1 ⟨rfl, b1⟩
  have B1 := Lib.hid b1
  clear b1
  go_wp2_with fail
  go_loopw [14] (fun i wr => ∃ j : Nat, i = .int .i64 j ∧ wr = w1) (fun i _ => 0)
  case atStart => exact ⟨0, rfl, rfl⟩
  case round =>
   obtain ⟨j, rfl, rfl⟩ := hrel
   go_wp2
   all_goals first
    | (go_ret; exact ⟨rfl, Touch.of_below B1.out⟩)
    | (exfalso; omega)
 ·obtain ⟨am, cm, rfl, _⟩ := HM.out.read
  have HC := Lib.hid hcells
  clear hcells
  go_enter Tryz.func75, Tryz.ntmps75
  go_wp2_with fail
  refine HSM.out.mono ?_
  rintro e w1 ⟨rfl, b1⟩
  have B1 := Lib.hid b1
  have HC1 : Hid (∀ j, j < cap * 2 → (w1.cell? ⟨g, j, none⟩).isSome = true ∧ w1.frozen? ⟨g, j, none⟩ = false) := Lib.hid (fun j hj => by
   have h1 := HC.out j hj
   have h2 := b1.block g hg
   refine ⟨?_, ?_⟩
   ·have := h1.1; unfold World.cell? at this ⊢; rw [h2]; exact this
   ·have := h1.2; unfold World.frozen? at this ⊢; rw [h2]; exact this)
  clear b1
  go_wp2_with fail
  go_loopw [14] (fun i wr => ∃ j : Nat, i = .int .i64 j ∧ j ≤ l.length ∧ (∀ j, j < cap * 2 → (wr.cell? ⟨g, j, none⟩).isSome = true ∧ wr.frozen? ⟨g, j, none⟩ = false) ∧ Touch (· = g) w1 wr) (fun i _ => l.length - (intOf i).toNat)
  case atStart => exact ⟨0, rfl, Nat.zero_le _, HC1.out, Touch.refl _ _⟩
  case round =>
   obtain ⟨j, rfl, hj, hcl, ht⟩ := hrel
   have HCL := Lib.hid hcl
   have HT := Lib.hid ht
   clear hcl ht
   by_cases hlt : j < l.length
   ·obtain ⟨x0, y0⟩ := HCL.out (j * 2) (by omega)
    obtain ⟨x1, y1⟩ := HCL.out (j * 2 + 1) (by omega)
    obtain ⟨u0, hu0⟩ := Option.isSome_iff_exists.1 x0
    obtain ⟨u1, hu1⟩ := Option.isSome_iff_exists.1 x1
    clear x0 x1
    go_wp2
    go_roundw
    case rel =>
     have e1 : ∀ (a b : Value), (wr.setCell ⟨g, j * 2, none⟩ a).setCell ⟨g, j * 2 + 1, none⟩ b = wr.setCells g (j * 2) [a, b] := fun _ _ => rfl
     refine ⟨j + 1, by go_num, by omega, fun i hi => ⟨?_, ?_⟩, (HT.out.setCell _ (fun _ => rfl)).setCell _ (fun _ => rfl)⟩
     ·rw [e1]; exact World.isSome_setCells g _ _ wr _ (HCL.out i hi).1
     ·rw [e1, World.frozen?_setCells]; exact (HCL.out i hi).2
    case measure => simp [intOf]; omega
   ·have hjl : j = l.length := by omega
    have hjb : ¬ (j : Int) < l.length := by omega
    go_wp2
    go_ret
    exact ⟨rfl, (Touch.of_below B1.out).trans HT.out (fun k _ e => by rw [e]; rfl)⟩
end Go.Proofs.YtpjpknndfhablaaGreat
namespace Go.Proofs.YtpjpknndfhablaaGreat
open Go.RowKit
/-- Bounds, behind so many calls. -/
structure NumOk (e : Ent11) (k : Nat) : Prop where
 m : e.m ≤ 3 * k + 1
 g : e.s.l.g ≤ 4611686018427387904
 n : e.s.l.n ≤ 2000000 + k
 turn : e.s.turn ≤ k
 tx : ∀ q ∈ e.ts, q.2.now.length ≤ 4096 + k ∧ q.2.was.length ≤ 4096
 few : e.ts.length ≤ k
theorem NumOk.more {e : Ent11} {k : Nat} (h : NumOk e k) : NumOk e (k + 1) :=
 ⟨by have := h.m; omega, h.g, by have := h.n; omega, by have := h.turn; omega, fun q hq => ⟨by have := (h.tx q hq).1; omega, (h.tx q hq).2⟩, by have := h.few; omega⟩
/-- How a call on a side ends. -/
def OpEnds (w : World) (UA : Nat → Prop) (B : Nat) (e : Ent11) (k : Nat) (r : Ending) (w' : World) : Prop := r = .returned (.bool true) ∧ ∃ e', SideTurn w w' UA B e e' ∧ NumOk e' (k + 1)
theorem SideAt.stay {w w' : World} {UA : Nat → Prop} {B : Nat} {e : Ent11} (h : SideAt w UA B e) (hb : Below w.heap.size w w') : SideTurn w w' UA B e e := by
 have h' := h.below hb
 exact ⟨⟨h'.blk, h'.prog, h'.doc.setUA (fun k a => a.elim id (h.sub k)) (fun k a => .inl (h'.doc.sub k a)), h'.same, h'.trow, h'.urow, fun k a => .inr a, h.low⟩, STurn.below hb, rfl⟩
theorem OpEnds.stay {w w' : World} {UA : Nat → Prop} {B : Nat} {e : Ent11} {k : Nat} (h : SideAt w UA B e) (hn : NumOk e k) (hb : Below w.heap.size w w') {r : Ending} (hr : r = .returned (.bool true)) : OpEnds w UA B e k r w' := ⟨hr, e, h.stay hb, hn.more⟩
/-- New blocks first, then a call. -/
theorem SideTurn.before {w w1 w2 : World} {UA : Nat → Prop} {B : Nat} {e e' : Ent11} (hb : Below w.heap.size w w1) (h : SideTurn w1 w2 UA B e e') : SideTurn w w2 UA B e e' := by
 obtain ⟨a, ⟨b, c⟩, d⟩ := h
 exact ⟨a, ⟨(Touch.of_below hb).trans b (fun _ _ e => e), fun k hk => (c k hk).imp id (Nat.le_trans hb.size)⟩, d⟩
theorem SideTurn.after {w w1 w2 : World} {UA : Nat → Prop} {B : Nat} {e e' : Ent11} (h : SideTurn w w1 UA B e e') (hb : Below w1.heap.size w1 w2) : SideTurn w w2 UA B e e' := by
 obtain ⟨a, ⟨b, c⟩, d⟩ := h
 exact ⟨a.below hb, ⟨b.trans (T := fun _ => False) (Touch.of_below hb) (fun _ _ e => e.elim), c⟩, d⟩
theorem ptrs_set {ts : List (Nat × TS)} {N : Nat} {q q' : Nat × TS} (hi : ts[N]? = some q) (h : q'.1 = q.1) : tsPtrs (ts.set N q') = tsPtrs ts := by
 unfold tsPtrs
 rw [List.map_set, h]
 obtain ⟨hl, he⟩ := List.getElem?_eq_some_iff.1 hi
 have : (.pointer (some ⟨q.1, 0, none⟩) : Value) = (ts.map fun q => (.pointer (some ⟨q.1, 0, none⟩) : Value))[N]'(by simpa using hl) := by simp [he]
 rw [this]; exact List.set_getElem_self _
theorem us_set {us : List URow} {N : Nat} {r r' : URow} (hi : us[N]? = some r) (h : r'.u = r.u) : (us.set N r').map (·.u) = us.map (·.u) := by
 rw [List.map_set, h]
 obtain ⟨hl, he⟩ := List.getElem?_eq_some_iff.1 hi
 have : r.u = (us.map (·.u))[N]'(by simpa using hl) := by simp [he]
 rw [this]; exact List.set_getElem_self _
theorem same_set {ts : List (Nat × TS)} {us : List URow} (h : ts.map (·.2) = us.map (·.t)) (N : Nat) {q' : Nat × TS} {r' : URow} (ht : q'.2 = r'.t) : (ts.set N q').map (·.2) = (us.set N r').map (·.t) := by
 rw [List.map_set, List.map_set, h, ht]
theorem SideAt.pick {w : World} {UA : Nat → Prop} {B : Nat} {e : Ent11} (h : SideAt w UA B e) {N : Nat} (hN : N < e.ts.length) : ∃ yy r, e.ts[N]? = some (yy, r.t) ∧ e.us[N]? = some r := by
 have hl := h.len
 obtain ⟨r, hr⟩ : ∃ r, e.us[N]? = some r := ⟨_, List.getElem?_eq_getElem (by omega)⟩
 obtain ⟨⟨yy, t⟩, hq⟩ : ∃ q, e.ts[N]? = some q := ⟨_, List.getElem?_eq_getElem hN⟩
 have h1 := congrArg (·[N]?) h.same
 simp only [List.getElem?_map, hq, hr, Option.map_some, Option.some.injEq] at h1
 subst h1
 exact ⟨yy, r, hq, hr⟩
theorem row_ptr {w : World} {B e : Nat} {v : Value} {l : List Value} {n : Nat} (h : w.ownsRow B e 1 v n l) (hn : 0 < n) : ∃ g cap, v = .slice (some ⟨g, 0, none⟩) n cap ∧ n ≤ cap ∧ g < w.heap.size ∧ ∀ i u, l[i]? = some u → w.cell? ⟨g, i, none⟩ = some u := by
 rcases h.2 with ⟨_, h0⟩ | ⟨g, cap, cur, rfl, hb, hg, hc, _⟩
 ·omega
 ·exact ⟨g, cap, rfl, hc, heap_lt hg, fun i u hi => by have := h.cells (g := g) rfl i u hi; rwa [addr_add, Nat.zero_add] at this⟩
/-- A transaction has turned on both halves. -/
theorem SideAt.mine {w w1 w2 : World} {UA : Nat → Prop} {B : Nat} {e : Ent11} (h : SideAt w UA B e) (hB : B ≤ w.heap.size) {F1 : Nat → Prop} {v2 vn : Value} {s1 : SS} {d1 : DS} {m1 : Nat} {N yy : Nat} {r : URow} {t' : TS} {k : Nat} (hq : e.ts[N]? = some (yy, r.t)) (hr : e.us[N]? = some r)
  (hp : Sc w1 F1 e.x e.c s1 d1 m1 (e.ts.set N (yy, t'))) (tp : STurn w w1 e.F F1) (hd : Doc w2 (fun k => UA k ∨ F1 k) e.z e.lg e.y v2 s1 d1 (e.us.set N { r with v2 := vn, t := t' })) (td : Touch (GD e.z e.lg e.y e.us) w1 w2)
  (hn : NumOk e k) (hm : m1 ≤ e.m + 3) (hg : s1.l.g ≤ 4611686018427387904) (hl : s1.l.n ≤ e.s.l.n + 1) (ht : s1.turn ≤ e.s.turn + 1) (hnow : t'.now.length ≤ r.t.now.length + 1) (hwas : t'.was = r.t.was) {x : Ending} (hx : x = .returned (.bool true)) : OpEnds w UA B e k x w2 := by
 refine ⟨hx, _, h.turn hB hp tp hd td (ptrs_set hq rfl) (us_set hr rfl) (same_set h.same N rfl), ⟨by have := hn.m; show m1 ≤ _; omega, hg, by have := hn.n; show s1.l.n ≤ _; omega, by have := hn.turn; show s1.turn ≤ _; omega, fun q hmq => ?_, by have := hn.few; show (e.ts.set N _).length ≤ _; rw [List.length_set]; omega⟩⟩
 rcases List.mem_or_eq_of_mem_set hmq with hmq | rfl
 ·exact ⟨by have := (hn.tx q hmq).1; omega, (hn.tx q hmq).2⟩
 ·have := hn.tx _ (List.mem_of_getElem? hq)
  refine ⟨by have := this.1; simp only at this ⊢; omega, by simp only [hwas]; exact this.2⟩
end Go.Proofs.YtpjpknndfhablaaGreat
namespace Go.Proofs.YtpjpknndfhablaaGreat
open Go.RowKit
/-- A call that came in. -/
structure OpS where
 on : Int
 kind : Int
 a : Int
 b : Int
 k : Sto.S
 v : Sto.S
def OpS.agg (o : OpS) : Value := .agg #[.int .i64 o.on, .int .i64 o.kind, .int .i64 o.a, .int .i64 o.b, .string ⟨o.k.toArray⟩, .string ⟨o.v.toArray⟩]
structure OpS.Fine (o : OpS) : Prop where
 a1 : o.a ≤ 9223372036854775807
 a2 : -9223372036854775808 ≤ o.a
 b1 : o.b ≤ 9223372036854775807
 k : o.k.length ≤ maxLen
 v : o.v.length ≤ maxLen
theorem txget_c {w : World} {F : Nat → Prop} {x c : Nat} {s : SS} {d : DS} {m : Nat} {ts : List (Nat × TS)} (h : Sc w F x c s d m ts) {i y : Nat} {t : TS} (hi : ts[i]? = some (y, t)) (k : Sto.S) (hk : k.length ≤ maxLen) : Calls Tryz.prog 39 #[.pointer (some ⟨y, 0, none⟩), .string ⟨k.toArray⟩] w fun e w' => e = .returned (.tuple #[.string ⟨((Sto.get t.now k).getD []).toArray⟩, .bool (Sto.here t.now k)]) ∧ Below w.heap.size w w' := (txget_sc h hi k hk).mono fun _ _ a => ⟨a.1, belowOf a.2⟩
theorem get_c {w : World} {F : Nat → Prop} {x c : Nat} {s : SS} {d : DS} {m : Nat} {ts : List (Nat × TS)} (h : Sc w F x c s d m ts) (k : Sto.S) (hk : k.length ≤ maxLen) : Calls Tryz.prog 40 #[.pointer (some ⟨x, 0, none⟩), .string ⟨k.toArray⟩] w fun e w' => e = .returned (.tuple #[.string ⟨((Sto.get s.ps k).getD []).toArray⟩, .bool (Sto.here s.ps k)]) ∧ Below w.heap.size w w' := (get_sc h k hk).mono fun _ _ a => ⟨a.1, belowOf a.2⟩
theorem TS.put_now (t : TS) (k v : Sto.S) : (t.put k v).1.now.length ≤ t.now.length + 1 := (TS.put_len t k v).1
theorem TS.del_now (t : TS) (k : Sto.S) : (t.del k).1.now.length ≤ t.now.length + 1 := (TS.del_len t k).1
theorem TS.ended_small (t : TS) : t.ended.now.length ≤ t.now.length + 1 ∧ t.ended.was = t.was := by
 unfold TS.ended
 split
 ·exact ⟨Nat.le_succ _, rfl⟩
 ·exact ⟨Nat.zero_le _, rfl⟩
theorem check_gn {l : Wal.LS} {d : DS} {s : List UInt8} (h : l.g ≤ 4611686018427387904) : (Wal.checkpoint l d s).1.n ≤ l.n ∧ (Wal.checkpoint l d s).1.g ≤ 4611686018427387904 := by
 refine ⟨cp_few, ?_⟩
 unfold Wal.checkpoint
 split
 ·exact h
 ·split
  ·exact h
  ·split
   ·exact h
   ·rename_i hg
    split
    ·exact h
    ·split
     ·exact h
     ·show l.g + 1 ≤ _; omega
theorem append_gn {l : Wal.LS} {d : DS} {r : List UInt8} : (Wal.append l d r).1.n ≤ l.n + 1 ∧ (Wal.append l d r).1.g = l.g := by
 refine ⟨?_, wappend_g⟩
 unfold Wal.append
 split
 ·exact Nat.le_succ _
 ·split
  ·exact Nat.le_succ _
  ·split
   ·exact Nat.le_succ _
   ·split
    ·exact Nat.le_succ _
    ·exact Nat.le_refl _
theorem scheck_gn {s : SS} {d : DS} (h : s.l.g ≤ 4611686018427387904) : (s.check d).1.l.n ≤ s.l.n ∧ (s.check d).1.l.g ≤ 4611686018427387904 := by
 unfold SS.check
 split
 ·exact ⟨Nat.le_refl _, h⟩
 ·exact check_gn h
theorem making_gn {s : SS} {d : DS} {r : List UInt8} (h : s.l.g ≤ 4611686018427387904) : (s.making d r).1.l.n ≤ s.l.n ∧ (s.making d r).1.l.g ≤ 4611686018427387904 := by
 unfold SS.making
 split
 ·exact scheck_gn h
 ·exact ⟨Nat.le_refl _, h⟩
theorem adding_gn {s : SS} {d : DS} {r : List UInt8} {m : Sto.Pairs} : (s.adding d r m).1.l.n ≤ s.l.n + 1 ∧ (s.adding d r m).1.l.g = s.l.g := by
 unfold SS.adding
 split <;> exact append_gn
theorem commit_gn {s : SS} {t : TS} {d : DS} (h : s.l.g ≤ 4611686018427387904) : (s.commit t d).1.l.n ≤ s.l.n + 1 ∧ (s.commit t d).1.l.g ≤ 4611686018427387904 ∧ (s.commit t d).1.turn ≤ s.turn + 1 := by
 have ht : (s.commit t d).1.turn ≤ s.turn + 1 := by
  rcases SS.commit_cases s t d with ⟨_, _, a⟩ | ⟨_, _, _, _, _, a⟩ | ⟨_, _, _, _, _, a, _⟩
  ·omega
  ·rw [a]; exact Nat.le_succ _
  ·omega
 have key : (s.commit t d).1.l.n ≤ s.l.n + 1 ∧ (s.commit t d).1.l.g ≤ 4611686018427387904 := by
  unfold SS.commit
  split
  ·exact ⟨Nat.le_succ _, h⟩
  ·split
   ·exact ⟨Nat.le_succ _, h⟩
   ·split
    ·exact ⟨Nat.le_succ _, h⟩
    ·split
     ·exact ⟨Nat.le_succ _, h⟩
     ·split
      ·exact ⟨Nat.le_succ _, h⟩
      ·split
       ·exact ⟨Nat.le_succ _, h⟩
       ·unfold SS.taking
        split
        ·exact ⟨Nat.le_succ_of_le (making_gn h).1, (making_gn h).2⟩
        ·refine ⟨Nat.le_trans adding_gn.1 (Nat.succ_le_succ (making_gn h).1), ?_⟩
         rw [adding_gn.2]
         exact (making_gn h).2
 exact ⟨key.1, key.2, ht⟩
theorem OpEnds.before {w w1 w2 : World} {UA : Nat → Prop} {B : Nat} {e : Ent11} {k : Nat} {x : Ending} (h : OpEnds w1 UA B e k x w2) (hb : Below w.heap.size w w1) : OpEnds w UA B e k x w2 := by
 obtain ⟨a, e', b, c⟩ := h
 exact ⟨a, e', b.before hb, c⟩
theorem OpEnds.after {w w1 w2 : World} {UA : Nat → Prop} {B : Nat} {e : Ent11} {k : Nat} {x : Ending} (h : OpEnds w UA B e k x w1) (hb : Below w1.heap.size w1 w2) : OpEnds w UA B e k x w2 := by
 obtain ⟨a, e', b, c⟩ := h
 exact ⟨a, e', b.after hb, c⟩
theorem cellStay {w w' : World} {S : Nat → Prop} {k i : Nat} {v : Value} (ht : Touch S w w') (hk : k < w.heap.size) (hS : ¬ S k) (h : w.cell? ⟨k, i, none⟩ = some v) : w'.cell? ⟨k, i, none⟩ = some v := by
 unfold World.cell? at h ⊢
 simp only at h ⊢
 rw [ht.block k hk hS]
 exact h
set_option maxHeartbeats 8000000 in
set_option maxRecDepth 100000 in
theorem tx11_any (w : World) (UA : Nat → Prop) (B k : Nat) (e : Ent11) (o : OpS) (h : SideAt w UA B e) (hn : NumOk e k) (ho : o.Fine) (hB : B ≤ w.heap.size) (hk : k ≤ 1048576) :
  Calls Tryz.prog 82 #[.pointer (some ⟨e.p, 0, none⟩), o.agg] w (OpEnds w UA B e k) := by
 obtain ⟨on, kind, a, b, KY, VL⟩ := o
 have HS := Lib.hid h
 have HN := Lib.hid hn
 have HO := Lib.hid ho
 have hba := balloc w (.cells #[.int .i64 on, .int .i64 kind, .int .i64 a, .int .i64 b, .string ⟨KY.toArray⟩, .string ⟨VL.toArray⟩] 80)
 have hna := heap_new w (.cells #[.int .i64 on, .int .i64 kind, .int .i64 a, .int .i64 b, .string ⟨KY.toArray⟩, .string ⟨VL.toArray⟩] 80)
 obtain ⟨B3, hB3⟩ : ∃ n, w.heap.size = n := ⟨_, rfl⟩
 obtain ⟨wa, hwa⟩ : ∃ W, w.alloc (.cells #[.int .i64 on, .int .i64 kind, .int .i64 a, .int .i64 b, .string ⟨KY.toArray⟩, .string ⟨VL.toArray⟩] 80) = W := ⟨_, rfl⟩
 rw [hwa] at hba
 rw [hwa, hB3] at hna
 have HA := Lib.hid (h.below hba)
 have HBA := Lib.hid hba
 have HB3 := Lib.hid hB3
 have HOB : Hid (wa.heap[B3]? = some (.cells #[.int .i64 on, .int .i64 kind, .int .i64 a, .int .i64 b, .string ⟨KY.toArray⟩, .string ⟨VL.toArray⟩] 80 (0, 0))) := Lib.hid hna
 have HOUT : Hid (¬ e.own B3) := Lib.hid (fun a => by have := h.doc.lt B3 (h.sub B3 a); omega)
 have p4 : wa.cell? ⟨e.p, 4, none⟩ = some e.tsv := cell_of HA.out.blk rfl
 have p5 : wa.cell? ⟨e.p, 5, none⟩ = some e.usv := cell_of HA.out.blk rfl
 have o0 := cell_of (i := 0) hna rfl
 have o1 := cell_of (i := 1) hna rfl
 have o2 := cell_of (i := 2) hna rfl
 have o4 := cell_of (i := 4) hna rfl
 have o5 := cell_of (i := 5) hna rfl
 have hul := HS.out.len
 clear h hn ho hba hna
 by_cases hz : e.ts.length = 0
 ·obtain ⟨at_, nt, ct, hv, hnt⟩ : ∃ ao n cap, e.tsv = .slice ao n cap ∧ n = 0 := by
   rcases HA.out.trow.2 with ⟨h1, _⟩ | ⟨g, cap, cur, h1, _⟩
   ·exact ⟨_, _, _, h1, rfl⟩
   ·exact ⟨_, _, _, h1, hz⟩
  subst hnt
  rw [hv] at p4
  clear hz hul hv
  unfold OpS.agg
  go_enter Tryz.func82, Tryz.ntmps82
  go_wp2
  try rw [hwa]
  go_ret
  exact OpEnds.stay HS.out HN.out HBA.out rfl
 ·obtain ⟨gt, ct, hvt, hct, hgt, hcellt⟩ := row_ptr HA.out.trow (Nat.pos_of_ne_zero hz)
  obtain ⟨gu, cu, hvu, hcu, hgu, hcellu⟩ := row_ptr HA.out.urow (show 0 < e.us.length by omega)
  obtain ⟨L, hL⟩ : ∃ L, e.ts.length = L := ⟨_, rfl⟩
  have hLu : e.us.length = L := by omega
  have hLp : 0 < L := by omega
  have hLb : L ≤ 4611686018427387904 := by have := HN.out.few; omega
  obtain ⟨N, hN⟩ : ∃ N : Nat, (N : Int) = on % (L : Int) := ⟨(on % (L : Int)).toNat, by have := Int.emod_nonneg on (show (L : Int) ≠ 0 by omega); omega⟩
  have hNL : N < L := by have := Int.emod_lt_of_pos on (show (0 : Int) < L by omega); omega
  obtain ⟨yy, r, hq, hr⟩ := HA.out.pick (N := N) (by omega)
  rw [hvt] at p4
  rw [hvu] at p5
  rw [hL] at p4
  rw [hLu] at p5
  have t4 : wa.cell? ⟨gt, N, none⟩ = some (.pointer (some ⟨yy, 0, none⟩)) := hcellt N _ (by simp [tsPtrs, hq])
  have t5 : wa.cell? ⟨gu, N, none⟩ = some (.pointer (some ⟨r.u, 0, none⟩)) := hcellu N _ (by simp [usPtrs, hr])
  have HQ := Lib.hid hq
  have HR := Lib.hid hr
  have HPL := Lib.hid (place11_any on L)
  rw [← hN] at HPL
  clear hz hvt hvu hcellt hcellu hq hr hN hul hL hLu
  unfold OpS.agg
  go_enter Tryz.func82, Tryz.ntmps82
  go_wp2_with fail
  try rw [hwa]
  refine region_tail 7 (by kernel_rfl) (by kernel_rfl) ?_
  intro wt hwt
  have bt : Below wa.heap.size wa wt := by rw [hwt.out]; exact (Below.refl _ _).drew
  have BT := Lib.hid bt
  replace o0 := cell_later bt o0
  replace o1 := cell_later bt o1
  replace o2 := cell_later bt o2
  replace o4 := cell_later bt o4
  replace o5 := cell_later bt o5
  replace p4 := cell_later bt p4
  replace p5 := cell_later bt p5
  replace t4 := cell_later bt t4
  replace t5 := cell_later bt t5
  clear bt hwt
  simp only [List.take_succ_cons, List.take_zero, List.drop_succ_cons, List.drop_zero]
  iterate 7 still_step
  refine wpStill_nil ?_
  go_wp2_with fail
  refine (HPL.out wt (by omega) (by omega)).mono ?_
  rintro x _ ⟨rfl, rfl⟩
  go_wp2_with fail
  go_quiet (fail)
  rename_i nq
  have bq := below_drewN (Below.refl wt.heap.size wt) nq
  obtain ⟨wq, hwq⟩ : ∃ W, wt.drewN nq = W := ⟨_, rfl⟩
  rw [hwq] at bq ⊢
  have HBQ := Lib.hid (bthen HBA.out (bthen BT.out bq))
  have HX := Lib.hid (HS.out.below HBQ.out)
  replace o1 := cell_later bq o1
  replace o2 := cell_later bq o2
  replace o4 := cell_later bq o4
  replace o5 := cell_later bq o5
  have hnow := (HN.out.tx _ (List.mem_of_getElem? HQ.out)).1
  have hwas := (HN.out.tx _ (List.mem_of_getElem? HQ.out)).2
  simp only at hnow hwas
  have hml : (maxLen : Nat) = 9223372036854775807 := rfl
  have hBq : B ≤ wq.heap.size := Nat.le_trans hB HBQ.out.size
  have HOF : Hid (¬ e.F B3 ∧ ¬ GD e.z e.lg e.y e.us B3) := Lib.hid ⟨fun a => HOUT.out (.inl a), fun a => HOUT.out (.inr (.inl a))⟩
  have hob : wq.heap[B3]? ≠ none := fun e => by unfold World.cell? at o1; simp only at o1; rw [e] at o1; cases o1
  have hB3q : B3 < wq.heap.size := by
   rcases Nat.lt_or_ge B3 wq.heap.size with h | h
   ·exact h
   ·exact absurd (Array.getElem?_eq_none h) hob
  clear hwq bq o0 p4 p5 t4 t5 hob HPL HA BT
  by_cases k1 : kind = 1
  ·subst k1
   go_wp2_with fail
   have hS0 : wq.drew.cell? ⟨B3, 4, none⟩ = some (.string ⟨KY.toArray⟩) ∧ wq.drew.cell? ⟨B3, 5, none⟩ = some (.string ⟨VL.toArray⟩) := ⟨o4, o5⟩
   have HXD := Lib.hid (HX.out.below (Below.refl _ wq).drew)
   refine wp_region_heldL (S := fun w' => w'.cell? ⟨B3, 4, none⟩ = some (.string ⟨KY.toArray⟩) ∧ w'.cell? ⟨B3, 5, none⟩ = some (.string ⟨VL.toArray⟩)) (by kernel_rfl) ?_
   refine planned [0, 1, 2, 3, 4, 6, 7, 8, 9, 10] ?_
   iterate 10 (refine planned_take (v := ?_) rfl (by kernel_rfl) (by kernel_rfl) (by kernel_rfl) (fun _ _ _ h => h) ?_ (by assumption) ?_; rotate_left; (focus (first | (refine Or.inr ⟨by rfl, ?_⟩; with_reducible rfl) | (refine Or.inl ⟨by rfl, ?_⟩; (intro w hSw; (try dsimp only at hSw); go_simp); try with_reducible rfl))); try simp only [Act.put, List.setIfInBounds_toArray, List.set_cons_zero, List.set_cons_succ])
   refine planned_end ?_
   refine wpAnyH_oneL (i := 5) rfl (by kernel_rfl) ?_
   intro K hK
   rw [if_pos (by rfl)]
   go_simp
   go_at_call 24
   refine (put_sc HXD.out.prog HQ.out KY VL HO.out.k HO.out.v (by omega)).mono ?_
   rintro x w1 ⟨rfl, F1, hp1, tp1⟩
   have HP1 := Lib.hid hp1
   have HT1 := Lib.hid tp1
   have HH := Lib.hid (HXD.out.half hp1 tp1)
   have hS1 : w1.cell? ⟨B3, 4, none⟩ = some (.string ⟨KY.toArray⟩) ∧ w1.cell? ⟨B3, 5, none⟩ = some (.string ⟨VL.toArray⟩) := ⟨cellStay tp1.1 hB3q HOF.out.1 hS0.1, cellStay tp1.1 hB3q HOF.out.1 hS0.2⟩
   have hB31 : B3 < w1.heap.size := Nat.lt_of_lt_of_le hB3q tp1.1.size
   clear hp1 tp1
   refine hK _ _ hS1 ?_
   clear hK K
   try simp only [Act.put, List.setIfInBounds_toArray, List.set_cons_zero, List.set_cons_succ]

   refine wpAnyH_oneL (i := 11) rfl (by kernel_rfl) ?_
   intro K hK
   rw [if_pos (by rfl)]
   go_simp
   go_at_call 133
   refine (put_doc HH.out.1 HR.out KY VL HO.out.v (by omega)).mono ?_
   rintro x w2 ⟨rfl, v2, hd2, td2⟩
   have HE := Lib.hid (HXD.out.mine (x := .returned (.bool true)) (k := k) hBq HQ.out HR.out HP1.out HT1.out hd2 td2 HN.out (Nat.le_add_right _ _) HN.out.g (Nat.le_succ _) (Nat.le_succ _) (TS.put_now _ _ _) (TS.put_was _ _ _) rfl)
   have hS2 : w2.cell? ⟨B3, 4, none⟩ = some (.string ⟨KY.toArray⟩) ∧ w2.cell? ⟨B3, 5, none⟩ = some (.string ⟨VL.toArray⟩) := ⟨cellStay td2 hB31 HOF.out.2 hS1.1, cellStay td2 hB31 HOF.out.2 hS1.2⟩
   clear hd2 td2
   refine hK _ _ hS2 ?_
   clear hK K
   try simp only [Act.put, List.setIfInBounds_toArray, List.set_cons_zero, List.set_cons_succ]
   refine planned [12, 13] ?_
   iterate 2 (refine planned_take (v := ?_) rfl (by kernel_rfl) (by kernel_rfl) (by kernel_rfl) (fun _ _ _ h => h) ?_ (by assumption) ?_; rotate_left; (focus (first | (refine Or.inr ⟨by rfl, ?_⟩; with_reducible rfl) | (refine Or.inl ⟨by rfl, ?_⟩; (intro w hSw; (try dsimp only at hSw); go_simp); try with_reducible rfl))); try simp only [Act.put, List.setIfInBounds_toArray, List.set_cons_zero, List.set_cons_succ])
   refine planned_end ?_
   refine wpAnyH_done (by kernel_rfl) ?_ _
   go_wp2
   go_ret
   exact HE.out.before (bthen HBQ.out (Below.refl _ wq).drew)
  ·have kb1 : (kind == 1) = false := by simp [k1]
   by_cases k2 : kind = 2
   ·subst k2
    go_wp2_with fail
    have hS0 : wq.drew.cell? ⟨B3, 4, none⟩ = some (.string ⟨KY.toArray⟩) ∧ wq.drew.cell? ⟨B3, 5, none⟩ = some (.string ⟨VL.toArray⟩) := ⟨o4, o5⟩
    have HXD := Lib.hid (HX.out.below (Below.refl _ wq).drew)
    refine wp_region_heldL (S := fun w' => w'.cell? ⟨B3, 4, none⟩ = some (.string ⟨KY.toArray⟩) ∧ w'.cell? ⟨B3, 5, none⟩ = some (.string ⟨VL.toArray⟩)) (by kernel_rfl) ?_
    refine planned [0, 1, 2, 4, 5, 6] ?_
    iterate 6 (refine planned_take (v := ?_) rfl (by kernel_rfl) (by kernel_rfl) (by kernel_rfl) (fun _ _ _ h => h) ?_ (by assumption) ?_; rotate_left; (focus (first | (refine Or.inr ⟨by rfl, ?_⟩; with_reducible rfl) | (refine Or.inl ⟨by rfl, ?_⟩; (intro w hSw; (try dsimp only at hSw); go_simp); try with_reducible rfl))); try simp only [Act.put, List.setIfInBounds_toArray, List.set_cons_zero, List.set_cons_succ])
    refine planned_end ?_
    refine wpAnyH_oneL (i := 3) rfl (by kernel_rfl) ?_
    intro K hK
    rw [if_pos (by rfl)]
    go_simp
    go_at_call 25
    refine (del_sc HXD.out.prog HQ.out KY HO.out.k).mono ?_
    rintro x w1 ⟨rfl, F1, hp1, tp1⟩
    have HP1 := Lib.hid hp1
    have HT1 := Lib.hid tp1
    have HH := Lib.hid (HXD.out.half hp1 tp1)
    have hS1 : w1.cell? ⟨B3, 4, none⟩ = some (.string ⟨KY.toArray⟩) ∧ w1.cell? ⟨B3, 5, none⟩ = some (.string ⟨VL.toArray⟩) := ⟨cellStay tp1.1 hB3q HOF.out.1 hS0.1, cellStay tp1.1 hB3q HOF.out.1 hS0.2⟩
    have hB31 : B3 < w1.heap.size := Nat.lt_of_lt_of_le hB3q tp1.1.size
    clear hp1 tp1
    refine hK _ _ hS1 ?_
    clear hK K
    try simp only [Act.put, List.setIfInBounds_toArray, List.set_cons_zero, List.set_cons_succ]

    refine wpAnyH_oneL (i := 7) rfl (by kernel_rfl) ?_
    intro K hK
    rw [if_pos (by rfl)]
    go_simp
    go_at_call 134
    refine (del_doc HH.out.1 HR.out KY (by omega)).mono ?_
    rintro x w2 ⟨rfl, v2, hd2, td2⟩
    have HE := Lib.hid (HXD.out.mine (x := .returned (.bool true)) (k := k) hBq HQ.out HR.out HP1.out HT1.out hd2 td2 HN.out (Nat.le_add_right _ _) HN.out.g (Nat.le_succ _) (Nat.le_succ _) (TS.del_now _ _) (TS.del_was _ _) rfl)
    have hS2 : w2.cell? ⟨B3, 4, none⟩ = some (.string ⟨KY.toArray⟩) ∧ w2.cell? ⟨B3, 5, none⟩ = some (.string ⟨VL.toArray⟩) := ⟨cellStay td2 hB31 HOF.out.2 hS1.1, cellStay td2 hB31 HOF.out.2 hS1.2⟩
    clear hd2 td2
    refine hK _ _ hS2 ?_
    clear hK K
    try simp only [Act.put, List.setIfInBounds_toArray, List.set_cons_zero, List.set_cons_succ]
    refine planned [8, 9] ?_
    iterate 2 (refine planned_take (v := ?_) rfl (by kernel_rfl) (by kernel_rfl) (by kernel_rfl) (fun _ _ _ h => h) ?_ (by assumption) ?_; rotate_left; (focus (first | (refine Or.inr ⟨by rfl, ?_⟩; with_reducible rfl) | (refine Or.inl ⟨by rfl, ?_⟩; (intro w hSw; (try dsimp only at hSw); go_simp); try with_reducible rfl))); try simp only [Act.put, List.setIfInBounds_toArray, List.set_cons_zero, List.set_cons_succ])
    refine planned_end ?_
    refine wpAnyH_done (by kernel_rfl) ?_ _
    go_wp2
    go_ret
    exact HE.out.before (bthen HBQ.out (Below.refl _ wq).drew)
   ·have kb2 : (kind == 2) = false := by simp [k2]
    by_cases k3 : kind = 3
    ·subst k3
     have HGT := Lib.hid (HX.out.prog.goodT HQ.out)
     have HGN := Lib.hid (commit_gn (s := e.s) (t := r.t) (d := e.d) HN.out.g)
     have hmm := HN.out.m
     have hnn := HN.out.n
     have htt := HN.out.turn
     go_wp2_with fail
     refine (commit_sc HX.out.prog HQ.out (by omega) HN.out.g (by omega) (by omega) hwas (by omega)).mono ?_
     rintro x w1 ⟨rfl, F1, hp1, tp1, _⟩
     have HP1 := Lib.hid hp1
     have HT1 := Lib.hid tp1
     have HH := Lib.hid (HX.out.half hp1 tp1)
     clear hp1 tp1
     obtain ⟨R, hR⟩ : ∃ R, (e.s.commit r.t e.d).2.2 = R := ⟨_, rfl⟩
     rw [hR]
     go_wp2_with fail
     refine (commit_doc HH.out.1 HR.out HX.out.prog.good.2.1 HX.out.prog.good.2.2 HGT.out.2 HGT.out.1 HN.out.g (by omega) (by omega) hwas (by omega)).mono ?_
     rintro x w2 ⟨rfl, v', v2, hd2, td2⟩
     have HE := Lib.hid (HX.out.mine (x := .returned (.bool true)) (k := k) hBq HQ.out HR.out HP1.out HT1.out hd2 td2 HN.out (by omega) HGN.out.2.1 HGN.out.1 HGN.out.2.2 (TS.ended_small _).1 (TS.ended_small _).2 rfl)
     rw [hR]
     clear hd2 td2
     go_wp2
     go_ret
     exact HE.out.before HBQ.out
    ·have kb3 : (kind == 3) = false := by simp [k3]
     by_cases k4 : kind = 4
     ·subst k4
      go_wp2_with fail
      refine (abort_sc HX.out.prog HQ.out).mono ?_
      rintro x w1 ⟨rfl, F1, hp1, tp1⟩
      have HP1 := Lib.hid hp1
      have HT1 := Lib.hid tp1
      have HH := Lib.hid (HX.out.half hp1 tp1)
      have hB31 : B3 < w1.heap.size := Nat.lt_of_lt_of_le hB3q tp1.1.size
      replace o2 := cellStay tp1.1 hB3q HOF.out.1 o2
      replace o4 := cellStay tp1.1 hB3q HOF.out.1 o4
      clear hp1 tp1 o1 o5
      go_wp2_with fail
      refine (abort_doc HH.out.1 HR.out).mono ?_
      rintro x w2 ⟨rfl, v2, hd2, td2⟩
      have hst := HX.out.turn hBq HP1.out HT1.out hd2 td2 (ptrs_set HQ.out rfl) (us_set HR.out rfl) (same_set HX.out.same N rfl)
      have hme := HX.out.mine (x := .returned (.bool true)) (k := k) hBq HQ.out HR.out HP1.out HT1.out hd2 td2 HN.out (Nat.le_add_right _ _) HN.out.g (Nat.le_succ _) (Nat.le_succ _) (Nat.zero_le _) rfl rfl
      replace o2 := cellStay td2 hB31 HOF.out.2 o2
      replace o4 := cellStay td2 hB31 HOF.out.2 o4
      have HPK : ∃ (e0 : Ent11) (UA0 : Nat → Prop) (r0 : URow), SideAt w2 UA0 B e0 ∧ e0.ts[N]? = some (yy, r0.t) ∧ e0.us[N]? = some r0 ∧ r0.u = r.u ∧ r0.t.now.length ≤ 4096 + k ∧ ∀ w', Below w2.heap.size w2 w' → OpEnds w UA B e k (.returned (.bool true)) w' :=
       ⟨_, _, { r with v2 := v2, t := r.t.ends }, hst.1, by
        show (e.ts.set N (yy, r.t.ends))[N]? = some (yy, r.t.ends)
        rw [List.getElem?_set_self (List.getElem?_eq_some_iff.1 HQ.out).1], by
        show (e.us.set N { r with v2 := v2, t := r.t.ends })[N]? = some _
        rw [List.getElem?_set_self (List.getElem?_eq_some_iff.1 HR.out).1], rfl, Nat.zero_le _, fun w' hb => (hme.after hb).before HBQ.out⟩
      clear hd2 td2 hst hme HP1 HT1 HH
      obtain ⟨e0, UA0, r0, h0, hq0, hr0, hru, hrn, hend⟩ := HPK
      have H0 := Lib.hid h0
      have Q0 := Lib.hid hq0
      have R0 := Lib.hid hr0
      have HEND := Lib.hid hend
      have u2 : w2.cell? ⟨r.u, 2, none⟩ = some r0.v2 := by rw [← hru]; exact cell_of (h0.doc.txs N r0 hr0).1 rfl
      have HBB : Hid (∀ w' : World, Below w2.heap.size w2 w' → (w'.cell? ⟨B3, 4, none⟩ = some (.string ⟨KY.toArray⟩) ∧ w'.cell? ⟨B3, 2, none⟩ = some (.int .i64 a) ∧ w'.cell? ⟨r.u, 2, none⟩ = some r0.v2)) := Lib.hid (fun w' h => ⟨cell_later h o4, cell_later h o2, cell_later h u2⟩)
      have hga := txget_c h0.prog hq0 KY HO.out.k
      have hgb := fun (w' : World) (hb : Below w2.heap.size w2 w') => rget_any r0.v2 r0.t.now KY w' ((h0.doc.txs N r0 hr0).2.2.pairs.below hb)
      obtain ⟨gv, hgv⟩ : ∃ x, (Sto.get r0.t.now KY).getD [] = x := ⟨_, rfl⟩
      obtain ⟨hv, hhv⟩ : ∃ x, Sto.here r0.t.now KY = x := ⟨_, rfl⟩
      rw [hgv, hhv] at hga
      have HGA := Lib.hid hga
      have HGB : Hid (∀ w' : World, Below w2.heap.size w2 w' → Calls Tryz.prog 74 #[r0.v2, .string ⟨KY.toArray⟩] w' fun e w'' => e = .returned (.tuple #[.string ⟨gv.toArray⟩, .bool hv]) ∧ Below w'.heap.size w' w'') := Lib.hid (fun w' hb => by have := hgb w' hb; rw [hgv, hhv] at this; exact this)
      clear h0 hq0 hr0 hend hga hgb hgv hhv
      go_wp2_with fail
      refine HGA.out.mono ?_
      rintro x w3 ⟨rfl, b3⟩
      have B3_ := Lib.hid b3
      obtain ⟨x4, x2, xu⟩ := HBB.out w3 b3
      clear b3 o4 o2 u2
      go_wp2_with fail
      have B4_ := Lib.hid (bthen B3_.out (Below.refl _ w3).drew)
      have hS1 := HBB.out w3.drew B4_.out
      refine wp_region_heldL (S := fun w' => w'.cell? ⟨B3, 4, none⟩ = some (.string ⟨KY.toArray⟩) ∧ w'.cell? ⟨B3, 2, none⟩ = some (.int .i64 a) ∧ w'.cell? ⟨r.u, 2, none⟩ = some r0.v2) (by kernel_rfl) ?_
      refine planned [0, 1, 2, 3, 4, 5] ?_
      iterate 6 (refine planned_take (v := ?_) rfl (by kernel_rfl) (by kernel_rfl) (by kernel_rfl) (fun _ _ _ h => h) ?_ (by assumption) ?_; rotate_left; (focus (first | (refine Or.inr ⟨by rfl, ?_⟩; with_reducible rfl) | (refine Or.inl ⟨by rfl, ?_⟩; (intro w hSw; (try dsimp only at hSw); go_simp); try with_reducible rfl))); try simp only [Act.put, List.setIfInBounds_toArray, List.set_cons_zero, List.set_cons_succ])
      refine planned_end ?_
      refine wpAnyH_oneL (i := 6) rfl (by kernel_rfl) ?_
      intro K hK
      rw [if_pos (by rfl)]
      go_simp
      go_at_call 74
      refine (HGB.out w3.drew B4_.out).mono ?_
      rintro x w4 ⟨rfl, b4⟩
      have B5_ := Lib.hid (bthen B4_.out b4)
      have hS2 := HBB.out w4 B5_.out
      clear b4 x4 x2 xu
      refine hK _ _ hS2 ?_
      clear hK K
      try simp only [Act.put, List.setIfInBounds_toArray, List.set_cons_zero, List.set_cons_succ]
      refine planned [7, 8, 9, 10, 11] ?_
      iterate 5 (refine planned_take (v := ?_) rfl (by kernel_rfl) (by kernel_rfl) (by kernel_rfl) (fun _ _ _ h => h) ?_ (by assumption) ?_; rotate_left; (focus (first | (refine Or.inr ⟨by rfl, ?_⟩; with_reducible rfl) | (refine Or.inl ⟨by rfl, ?_⟩; (intro w hSw; (try dsimp only at hSw); go_simp); try with_reducible rfl))); try simp only [Act.put, List.setIfInBounds_toArray, List.set_cons_zero, List.set_cons_succ])
      refine planned_end ?_
      refine wpAnyH_done (by kernel_rfl) ?_ _
      clear hS1 hS2
      go_wp2_with fail
      have B6_ := Lib.hid (bthen B5_.out (Below.refl _ w4).drew)
      have hS0 := HBB.out w4.drew B6_.out
      refine wp_region_heldL (S := fun w' => w'.cell? ⟨B3, 4, none⟩ = some (.string ⟨KY.toArray⟩) ∧ w'.cell? ⟨B3, 2, none⟩ = some (.int .i64 a) ∧ w'.cell? ⟨r.u, 2, none⟩ = some r0.v2) (by kernel_rfl) ?_
      refine planned [0, 1, 2, 3, 4, 6, 7, 8, 9, 10, 11, 12, 13, 15, 16, 17, 18] ?_
      iterate 17 (refine planned_take (v := ?_) rfl (by kernel_rfl) (by kernel_rfl) (by kernel_rfl) (fun _ _ _ h => h) ?_ (by assumption) ?_; rotate_left; (focus (first | (refine Or.inr ⟨by rfl, ?_⟩; with_reducible rfl) | (refine Or.inl ⟨by rfl, ?_⟩; (intro w hSw; (try dsimp only at hSw); go_simp); try with_reducible rfl))); try simp only [Act.put, List.setIfInBounds_toArray, List.set_cons_zero, List.set_cons_succ])
      refine planned_end ?_
      refine wpAnyH_oneL (i := 5) rfl (by kernel_rfl) ?_
      intro K hK
      rw [if_pos (by rfl)]
      go_simp
      go_at_call 26
      refine (txscan_sc (H0.out.prog.below B6_.out) Q0.out KY a (by omega) HO.out.a1 HO.out.a2).mono ?_
      rintro x w5 ⟨vl, rfl, pl, fl, b5⟩
      have B7_ := Lib.hid (bthen B6_.out b5)
      have PL := Lib.hid pl
      have FL : Hid (∀ g, vl.ownBlock = some g → w2.heap.size ≤ g) := Lib.hid (fun g hg => Nat.le_trans B6_.out.size (fl g hg))
      clear pl fl b5
      refine hK _ _ (HBB.out w5 B7_.out) ?_
      clear hK K
      try simp only [Act.put, List.setIfInBounds_toArray, List.set_cons_zero, List.set_cons_succ]
      refine wpAnyH_oneL (i := 14) rfl (by kernel_rfl) ?_
      intro K hK
      rw [if_pos (by rfl)]
      go_simp
      go_at_call 76
      refine (rscan_any r0.v2 r0.t.now KY a w5 ((H0.out.doc.txs N r0 R0.out).2.2.pairs.below B7_.out) (by omega) HO.out.a1).mono ?_
      rintro x w6 ⟨vm, rfl, pm, _, b6⟩
      have B8_ := Lib.hid (bthen B7_.out b6)
      have PM := Lib.hid pm
      have PL6 := Lib.hid (PL.out.below b6)
      clear pm b6
      refine hK _ _ (HBB.out w6 B8_.out) ?_
      clear hK K
      try simp only [Act.put, List.setIfInBounds_toArray, List.set_cons_zero, List.set_cons_succ]
      refine wpAnyH_oneL (i := 19) rfl (by kernel_rfl) ?_
      intro K hK
      rw [if_pos (by rfl)]
      go_simp
      go_at_call 75
      refine (tells11_any w6 vl vm _ PL6.out PM.out gv hv).mono ?_
      rintro x w7 ⟨rfl, t7⟩
      have B9_ := Lib.hid (B8_.out.trans (t7.below B8_.out.size (fun k hk e => by have := FL.out k e; omega)))
      clear t7
      have hS9 := HBB.out w7 B9_.out
      refine hK _ _ hS9 ?_
      clear hK K
      try simp only [Act.put, List.setIfInBounds_toArray, List.set_cons_zero, List.set_cons_succ]
      refine wpAnyH_takeL (i := 20) (v := ?_) rfl (by kernel_rfl) (by kernel_rfl) (by kernel_rfl) (fun _ _ _ h => h) ?_ (by assumption) ?_; rotate_left; focus (first | (refine Or.inr ⟨by rfl, ?_⟩; with_reducible rfl) | (refine Or.inl ⟨by rfl, ?_⟩; (intro w hSw; (try dsimp only at hSw); go_simp); try with_reducible rfl))
      try simp only [Act.put, List.setIfInBounds_toArray, List.set_cons_zero, List.set_cons_succ]
      refine wpAnyH_done (by kernel_rfl) ?_ _
      go_wp2
      go_ret
      exact HEND.out w7 B9_.out
     ·have kb4 : (kind == 4) = false := by simp [k4]
      have HPK : ∃ (e0 : Ent11) (UA0 : Nat → Prop) (r0 : URow), SideAt wq UA0 B e0 ∧ e0.ts[N]? = some (yy, r0.t) ∧ e0.us[N]? = some r0 ∧ r0.u = r.u ∧ r0.t.now.length ≤ 4096 + k ∧ ∀ w', Below wq.heap.size wq w' → OpEnds w UA B e k (.returned (.bool true)) w' :=
       ⟨e, UA, r, HX.out, HQ.out, HR.out, rfl, hnow, fun w' hb => OpEnds.stay HS.out HN.out (bthen HBQ.out hb) rfl⟩
      obtain ⟨e0, UA0, r0, h0, hq0, hr0, hru, hrn, hend⟩ := HPK
      have H0 := Lib.hid h0
      have Q0 := Lib.hid hq0
      have R0 := Lib.hid hr0
      have HEND := Lib.hid hend
      have u2 : wq.cell? ⟨r.u, 2, none⟩ = some r0.v2 := by rw [← hru]; exact cell_of (h0.doc.txs N r0 hr0).1 rfl
      have HBB : Hid (∀ w' : World, Below wq.heap.size wq w' → (w'.cell? ⟨B3, 4, none⟩ = some (.string ⟨KY.toArray⟩) ∧ w'.cell? ⟨B3, 2, none⟩ = some (.int .i64 a) ∧ w'.cell? ⟨r.u, 2, none⟩ = some r0.v2)) := Lib.hid (fun w' h => ⟨cell_later h o4, cell_later h o2, cell_later h u2⟩)
      have hga := txget_c h0.prog hq0 KY HO.out.k
      have hgb := fun (w' : World) (hb : Below wq.heap.size wq w') => rget_any r0.v2 r0.t.now KY w' ((h0.doc.txs N r0 hr0).2.2.pairs.below hb)
      obtain ⟨gv, hgv⟩ : ∃ x, (Sto.get r0.t.now KY).getD [] = x := ⟨_, rfl⟩
      obtain ⟨hv, hhv⟩ : ∃ x, Sto.here r0.t.now KY = x := ⟨_, rfl⟩
      rw [hgv, hhv] at hga
      have HGA := Lib.hid hga
      have HGB : Hid (∀ w' : World, Below wq.heap.size wq w' → Calls Tryz.prog 74 #[r0.v2, .string ⟨KY.toArray⟩] w' fun e w'' => e = .returned (.tuple #[.string ⟨gv.toArray⟩, .bool hv]) ∧ Below w'.heap.size w' w'') := Lib.hid (fun w' hb => by have := hgb w' hb; rw [hgv, hhv] at this; exact this)
      clear h0 hq0 hr0 hend hga hgb hgv hhv
      go_wp2_with fail
      refine HGA.out.mono ?_
      rintro x w3 ⟨rfl, b3⟩
      have B3_ := Lib.hid b3
      obtain ⟨x4, x2, xu⟩ := HBB.out w3 b3
      clear b3 o4 o2 u2
      go_wp2_with fail
      have B4_ := Lib.hid (bthen B3_.out (Below.refl _ w3).drew)
      have hS1 := HBB.out w3.drew B4_.out
      refine wp_region_heldL (S := fun w' => w'.cell? ⟨B3, 4, none⟩ = some (.string ⟨KY.toArray⟩) ∧ w'.cell? ⟨B3, 2, none⟩ = some (.int .i64 a) ∧ w'.cell? ⟨r.u, 2, none⟩ = some r0.v2) (by kernel_rfl) ?_
      refine planned [0, 1, 2, 3, 4, 5] ?_
      iterate 6 (refine planned_take (v := ?_) rfl (by kernel_rfl) (by kernel_rfl) (by kernel_rfl) (fun _ _ _ h => h) ?_ (by assumption) ?_; rotate_left; (focus (first | (refine Or.inr ⟨by rfl, ?_⟩; with_reducible rfl) | (refine Or.inl ⟨by rfl, ?_⟩; (intro w hSw; (try dsimp only at hSw); go_simp); try with_reducible rfl))); try simp only [Act.put, List.setIfInBounds_toArray, List.set_cons_zero, List.set_cons_succ])
      refine planned_end ?_
      refine wpAnyH_oneL (i := 6) rfl (by kernel_rfl) ?_
      intro K hK
      rw [if_pos (by rfl)]
      go_simp
      go_at_call 74
      refine (HGB.out w3.drew B4_.out).mono ?_
      rintro x w4 ⟨rfl, b4⟩
      have B5_ := Lib.hid (bthen B4_.out b4)
      have hS2 := HBB.out w4 B5_.out
      clear b4 x4 x2 xu
      refine hK _ _ hS2 ?_
      clear hK K
      try simp only [Act.put, List.setIfInBounds_toArray, List.set_cons_zero, List.set_cons_succ]
      refine planned [7, 8, 9, 10, 11] ?_
      iterate 5 (refine planned_take (v := ?_) rfl (by kernel_rfl) (by kernel_rfl) (by kernel_rfl) (fun _ _ _ h => h) ?_ (by assumption) ?_; rotate_left; (focus (first | (refine Or.inr ⟨by rfl, ?_⟩; with_reducible rfl) | (refine Or.inl ⟨by rfl, ?_⟩; (intro w hSw; (try dsimp only at hSw); go_simp); try with_reducible rfl))); try simp only [Act.put, List.setIfInBounds_toArray, List.set_cons_zero, List.set_cons_succ])
      refine planned_end ?_
      refine wpAnyH_done (by kernel_rfl) ?_ _
      clear hS1 hS2
      go_wp2_with fail
      have B6_ := Lib.hid (bthen B5_.out (Below.refl _ w4).drew)
      have hS0 := HBB.out w4.drew B6_.out
      refine wp_region_heldL (S := fun w' => w'.cell? ⟨B3, 4, none⟩ = some (.string ⟨KY.toArray⟩) ∧ w'.cell? ⟨B3, 2, none⟩ = some (.int .i64 a) ∧ w'.cell? ⟨r.u, 2, none⟩ = some r0.v2) (by kernel_rfl) ?_
      refine planned [0, 1, 2, 3, 4, 6, 7, 8, 9, 10, 11, 12, 13, 15, 16, 17, 18] ?_
      iterate 17 (refine planned_take (v := ?_) rfl (by kernel_rfl) (by kernel_rfl) (by kernel_rfl) (fun _ _ _ h => h) ?_ (by assumption) ?_; rotate_left; (focus (first | (refine Or.inr ⟨by rfl, ?_⟩; with_reducible rfl) | (refine Or.inl ⟨by rfl, ?_⟩; (intro w hSw; (try dsimp only at hSw); go_simp); try with_reducible rfl))); try simp only [Act.put, List.setIfInBounds_toArray, List.set_cons_zero, List.set_cons_succ])
      refine planned_end ?_
      refine wpAnyH_oneL (i := 5) rfl (by kernel_rfl) ?_
      intro K hK
      rw [if_pos (by rfl)]
      go_simp
      go_at_call 26
      refine (txscan_sc (H0.out.prog.below B6_.out) Q0.out KY a (by omega) HO.out.a1 HO.out.a2).mono ?_
      rintro x w5 ⟨vl, rfl, pl, fl, b5⟩
      have B7_ := Lib.hid (bthen B6_.out b5)
      have PL := Lib.hid pl
      have FL : Hid (∀ g, vl.ownBlock = some g → wq.heap.size ≤ g) := Lib.hid (fun g hg => Nat.le_trans B6_.out.size (fl g hg))
      clear pl fl b5
      refine hK _ _ (HBB.out w5 B7_.out) ?_
      clear hK K
      try simp only [Act.put, List.setIfInBounds_toArray, List.set_cons_zero, List.set_cons_succ]
      refine wpAnyH_oneL (i := 14) rfl (by kernel_rfl) ?_
      intro K hK
      rw [if_pos (by rfl)]
      go_simp
      go_at_call 76
      refine (rscan_any r0.v2 r0.t.now KY a w5 ((H0.out.doc.txs N r0 R0.out).2.2.pairs.below B7_.out) (by omega) HO.out.a1).mono ?_
      rintro x w6 ⟨vm, rfl, pm, _, b6⟩
      have B8_ := Lib.hid (bthen B7_.out b6)
      have PM := Lib.hid pm
      have PL6 := Lib.hid (PL.out.below b6)
      clear pm b6
      refine hK _ _ (HBB.out w6 B8_.out) ?_
      clear hK K
      try simp only [Act.put, List.setIfInBounds_toArray, List.set_cons_zero, List.set_cons_succ]
      refine wpAnyH_oneL (i := 19) rfl (by kernel_rfl) ?_
      intro K hK
      rw [if_pos (by rfl)]
      go_simp
      go_at_call 75
      refine (tells11_any w6 vl vm _ PL6.out PM.out gv hv).mono ?_
      rintro x w7 ⟨rfl, t7⟩
      have B9_ := Lib.hid (B8_.out.trans (t7.below B8_.out.size (fun k hk e => by have := FL.out k e; omega)))
      clear t7
      have hS9 := HBB.out w7 B9_.out
      refine hK _ _ hS9 ?_
      clear hK K
      try simp only [Act.put, List.setIfInBounds_toArray, List.set_cons_zero, List.set_cons_succ]
      refine wpAnyH_takeL (i := 20) (v := ?_) rfl (by kernel_rfl) (by kernel_rfl) (by kernel_rfl) (fun _ _ _ h => h) ?_ (by assumption) ?_; rotate_left; focus (first | (refine Or.inr ⟨by rfl, ?_⟩; with_reducible rfl) | (refine Or.inl ⟨by rfl, ?_⟩; (intro w hSw; (try dsimp only at hSw); go_simp); try with_reducible rfl))
      try simp only [Act.put, List.setIfInBounds_toArray, List.set_cons_zero, List.set_cons_succ]
      refine wpAnyH_done (by kernel_rfl) ?_ _
      go_wp2
      go_ret
      exact HEND.out w7 B9_.out
end Go.Proofs.YtpjpknndfhablaaGreat
