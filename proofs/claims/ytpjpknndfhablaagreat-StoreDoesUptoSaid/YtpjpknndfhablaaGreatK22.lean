/- What calls make of a side: the store's own calls, the disk's, a transaction more, the store opened again. A transaction more on a side; a side whose store has been opened again. The law's does: a call on both. -/
import Derived.Deep.CutRange
import Derived.Test.YtpjpknndfhablaaGreatK21
namespace Go.Proofs.YtpjpknndfhablaaGreat
open Go.RowKit
theorem ssync_gn (s : SS) (d : DS) : (s.sync d).1.l.n = s.l.n ∧ (s.sync d).1.l.g = s.l.g ∧ (s.sync d).1.turn = s.turn := by
 have key : (Wal.sync s.l d).1.n = s.l.n ∧ (Wal.sync s.l d).1.g = s.l.g := by
  unfold Wal.sync
  split
  ·exact ⟨rfl, rfl⟩
  ·split <;> exact ⟨rfl, rfl⟩
 unfold SS.sync
 split
 ·exact ⟨rfl, rfl, rfl⟩
 ·exact ⟨key.1, key.2, rfl⟩
theorem open_few11 {d : DS} (hok : d.Ok) {u : SS} (h : (SS.open_ d).1 = some u) : u.l.n ≤ 1048576 ∧ u.l.g ≤ 4611686018427387904 ∧ u.turn = 0 := by
 have key : ∀ q, (Wal.open_ d).1 = some q → q.l.n ≤ 1048576 ∧ q.l.g ≤ 4611686018427387904 := fun q h => by
  unfold Wal.open_ at h
  split at h
  ·cases h
  ·split at h
   ·cases h
   ·rename_i h1 h2
    split at h
    ·cases h
    ·cases h
     have hc := Wal.recs_count (file := d.file (Wal.best d)) ((d.file (Wal.best d)).length + 1 - (Wal.shown d).2.2) (Wal.shown d).2.2 (Nat.le_refl _)
     have hl := hok.base_len' (Wal.best d)
     have hl2 : (d.file (Wal.best d)).length ≤ 1048576 := hl
     obtain ⟨A, s, p, hA⟩ : ∃ A s p, Wal.shown d = (A, s, p) := ⟨_, _, _, rfl⟩
     have hle := counts_le (G := d.file (Wal.best d)) (A := A) (s := s) (p := p) hA (by rw [hA] at h2; exact h2)
     refine ⟨?_, by rw [hA]; exact hle.2.1⟩
     show (Wal.recs (d.file (Wal.best d)) (Wal.shown d).2.2).1.length ≤ _
     omega
 unfold SS.open_ at h
 split at h
 ·cases h
 ·rename_i q hq
  split at h
  ·cases h
  ·cases h
   exact ⟨(key q hq).1, (key q hq).2, rfl⟩
theorem SideAt.moved {w w1 w2 : World} {UA : Nat → Prop} {B : Nat} {e : Ent11} (h : SideAt w UA B e) (hB : B ≤ w.heap.size) {F1 : Nat → Prop} {v2 : Value} {s1 : SS} {d1 : DS} {m1 : Nat} {k : Nat}
  (hp : Sc w1 F1 e.x e.c s1 d1 m1 e.ts) (tp : STurn w w1 e.F F1) (hd : Doc w2 (fun k => UA k ∨ F1 k) e.z e.lg e.y v2 s1 d1 e.us) (td : Touch (GD e.z e.lg e.y e.us) w1 w2)
  (hn : NumOk e k) (hm : m1 ≤ e.m + 3) (hg : s1.l.g ≤ 4611686018427387904) (hl : s1.l.n ≤ e.s.l.n + 1) (ht : s1.turn ≤ e.s.turn + 1) {x : Ending} (hx : x = .returned (.bool true)) : OpEnds w UA B e k x w2 :=
 ⟨hx, _, h.turn hB hp tp hd td rfl rfl h.same, ⟨by have := hn.m; show m1 ≤ _; omega, hg, by have := hn.n; show s1.l.n ≤ _; omega, by have := hn.turn; show s1.turn ≤ _; omega, fun q hq => ⟨by have := (hn.tx q hq).1; omega, (hn.tx q hq).2⟩, by have := hn.few; show e.ts.length ≤ _; omega⟩⟩
theorem SideTurn.trans {w w1 w2 : World} {UA : Nat → Prop} {B : Nat} {e e1 e2 : Ent11} (h : SideTurn w w1 UA B e e1) (h' : SideTurn w1 w2 (fun k => UA k ∨ e1.own k) B e1 e2) : SideTurn w w2 UA B e e2 := by
 obtain ⟨a, b, c⟩ := h
 obtain ⟨a', b', c'⟩ := h'
 refine ⟨⟨a'.blk, a'.prog, a'.doc.setUA (fun k hk => hk.elim (fun x => .inl (.inl x)) .inr) (fun k hk => .inr (.inr (.inl hk))), a'.same, a'.trow, a'.urow, fun k hk => .inr hk, a'.low⟩, b.trans b', c'.trans c⟩
/-- Rows or the side's own block have turned. -/
theorem quad_turn {w w' : World} {UA F S : Nat → Prop} {x c z lg y m : Nat} {v : Value} {s s' : SS} {d d' : DS} {ts : List (Nat × TS)} {us : List URow} (hp : Sc w F x c s d m ts) (hd : Doc w UA z lg y v s' d' us) (ht : Touch S w w') (hS : ∀ k, S k → UA k ∧ ∃ a t f, w.heap[k]? = some (.cells a t f) ∧ t ∈ sideT) : Sc w' F x c s d m ts ∧ Doc w' UA z lg y v s' d' us := by
 have hT : TyIn sideT w S := fun k a t f hk hb => by
  obtain ⟨_, a', t', f', h1, h2⟩ := hS k hk
  rw [hb] at h1; cases h1; exact h2
 refine ⟨hp.aside ht (fun k hk hf => ?_), hd.other ht (fun k hk => ⟨(hS k hk).1, hd.offTy hT (by decide) k hk⟩) (nobyte_of hT (by decide)) (fun _ e => .inl e) hd.sub (fun k e => Nat.lt_of_lt_of_le (hd.lt k e) ht.size)⟩
 obtain ⟨_, a, t, f, h1, h2⟩ := hS k hk
 have h3 := hp.ty k a t f hf h1
 simp only [List.mem_cons, List.not_mem_nil, or_false] at h2 h3
 rcases h2 with rfl | rfl | rfl <;> revert h3 <;> decide
theorem own_typed {w : World} {B e n size : Nat} {v : Value} {xs : List Value} (h : w.ownsRow B e size v n xs) {k : Nat} (hk : v.ownBlock = some k) : ∃ a t f, w.heap[k]? = some (.cells a t f) ∧ t = e := by
 rcases h.2 with ⟨hv, _⟩ | ⟨g, cap, cur, hv, _, hg, _⟩
 ·rw [hv] at hk; cases hk
 ·rw [hv] at hk
  have e1 : g = k := Option.some.inj hk
  subst e1
  exact ⟨_, _, _, hg, rfl⟩
theorem txInfo : (Tryz.prog.info? 55).map (fun i => (i.zero, i.size, i.bytes)) = some (some (.pointer none), 1, 8) := by kernel_rfl
theorem rtxInfo : (Tryz.prog.info? 139).map (fun i => (i.zero, i.size, i.bytes)) = some (some (.pointer none), 1, 8) := by kernel_rfl
end Go.Proofs.YtpjpknndfhablaaGreat
namespace Go.Proofs.YtpjpknndfhablaaGreat
open Go.RowKit
theorem OpEnds.of {w w' : World} {UA : Nat → Prop} {B : Nat} {e e' : Ent11} {k : Nat} (h : SideTurn w w' UA B e e') (hn : NumOk e' (k + 1)) {x : Ending} (hx : x = .returned (.bool true)) : OpEnds w UA B e k x w' := ⟨hx, e', h, hn⟩
theorem SideAt.begun {w w6 : World} {UA : Nat → Prop} {B : Nat} {e : Ent11} {k : Nat} (h : SideAt w UA B e) (hB : B ≤ w.heap.size) (hn : NumOk e k) {F1 : Nat → Prop} {yy u : Nat} {tv uv : Value} (hF : ∀ k, F1 k → e.F k ∨ w.heap.size ≤ k)
  (hp : Sc w6 F1 e.x e.c e.s e.d e.m (e.ts ++ [(yy, e.s.begin_)])) {UA6 : Nat → Prop} (hd : Doc w6 UA6 e.z e.lg e.y e.v e.s e.d (e.us ++ [⟨u, e.v, e.v, e.s.begin_⟩])) (hu : w.heap.size ≤ u)
  (hb : w6.heap[e.p]? = some (sideBlock e.x e.c e.z e.y tv uv)) (ht : w6.ownsRow B 55 1 tv (e.ts.length + 1) (tsPtrs e.ts ++ [.pointer (some ⟨yy, 0, none⟩)])) (hur : w6.ownsRow B 139 1 uv (e.us.length + 1) (usPtrs e.us ++ [.pointer (some ⟨u, 0, none⟩)]))
  (htv : ∀ k, tv.ownBlock = some k → e.own k ∨ w.heap.size ≤ k) (huv : ∀ k, uv.ownBlock = some k → e.own k ∨ w.heap.size ≤ k) (htt : Touch e.own w w6) {x : Ending} (hx : x = .returned (.bool true)) : OpEnds w UA B e k x w6 := by
 have hown : ∀ k, ({ e with F := F1, tsv := tv, usv := uv, ts := e.ts ++ [(yy, e.s.begin_)], us := e.us ++ [⟨u, e.v, e.v, e.s.begin_⟩] } : Ent11).own k → e.own k ∨ w.heap.size ≤ k := fun k a => by
  rcases a with a | a | a | a | a
  ·exact (hF k a).imp .inl id
  ·rcases a with a | a | a | ⟨q, hq, a⟩
   ·exact .inl (.inr (.inl (.inl a)))
   ·exact .inl (.inr (.inl (.inr (.inl a))))
   ·exact .inl (.inr (.inl (.inr (.inr (.inl a)))))
   ·rcases List.mem_append.1 hq with hq | hq
    ·exact .inl (.inr (.inl (.inr (.inr (.inr ⟨q, hq, a⟩)))))
    ·simp only [List.mem_singleton] at hq
     subst hq
     exact .inr (by rw [a]; exact hu)
  ·exact .inl (.inr (.inr (.inl a)))
  ·exact htv k a
  ·exact huv k a
 have kp : ∀ (x : Value) (l : Sto.Pairs), KeptP w6 UA6 x l → (∀ g, x.ownBlock = some g → ¬ UA g ∧ g < w.heap.size) → KeptP w6 (fun k => UA k ∨ ({ e with F := F1, tsv := tv, usv := uv, ts := e.ts ++ [(yy, e.s.begin_)], us := e.us ++ [⟨u, e.v, e.v, e.s.begin_⟩] } : Ent11).own k) x l := fun x l a b =>
  ⟨a.pairs, fun g hg => ⟨fun c => by
   obtain ⟨b1, b2⟩ := b g hg
   rcases c with c | c
   ·exact b1 c
   ·rcases hown g c with c | c
    ·exact b1 (h.sub g c)
    ·omega, (a.off g hg).2⟩⟩
 refine OpEnds.of (e' := { e with F := F1, tsv := tv, usv := uv, ts := e.ts ++ [(yy, e.s.begin_)], us := e.us ++ [⟨u, e.v, e.v, e.s.begin_⟩] }) ⟨⟨hb, hp, ?_, ?_, ?_, ?_, fun k a => .inr a, fun k a => ?_⟩, ⟨htt, hown⟩, rfl⟩ ?_ hx
 ·refine ⟨hd.st, hd.log, hd.disk, kp _ _ hd.kept h.doc.kept.off, fun i r hi => ?_, hd.ne, fun k a => .inr (.inr (.inl a)), fun k a => ?_⟩
  ·have hi' := hi
   rw [List.getElem?_append] at hi
   split at hi
   ·exact ⟨(hd.txs i r hi').1, kp _ _ (hd.txs i r hi').2.1 (h.doc.txs i r hi).2.1.off, kp _ _ (hd.txs i r hi').2.2 (h.doc.txs i r hi).2.2.off⟩
   ·have : i - e.us.length = 0 := by have := (List.getElem?_eq_some_iff.1 hi).1; simp at this; omega
    rw [this] at hi
    cases hi
    exact ⟨(hd.txs i _ hi').1, kp _ _ (hd.txs i _ hi').2.1 h.doc.kept.off, kp _ _ (hd.txs i _ hi').2.2 h.doc.kept.off⟩
  ·have own6 : ∀ {v : Value} {e0 n : Nat} {xs : List Value}, w6.ownsRow B e0 1 v n xs → v.ownBlock = some k → k < w6.heap.size := fun ho hk => by
    obtain ⟨_, _, _, h1, _⟩ := own_typed ho hk
    exact heap_lt h1
   rcases a with a | a | a | a | a | a
   ·exact Nat.lt_of_lt_of_le (h.doc.lt k a) htt.size
   ·exact hp.lt k a
   ·obtain ⟨_, _, _, h1, _⟩ := hd.typed k a; exact heap_lt h1
   ·rw [a]; exact heap_lt hb
   ·exact own6 ht a
   ·exact own6 hur a
 ·simp only [List.map_append, List.map_cons, List.map_nil, h.same]
 ·show w6.ownsRow B _ 1 tv (e.ts ++ _).length (tsPtrs (e.ts ++ _))
  rw [List.length_append]
  simpa [tsPtrs] using ht
 ·show w6.ownsRow B _ 1 uv (e.us ++ _).length (usPtrs (e.us ++ _))
  rw [List.length_append]
  simpa [usPtrs] using hur
 ·rcases hown k a with b | b
  ·exact h.low k b
  ·exact Nat.le_trans hB b
 ·have hfit := h.prog.good.2.2
  have hf : e.s.ps.length ≤ 4096 := by unfold Sto.fits at hfit; simp at hfit; omega
  refine ⟨by have := hn.m; show e.m ≤ _; omega, hn.g, by have := hn.n; show e.s.l.n ≤ _; omega, by have := hn.turn; show e.s.turn ≤ _; omega, fun q hq => ?_, by have := hn.few; show (e.ts ++ _).length ≤ _; rw [List.length_append, List.length_singleton]; omega⟩
  rcases List.mem_append.1 hq with hq | hq
  ·exact ⟨by have := (hn.tx q hq).1; omega, (hn.tx q hq).2⟩
  ·simp only [List.mem_singleton] at hq
   subst hq
   exact ⟨by show e.s.ps.length ≤ _; omega, hf⟩
/-- The store has been opened again. -/
theorem SideAt.opened {w w6 : World} {UA : Nat → Prop} {B : Nat} {e : Ent11} {k : Nat} (h : SideAt w UA B e) (hB : B ≤ w.heap.size) (hn : NumOk e k) {F1 : Nat → Prop} {x' z' lg' : Nat} {v' : Value} {u : SS} {d' : DS} (hF : ∀ k, F1 k → e.F k ∨ w.heap.size ≤ k)
  (hp : Sc w6 F1 x' e.c u d' e.m []) {UA6 : Nat → Prop} (hd : Doc w6 UA6 z' lg' e.y v' u d' []) (hz : w.heap.size ≤ z') (hl : w.heap.size ≤ lg') (hv : ∀ g, v'.ownBlock = some g → ¬ (UA g ∨ F1 g) ∧ g ≠ z' ∧ g ≠ lg')
  (hb : w6.heap[e.p]? = some (sideBlock x' e.c z' e.y (.slice none 0 0) (.slice none 0 0))) (htt : Touch e.own w w6) (hu : u.l.n ≤ 1048576 ∧ u.l.g ≤ 4611686018427387904 ∧ u.turn = 0) {x : Ending} (hx : x = .returned (.bool true)) : OpEnds w UA B e k x w6 := by
 have hown : ∀ k, ({ e with F := F1, x := x', z := z', lg := lg', v := v', tsv := .slice none 0 0, usv := .slice none 0 0, s := u, d := d', ts := [], us := [] } : Ent11).own k → F1 k ∨ k = z' ∨ k = lg' ∨ k = e.y ∨ k = e.p := fun k a => by
  rcases a with a | a | a | a | a
  ·exact .inl a
  ·rcases a with a | a | a | ⟨q, hq, _⟩
   ·exact .inr (.inr (.inr (.inl a)))
   ·exact .inr (.inr (.inl a))
   ·exact .inr (.inl a)
   ·cases hq
  ·exact .inr (.inr (.inr (.inr a)))
  ·cases a
  ·cases a
 have hown2 : ∀ k, ({ e with F := F1, x := x', z := z', lg := lg', v := v', tsv := .slice none 0 0, usv := .slice none 0 0, s := u, d := d', ts := [], us := [] } : Ent11).own k → e.own k ∨ w.heap.size ≤ k := fun k a => by
  rcases hown k a with a | a | a | a | a
  ·exact (hF k a).imp .inl id
  ·exact .inr (by rw [a]; exact hz)
  ·exact .inr (by rw [a]; exact hl)
  ·exact .inl (.inr (.inl (.inl a)))
  ·exact .inl (.inr (.inr (.inl a)))
 refine OpEnds.of (e' := { e with F := F1, x := x', z := z', lg := lg', v := v', tsv := .slice none 0 0, usv := .slice none 0 0, s := u, d := d', ts := [], us := [] }) ⟨⟨hb, hp, ?_, rfl, World.ownsRow_nil _ _ _ _, World.ownsRow_nil _ _ _ _, fun k a => .inr a, fun k a => ?_⟩, ⟨htt, hown2⟩, rfl⟩ ?_ hx
 ·refine ⟨hd.st, hd.log, hd.disk, ⟨hd.kept.pairs, fun g hg => ⟨fun c => ?_, (hd.kept.off g hg).2⟩⟩, fun i r hi => (by cases hi), fun i j r r' hi => (by cases hi), fun k a => .inr (.inr (.inl a)), fun k a => ?_⟩
  ·obtain ⟨b1, b2, b3⟩ := hv g hg
   rcases c with c | c
   ·exact b1 (.inl c)
   ·rcases hown g c with c | c | c | c | c
    ·exact b1 (.inr c)
    ·exact b2 c
    ·exact b3 c
    ·exact b1 (.inl (c ▸ h.sub e.y (.inr (.inl (.inl rfl)))))
    ·exact b1 (.inl (c ▸ h.sub e.p (.inr (.inr (.inl rfl)))))
  ·rcases a with a | a
   ·exact Nat.lt_of_lt_of_le (h.doc.lt k a) htt.size
   ·rcases hown k a with c | c | c | c | c
    ·exact hp.lt k c
    ·rw [c]; exact heap_lt hd.st
    ·rw [c]; exact heap_lt (show w6.heap[lg']? = some (rlogBlock e.y u.l) from hd.log)
    ·rw [c]; exact Nat.lt_of_lt_of_le (h.doc.lt e.y (h.sub e.y (.inr (.inl (.inl rfl))))) htt.size
    ·rw [c]; exact heap_lt hb
 ·rcases hown2 k a with b | b
  ·exact h.low k b
  ·exact Nat.le_trans hB b
 ·exact ⟨by have := hn.m; show e.m ≤ _; omega, hu.2.1, by show u.l.n ≤ _; have := hu.1; omega, by show u.turn ≤ _; rw [hu.2.2]; exact Nat.zero_le _, fun q hq => (by cases hq), Nat.zero_le _⟩
end Go.Proofs.YtpjpknndfhablaaGreat
namespace Go.Proofs.YtpjpknndfhablaaGreat
open Go.RowKit
set_option maxHeartbeats 8000000 in
set_option maxRecDepth 100000 in
theorem does11s_any (w : World) (UA : Nat → Prop) (B k : Nat) (e : Ent11) (o : OpS) (h : SideAt w UA B e) (hn : NumOk e k) (ho : o.Fine) (hB : B ≤ w.heap.size) (hk : k ≤ 1048576) :
  Calls Tryz.prog 37 #[.pointer (some ⟨e.p, 0, none⟩), o.agg] w (OpEnds w UA B e k) := by
 obtain ⟨on, kind, a, b, KY, VL⟩ := o
 have HS := Lib.hid h
 have HN := Lib.hid hn
 have HO := Lib.hid ho
 have hba := balloc w (.cells #[.int .i64 on, .int .i64 kind, .int .i64 a, .int .i64 b, .string ⟨KY.toArray⟩, .string ⟨VL.toArray⟩] 80)
 have hna := heap_new w (.cells #[.int .i64 on, .int .i64 kind, .int .i64 a, .int .i64 b, .string ⟨KY.toArray⟩, .string ⟨VL.toArray⟩] 80)
 obtain ⟨B3, hB3⟩ : ∃ n, w.heap.size = n := ⟨_, rfl⟩
 obtain ⟨wa, hwa⟩ : ∃ W, w.alloc (.cells #[.int .i64 on, .int .i64 kind, .int .i64 a, .int .i64 b, .string ⟨KY.toArray⟩, .string ⟨VL.toArray⟩] 80) = W := ⟨_, rfl⟩
 rw [hwa] at hba
 rw [hwa, hB3] at hna
 have HX := Lib.hid (h.below hba)
 have HBA := Lib.hid hba
 have HOB : Hid (wa.heap[B3]? = some (.cells #[.int .i64 on, .int .i64 kind, .int .i64 a, .int .i64 b, .string ⟨KY.toArray⟩, .string ⟨VL.toArray⟩] 80 (0, 0))) := Lib.hid hna
 have HOUT : Hid (¬ e.own B3) := Lib.hid (fun a => by have := h.doc.lt B3 (h.sub B3 a); omega)
 have HOF : Hid (¬ e.F B3 ∧ ¬ GD e.z e.lg e.y e.us B3) := Lib.hid ⟨fun a => HOUT.out (.inl a), fun a => HOUT.out (.inr (.inl a))⟩
 have p0 : wa.cell? ⟨e.p, 0, none⟩ = some (.pointer (some ⟨e.x, 0, none⟩)) := cell_of HX.out.blk rfl
 have p1 : wa.cell? ⟨e.p, 1, none⟩ = some (.pointer (some ⟨e.c, 0, none⟩)) := cell_of HX.out.blk rfl
 have p2 : wa.cell? ⟨e.p, 2, none⟩ = some (.pointer (some ⟨e.z, 0, none⟩)) := cell_of HX.out.blk rfl
 have p3 : wa.cell? ⟨e.p, 3, none⟩ = some (.pointer (some ⟨e.y, 0, none⟩)) := cell_of HX.out.blk rfl
 have o0 := cell_of (i := 0) hna rfl
 have o1 := cell_of (i := 1) hna rfl
 have o2 := cell_of (i := 2) hna rfl
 have o3 := cell_of (i := 3) hna rfl
 have o4 := cell_of (i := 4) hna rfl
 have o5 := cell_of (i := 5) hna rfl
 have hB3q : B3 < wa.heap.size := heap_lt hna
 have hBq : B ≤ wa.heap.size := Nat.le_trans hB hba.size
 have hmm := hn.m
 have hnn := hn.n
 have htt := hn.turn
 have hgg := hn.g
 have HSB : Hid (∀ w' : World, w'.heap[e.p]? = some (sideBlock e.x e.c e.z e.y e.tsv e.usv) → w'.cell? ⟨B3, 2, none⟩ = some (.int .i64 a) → w'.cell? ⟨B3, 3, none⟩ = some (.int .i64 b) → (w'.cell? ⟨e.p, 0, none⟩ = some (.pointer (some ⟨e.x, 0, none⟩)) ∧ w'.cell? ⟨e.p, 1, none⟩ = some (.pointer (some ⟨e.c, 0, none⟩)) ∧ w'.cell? ⟨e.p, 2, none⟩ = some (.pointer (some ⟨e.z, 0, none⟩)) ∧ w'.cell? ⟨e.p, 3, none⟩ = some (.pointer (some ⟨e.y, 0, none⟩)) ∧ w'.cell? ⟨B3, 2, none⟩ = some (.int .i64 a) ∧ w'.cell? ⟨B3, 3, none⟩ = some (.int .i64 b))) := Lib.hid (fun w' hb h2 h3 => ⟨cell_of hb rfl, cell_of hb rfl, cell_of hb rfl, cell_of hb rfl, h2, h3⟩)
 clear h hn ho hba hna
 unfold OpS.agg
 by_cases k0 : kind = 0
 ·subst k0
  go_enter Tryz.func37, Tryz.ntmps37
  go_wp2_with fail
  try rw [hwa]
  try rw [hB3]
  clear hwa hB3
  refine (begin_sc HX.out.prog).mono ?_
  rintro x w1 ⟨yy, F1, rfl, hp1, tp1⟩
  have HP1 := Lib.hid hp1
  have HT1 := Lib.hid tp1
  have HH := Lib.hid (HX.out.half hp1 tp1)
  have hpl := heap_lt HX.out.blk
  have hBw1 : B ≤ w1.heap.size := Nat.le_trans hBq tp1.1.size
  clear hp1 tp1 p0 p1 p2 p3 o0 o1 o2 o3 o4 o5
  have p4 : w1.cell? ⟨e.p, 4, none⟩ = some e.tsv := cell_of HH.out.2.1 rfl
  have hfew := HN.out.few
  have hfu : e.us.length ≤ k := by have h1 := HX.out.len; omega
  obtain ⟨wb, hwb⟩ : ∃ W, w1.alloc (.cells #[.pointer (some ⟨yy, 0, none⟩)] 55) = W := ⟨_, rfl⟩
  have hbb := balloc w1 (.cells #[.pointer (some ⟨yy, 0, none⟩)] 55)
  have hnb := heap_new w1 (.cells #[.pointer (some ⟨yy, 0, none⟩)] 55)
  rw [hwb] at hbb hnb
  have HBB := Lib.hid hbb
  have HNB := Lib.hid hnb
  have HWB := Lib.hid hwb
  have TR := Lib.hid (own_touch HH.out.2.2.1 (Touch.of_below (S := fun _ => False) hbb) (fun _ _ a => a))
  have hw1s : w1.heap.size ≤ wb.heap.size := hbb.size
  clear hbb hnb hwb
  go_wp2_with (first | (at_builtin; go_must (rw [HWB.out]; refine wpList_append_own2 _ rfl (.tmp 27) (.tmp 29) 74 rfl B 55 1 8 _ txInfo Tryz.underlying74 rfl (by decide) e.tsv e.ts.length (tsPtrs e.ts) rfl TR.out ⟨w1.heap.size, 0, none⟩ 1 1 [.pointer (some ⟨yy, 0, none⟩)] rfl rfl (fun i u hi => by rw [addr_add, Nat.zero_add]; exact cell_of HNB.out (by simpa using hi)) (by intro u hu; simp at hu; subst hu; rfl) (by unfold maxLen; omega) (by omega) (by omega) ?_; intro tv w2 ho hg hv; obtain ⟨g2, c2, hgv, _⟩ := row_ptr ho (Nat.succ_pos _); subst hgv; have HO2 := Lib.hid ho; have HG2 := Lib.hid (touch_of_grown hg); have HV2 := Lib.hid hv; have hT2 : TyIn [55] wb (fun k => e.tsv.ownBlock = some k) := (fun k a t f hk hb => by obtain ⟨_, _, _, h1, h2⟩ := own_typed TR.out hk; rw [hb] at h1; cases h1; simp [h2]); have HB2 := Lib.hid (tyStay hT2 HG2.out (stays HH.out.2.1 HBB.out) (by decide)); have cf4 := free_of HB2.out 4; have p42 : w2.cell? ⟨e.p, 4, none⟩ = some e.tsv := cell_of HB2.out rfl; have HT2 := Lib.hid hT2; clear ho hg hv hT2)))
  have hset := heap_set (i := 4) (.slice (some ⟨g2, 0, none⟩) (e.ts.length + 1) c2) HB2.out
  obtain ⟨w3, hw3⟩ : ∃ W, w2.setCell ⟨e.p, 4, none⟩ (.slice (some ⟨g2, 0, none⟩) (e.ts.length + 1) c2) = W := ⟨_, rfl⟩
  have ht3 : Touch (· = e.p) w2 w3 := by rw [← hw3]; exact (Touch.refl (· = e.p) w2).setCell _ (fun _ => rfl)
  rw [hw3] at hset
  rw [hw3]
  have hb3 : w3.heap[e.p]? = some (sideBlock e.x e.c e.z e.y (.slice (some ⟨g2, 0, none⟩) (e.ts.length + 1) c2) e.usv) := by simpa [sideBlock] using hset
  have hUA1 : ∀ k, e.own k → UA k ∨ F1 k := fun k a => .inl (HX.out.sub k a)
  obtain ⟨sp2, sd2⟩ := quad_turn (HP1.out.below HBB.out) (HH.out.1.below HBB.out) HG2.out (fun k hk => ⟨hUA1 k (.inr (.inr (.inr (.inl hk)))), by obtain ⟨a', t', f', h1, h2⟩ := own_typed TR.out hk; exact ⟨a', t', f', h1, by simp [h2]⟩⟩)
  obtain ⟨sp3, sd3⟩ := quad_turn sp2 sd2 ht3 (fun k hk => ⟨hUA1 k (.inr (.inr (.inl hk))), by rw [hk]; exact ⟨_, _, _, HB2.out, by simp⟩⟩)
  have hTp : TyIn [77] w2 (· = e.p) := fun k a t f hk hb => by
   have h1 := HB2.out
   rw [← hk, hb] at h1
   simp only [Option.some.injEq, Obj.cells.injEq] at h1
   simp [h1.2.1]
  have UR2 := tyOwn HT2.out HG2.out (own_touch HH.out.2.2.2 (Touch.of_below (S := fun _ => False) HBB.out) (fun _ _ a => a)) (by decide)
  have UR3 := Lib.hid (tyOwn hTp ht3 UR2 (by decide))
  have TR3 := Lib.hid (tyOwn hTp ht3 HO2.out (by decide))
  have SP3 := Lib.hid sp3
  have SD3 := Lib.hid sd3
  have HB3_ := Lib.hid hb3
  have HTT3 : Hid (Touch e.own wa w3) := Lib.hid (((HT1.out.1.mono (fun _ _ a => .inl a)).trans (T := fun _ => False) (Touch.of_below HBB.out) (fun _ _ a => a.elim) |>.trans HG2.out (fun _ _ a => .inr (.inr (.inr (.inl a))))).trans ht3 (fun _ _ a => .inr (.inr (.inl a))))
  have HTV : Hid (∀ k, (Value.slice (some ⟨g2, 0, none⟩) (e.ts.length + 1) c2).ownBlock = some k → e.own k ∨ wa.heap.size ≤ k) := Lib.hid (fun k hk => by
   rcases HV2.out with a | a
   ·rw [a] at hk; exact .inl (.inr (.inr (.inr (.inl hk))))
   ·rw [a] at hk
    have e1 := Option.some.inj hk
    exact .inr (by have := HT1.out.1.size; omega))
  have hw3s : wa.heap.size ≤ w3.heap.size := HTT3.out.size
  clear hset hw3 ht3 hb3 sp2 sd2 sp3 sd3 hTp UR2 p4 p42 cf4
  go_wp2_with fail
  have hS0 : w3.drew.cell? ⟨e.p, 5, none⟩ = some e.usv ∧ w3.drew.cell? ⟨e.p, 2, none⟩ = some (.pointer (some ⟨e.z, 0, none⟩)) := ⟨cell_of HB3_.out rfl, cell_of HB3_.out rfl⟩
  refine wp_region_onL 14 (S := fun w' => w'.cell? ⟨e.p, 5, none⟩ = some e.usv ∧ w'.cell? ⟨e.p, 2, none⟩ = some (.pointer (some ⟨e.z, 0, none⟩))) (by kernel_rfl) (by kernel_rfl) ?_
  refine wpOn_takeL (i := 0) (v := ?_) rfl (by kernel_rfl) (by kernel_rfl) (by decide) (fun _ _ _ h => h) ?_ (by assumption) ?_; rotate_left; focus (first | (refine Or.inr ⟨by rfl, ?_⟩; with_reducible rfl) | (refine Or.inl ⟨by rfl, ?_⟩; (intro w hSw; (try dsimp only at hSw); go_simp); try with_reducible rfl))
  try simp only [Act.put, List.setIfInBounds_toArray, List.set_cons_zero, List.set_cons_succ]
  refine wpOn_takeL (i := 1) (v := ?_) rfl (by kernel_rfl) (by kernel_rfl) (by decide) (fun _ _ _ h => h) ?_ (by assumption) ?_; rotate_left; focus (first | (refine Or.inr ⟨by rfl, ?_⟩; with_reducible rfl) | (refine Or.inl ⟨by rfl, ?_⟩; (intro w hSw; (try dsimp only at hSw); go_simp); try with_reducible rfl))
  try simp only [Act.put, List.setIfInBounds_toArray, List.set_cons_zero, List.set_cons_succ]
  refine wpOn_takeL (i := 2) (v := ?_) rfl (by kernel_rfl) (by kernel_rfl) (by decide) (fun _ _ _ h => h) ?_ (by assumption) ?_; rotate_left; focus (first | (refine Or.inr ⟨by rfl, ?_⟩; with_reducible rfl) | (refine Or.inl ⟨by rfl, ?_⟩; (intro w hSw; (try dsimp only at hSw); go_simp); try with_reducible rfl))
  try simp only [Act.put, List.setIfInBounds_toArray, List.set_cons_zero, List.set_cons_succ]
  refine wpOn_takeL (i := 3) (v := ?_) rfl (by kernel_rfl) (by kernel_rfl) (by decide) (fun _ _ _ h => h) ?_ (by assumption) ?_; rotate_left; focus (first | (refine Or.inr ⟨by rfl, ?_⟩; with_reducible rfl) | (refine Or.inl ⟨by rfl, ?_⟩; (intro w hSw; (try dsimp only at hSw); go_simp); try with_reducible rfl))
  try simp only [Act.put, List.setIfInBounds_toArray, List.set_cons_zero, List.set_cons_succ]
  refine wpOn_takeL (i := 4) (v := ?_) rfl (by kernel_rfl) (by kernel_rfl) (by decide) (fun _ _ _ h => h) ?_ (by assumption) ?_; rotate_left; focus (first | (refine Or.inr ⟨by rfl, ?_⟩; with_reducible rfl) | (refine Or.inl ⟨by rfl, ?_⟩; (intro w hSw; (try dsimp only at hSw); go_simp); try with_reducible rfl))
  try simp only [Act.put, List.setIfInBounds_toArray, List.set_cons_zero, List.set_cons_succ]
  refine wpOn_takeL (i := 5) (v := ?_) rfl (by kernel_rfl) (by kernel_rfl) (by decide) (fun _ _ _ h => h) ?_ (by assumption) ?_; rotate_left; focus (first | (refine Or.inr ⟨by rfl, ?_⟩; with_reducible rfl) | (refine Or.inl ⟨by rfl, ?_⟩; (intro w hSw; (try dsimp only at hSw); go_simp); try with_reducible rfl))
  try simp only [Act.put, List.setIfInBounds_toArray, List.set_cons_zero, List.set_cons_succ]
  refine wpOn_takeL (i := 6) (v := ?_) rfl (by kernel_rfl) (by kernel_rfl) (by decide) (fun _ _ _ h => h) ?_ (by assumption) ?_; rotate_left; focus (first | (refine Or.inr ⟨by rfl, ?_⟩; with_reducible rfl) | (refine Or.inl ⟨by rfl, ?_⟩; (intro w hSw; (try dsimp only at hSw); go_simp); try with_reducible rfl))
  try simp only [Act.put, List.setIfInBounds_toArray, List.set_cons_zero, List.set_cons_succ]
  refine wpOn_takeL (i := 7) (v := ?_) rfl (by kernel_rfl) (by kernel_rfl) (by decide) (fun _ _ _ h => h) ?_ (by assumption) ?_; rotate_left; focus (first | (refine Or.inr ⟨by rfl, ?_⟩; with_reducible rfl) | (refine Or.inl ⟨by rfl, ?_⟩; (intro w hSw; (try dsimp only at hSw); go_simp); try with_reducible rfl))
  try simp only [Act.put, List.setIfInBounds_toArray, List.set_cons_zero, List.set_cons_succ]
  refine wpOn_takeL (i := 8) (v := ?_) rfl (by kernel_rfl) (by kernel_rfl) (by decide) (fun _ _ _ h => h) ?_ (by assumption) ?_; rotate_left; focus (first | (refine Or.inr ⟨by rfl, ?_⟩; with_reducible rfl) | (refine Or.inl ⟨by rfl, ?_⟩; (intro w hSw; (try dsimp only at hSw); go_simp); try with_reducible rfl))
  try simp only [Act.put, List.setIfInBounds_toArray, List.set_cons_zero, List.set_cons_succ]
  refine wpOn_oneL (i := 9) rfl (by kernel_rfl) (by decide) ?_
  intro K hK
  rw [if_pos (by rfl)]
  go_simp
  go_at_call 73
  refine (begin_doc (SD3.out.below (Below.refl _ w3).drew)).mono ?_
  rintro x w4 ⟨u, rfl, hu, hd4, b4⟩
  have B4_ := Lib.hid (bthen (Below.refl _ w3).drew b4)
  have SD4 := Lib.hid hd4
  have HU := Lib.hid (Nat.le_trans hw3s hu)
  have hS1 : w4.cell? ⟨e.p, 5, none⟩ = some e.usv ∧ w4.cell? ⟨e.p, 2, none⟩ = some (.pointer (some ⟨e.z, 0, none⟩)) := ⟨cell_later b4 hS0.1, cell_later b4 hS0.2⟩
  clear hu hd4 b4
  refine hK _ _ hS1 ?_
  clear hK K
  try simp only [Act.put, List.setIfInBounds_toArray, List.set_cons_zero, List.set_cons_succ]
  refine wpOn_oneL (i := 10) rfl (by kernel_rfl) (by decide) ?_
  intro K hK
  rw [if_pos (by rfl)]
  go_simp
  obtain ⟨wc, hwc⟩ : ∃ W, (w4.alloc (.cells #[.pointer (some ⟨u, 0, none⟩)] 139)) = W := ⟨_, rfl⟩
  have hbc := balloc w4 (.cells #[.pointer (some ⟨u, 0, none⟩)] 139)
  have hnc := heap_new w4 (.cells #[.pointer (some ⟨u, 0, none⟩)] 139)
  rw [hwc] at hbc hnc ⊢
  have BC := Lib.hid hbc
  have NC := Lib.hid hnc
  have hS2 : wc.cell? ⟨e.p, 5, none⟩ = some e.usv ∧ wc.cell? ⟨e.p, 2, none⟩ = some (.pointer (some ⟨e.z, 0, none⟩)) := ⟨cell_later hbc hS1.1, cell_later hbc hS1.2⟩
  clear hwc hbc hnc
  refine hK _ _ hS2 ?_
  clear hK K
  try simp only [Act.put, List.setIfInBounds_toArray, List.set_cons_zero, List.set_cons_succ]
  refine wpOn_oneL (i := 11) rfl (by kernel_rfl) (by decide) ?_
  intro K hK
  rw [if_pos (by rfl)]
  have URc := Lib.hid (own_touch UR3.out (Touch.of_below (S := fun _ => False) (bthen B4_.out BC.out)) (fun _ _ a => a))
  refine wp_append_own2 wc (.tmp 37) (.tmp 43) 75 rfl B 139 1 8 _ rtxInfo Tryz.underlying75 rfl (by decide) e.usv e.us.length (usPtrs e.us) rfl URc.out ⟨w4.heap.size, 0, none⟩ 1 1 [.pointer (some ⟨u, 0, none⟩)] rfl rfl (fun i u hi => by rw [addr_add, Nat.zero_add]; exact cell_of NC.out (by simpa using hi)) (by intro u hu; simp at hu; subst hu; rfl) (by unfold maxLen; omega) (by omega) (by have h1 := B4_.out.size; have h2 := BC.out.size; omega) ?_
  intro uv w5 ho hg hv
  obtain ⟨g5, c5, hgv, _⟩ := row_ptr ho (Nat.succ_pos _)
  subst hgv
  have HO5 := Lib.hid ho
  have HG5 := Lib.hid (touch_of_grown hg)
  have HV5 := Lib.hid hv
  have hT5 : TyIn [139] wc (fun k => e.usv.ownBlock = some k) := fun k a t f hk hb => by
   obtain ⟨_, _, _, h1, h2⟩ := own_typed URc.out hk
   rw [hb] at h1
   cases h1
   simp [h2]
  have HT5 := Lib.hid hT5
  have HB5 := Lib.hid (tyStay hT5 HG5.out (stays HB3_.out (bthen B4_.out BC.out)) (by decide))
  have hS3 : w5.cell? ⟨e.p, 5, none⟩ = some e.usv ∧ w5.cell? ⟨e.p, 2, none⟩ = some (.pointer (some ⟨e.z, 0, none⟩)) := ⟨cell_of HB5.out rfl, cell_of HB5.out rfl⟩
  have cf5 := free_of HB5.out 5
  clear ho hg hv hT5
  refine hK _ _ hS3 ?_
  clear hK K
  try simp only [Act.put, List.setIfInBounds_toArray, List.set_cons_zero, List.set_cons_succ]
  refine wpOn_takeL (i := 12) (v := ?_) rfl (by kernel_rfl) (by kernel_rfl) (by decide) (fun _ _ _ h => h) ?_ (by assumption) ?_; rotate_left; focus (first | (refine Or.inr ⟨by rfl, ?_⟩; with_reducible rfl) | (refine Or.inl ⟨by rfl, ?_⟩; (intro w hSw; (try dsimp only at hSw); go_simp); try with_reducible rfl))
  try simp only [Act.put, List.setIfInBounds_toArray, List.set_cons_zero, List.set_cons_succ]
  refine wpOn_takeL (i := 13) (v := ?_) rfl (by kernel_rfl) (by kernel_rfl) (by decide) (fun _ _ _ h => h) ?_ (by assumption) ?_; rotate_left; focus (first | (refine Or.inr ⟨by rfl, ?_⟩; with_reducible rfl) | (refine Or.inl ⟨by rfl, ?_⟩; (intro w hSw; (try dsimp only at hSw); go_simp); try with_reducible rfl))
  try simp only [Act.put, List.setIfInBounds_toArray, List.set_cons_zero, List.set_cons_succ]
  refine wpOn_lastL (i := 14) rfl (by kernel_rfl) (by kernel_rfl) rfl ?_
  intro K hK
  rw [if_pos (by rfl)]
  go_simp
  refine hK _ _ ?_
  clear hK K
  try simp only [Act.put, List.setIfInBounds_toArray, List.set_cons_zero, List.set_cons_succ]
  have hset := heap_set (i := 5) (.slice (some ⟨g5, 0, none⟩) (e.us.length + 1) c5) HB5.out
  obtain ⟨w6, hw6⟩ : ∃ W, w5.setCell ⟨e.p, 5, none⟩ (.slice (some ⟨g5, 0, none⟩) (e.us.length + 1) c5) = W := ⟨_, rfl⟩
  have ht6 : Touch (· = e.p) w5 w6 := by rw [← hw6]; exact (Touch.refl (· = e.p) w5).setCell _ (fun _ => rfl)
  rw [hw6] at hset
  rw [hw6]
  have hb6 : w6.heap[e.p]? = some (sideBlock e.x e.c e.z e.y (.slice (some ⟨g2, 0, none⟩) (e.ts.length + 1) c2) (.slice (some ⟨g5, 0, none⟩) (e.us.length + 1) c5)) := by simpa [sideBlock] using hset
  have hUA2 : ∀ k, e.own k → (UA k ∨ F1 k) ∨ k = u := fun k a => .inl (.inl (HX.out.sub k a))
  obtain ⟨sp5, sd5⟩ := quad_turn (SP3.out.below (bthen B4_.out BC.out)) (SD4.out.below BC.out) HG5.out (fun k hk => ⟨hUA2 k (.inr (.inr (.inr (.inr hk)))), by obtain ⟨a', t', f', h1, h2⟩ := own_typed URc.out hk; exact ⟨a', t', f', h1, by simp [h2]⟩⟩)
  obtain ⟨sp6, sd6⟩ := quad_turn sp5 sd5 ht6 (fun k hk => ⟨hUA2 k (.inr (.inr (.inl hk))), by rw [hk]; exact ⟨_, _, _, HB5.out, by simp⟩⟩)
  have hTp : TyIn [77] w5 (· = e.p) := fun k a t f hk hb => by
   have h1 := HB5.out
   rw [← hk, hb] at h1
   simp only [Option.some.injEq, Obj.cells.injEq] at h1
   simp [h1.2.1]
  have TR5 := tyOwn HT5.out HG5.out (own_touch TR3.out (Touch.of_below (S := fun _ => False) (bthen B4_.out BC.out)) (fun _ _ a => a)) (by decide)
  have TR6 := tyOwn hTp ht6 TR5 (by decide)
  have UR6 := tyOwn hTp ht6 HO5.out (by decide)
  have HTT6 : Touch e.own wa w6 := ((HTT3.out.trans (T := fun _ => False) (Touch.of_below (bthen B4_.out BC.out)) (fun _ _ a => a.elim)).trans HG5.out (fun _ _ a => .inr (.inr (.inr (.inr a))))).trans ht6 (fun _ _ a => .inr (.inr (.inl a)))
  have HFIN := Lib.hid (HX.out.begun (x := .returned (.bool true)) hBq HN.out HT1.out.2 sp6 sd6 HU.out hb6 TR6 UR6 HTV.out (fun k hk => by
   rcases HV5.out with a | a
   ·rw [a] at hk; exact .inl (.inr (.inr (.inr (.inr hk))))
   ·rw [a] at hk
    have e1 := Option.some.inj hk
    have h1 := B4_.out.size
    have h2 := BC.out.size
    exact .inr (by omega)) HTT6 rfl)
  clear hset hw6 ht6 hb6 sp5 sd5 sp6 sd6 hTp TR5 TR6 UR6 HTT6
  go_wp2
  go_ret
  exact HFIN.out.before HBA.out
 ·have kb0 : (kind == 0) = false := by simp [k0]
  by_cases k5 : kind = 5
  ·subst k5
   have z1 : wa.cell? ⟨e.z, 1, none⟩ = some e.v := cell_of HX.out.doc.st rfl
   have HBB : Hid (∀ w' : World, Below wa.heap.size wa w' → (w'.cell? ⟨e.p, 0, none⟩ = some (.pointer (some ⟨e.x, 0, none⟩)) ∧ w'.cell? ⟨e.p, 2, none⟩ = some (.pointer (some ⟨e.z, 0, none⟩)) ∧ w'.cell? ⟨B3, 4, none⟩ = some (.string ⟨KY.toArray⟩) ∧ w'.cell? ⟨B3, 2, none⟩ = some (.int .i64 a) ∧ w'.cell? ⟨e.z, 1, none⟩ = some e.v)) := Lib.hid (fun w' h => ⟨cell_later h p0, cell_later h p2, cell_later h o4, cell_later h o2, cell_later h z1⟩)
   have hga := fun (w' : World) (hb : Below wa.heap.size wa w') => get_c (HX.out.prog.below hb) KY HO.out.k
   have hgb := fun (w' : World) (hb : Below wa.heap.size wa w') => rget_any e.v e.s.ps KY w' (HX.out.doc.kept.pairs.below hb)
   have hfew : e.s.ps.length ≤ 4096 := by have := HX.out.prog.good.2.2; unfold Sto.fits at this; simp at this; omega
   obtain ⟨gv, hgv⟩ : ∃ x, (Sto.get e.s.ps KY).getD [] = x := ⟨_, rfl⟩
   obtain ⟨hv, hhv⟩ : ∃ x, Sto.here e.s.ps KY = x := ⟨_, rfl⟩
   have HGA : Hid (∀ w' : World, Below wa.heap.size wa w' → Calls Tryz.prog 40 #[.pointer (some ⟨e.x, 0, none⟩), .string ⟨KY.toArray⟩] w' fun e w'' => e = .returned (.tuple #[.string ⟨gv.toArray⟩, .bool hv]) ∧ Below w'.heap.size w' w'') := Lib.hid (fun w' hb => by have := hga w' hb; rw [hgv, hhv] at this; exact this)
   have HGB : Hid (∀ w' : World, Below wa.heap.size wa w' → Calls Tryz.prog 74 #[e.v, .string ⟨KY.toArray⟩] w' fun e w'' => e = .returned (.tuple #[.string ⟨gv.toArray⟩, .bool hv]) ∧ Below w'.heap.size w' w'') := Lib.hid (fun w' hb => by have := hgb w' hb; rw [hgv, hhv] at this; exact this)
   clear hga hgb hgv hhv z1
   go_enter Tryz.func37, Tryz.ntmps37
   go_wp2_with fail
   try rw [hwa]
   try rw [hB3]
   clear hwa hB3
   have B1_ := Lib.hid (Below.refl wa.heap.size wa).drew
   have hS1 := HBB.out wa.drew B1_.out
   refine wp_region_heldL (S := fun w' => w'.cell? ⟨e.p, 0, none⟩ = some (.pointer (some ⟨e.x, 0, none⟩)) ∧ w'.cell? ⟨e.p, 2, none⟩ = some (.pointer (some ⟨e.z, 0, none⟩)) ∧ w'.cell? ⟨B3, 4, none⟩ = some (.string ⟨KY.toArray⟩) ∧ w'.cell? ⟨B3, 2, none⟩ = some (.int .i64 a) ∧ w'.cell? ⟨e.z, 1, none⟩ = some e.v) (by kernel_rfl) ?_
   refine planned [0, 1, 2, 3, 4, 5] ?_
   iterate 6 (refine planned_take (v := ?_) rfl (by kernel_rfl) (by kernel_rfl) (by kernel_rfl) (fun _ _ _ h => h) ?_ (by assumption) ?_; rotate_left; (focus (first | (refine Or.inr ⟨by rfl, ?_⟩; with_reducible rfl) | (refine Or.inl ⟨by rfl, ?_⟩; (intro w hSw; (try dsimp only at hSw); go_simp); try with_reducible rfl))); try simp only [Act.put, List.setIfInBounds_toArray, List.set_cons_zero, List.set_cons_succ])
   refine planned_end ?_
   refine wpAnyH_oneL (i := 6) rfl (by kernel_rfl) ?_
   intro K hK
   rw [if_pos (by rfl)]
   go_simp
   go_at_call 40
   refine (HGA.out wa.drew B1_.out).mono ?_
   rintro x w1 ⟨rfl, b1⟩
   have B2_ := Lib.hid (bthen B1_.out b1)
   have hS2 := HBB.out w1 B2_.out
   clear b1 p0 p1 p2 p3 o0 o1 o2 o3 o4 o5
   refine hK _ _ hS2 ?_
   clear hK K
   try simp only [Act.put, List.setIfInBounds_toArray, List.set_cons_zero, List.set_cons_succ]
   refine planned [7, 8, 9, 10, 11] ?_
   iterate 5 (refine planned_take (v := ?_) rfl (by kernel_rfl) (by kernel_rfl) (by kernel_rfl) (fun _ _ _ h => h) ?_ (by assumption) ?_; rotate_left; (focus (first | (refine Or.inr ⟨by rfl, ?_⟩; with_reducible rfl) | (refine Or.inl ⟨by rfl, ?_⟩; (intro w hSw; (try dsimp only at hSw); go_simp); try with_reducible rfl))); try simp only [Act.put, List.setIfInBounds_toArray, List.set_cons_zero, List.set_cons_succ])
   refine planned_end ?_
   refine wpAnyH_done (by kernel_rfl) ?_ _
   clear hS1 hS2
   go_wp2_with fail
   have B3_ := Lib.hid (bthen B2_.out (Below.refl _ w1).drew)
   have hS1 := HBB.out w1.drew B3_.out
   refine wp_region_heldL (S := fun w' => w'.cell? ⟨e.p, 0, none⟩ = some (.pointer (some ⟨e.x, 0, none⟩)) ∧ w'.cell? ⟨e.p, 2, none⟩ = some (.pointer (some ⟨e.z, 0, none⟩)) ∧ w'.cell? ⟨B3, 4, none⟩ = some (.string ⟨KY.toArray⟩) ∧ w'.cell? ⟨B3, 2, none⟩ = some (.int .i64 a) ∧ w'.cell? ⟨e.z, 1, none⟩ = some e.v) (by kernel_rfl) ?_
   refine planned [0, 1, 2, 3, 4, 5, 6, 7, 8] ?_
   iterate 9 (refine planned_take (v := ?_) rfl (by kernel_rfl) (by kernel_rfl) (by kernel_rfl) (fun _ _ _ h => h) ?_ (by assumption) ?_; rotate_left; (focus (first | (refine Or.inr ⟨by rfl, ?_⟩; with_reducible rfl) | (refine Or.inl ⟨by rfl, ?_⟩; (intro w hSw; (try dsimp only at hSw); go_simp); try with_reducible rfl))); try simp only [Act.put, List.setIfInBounds_toArray, List.set_cons_zero, List.set_cons_succ])
   refine planned_end ?_
   refine wpAnyH_oneL (i := 9) rfl (by kernel_rfl) ?_
   intro K hK
   rw [if_pos (by rfl)]
   go_simp
   go_at_call 74
   refine (HGB.out w1.drew B3_.out).mono ?_
   rintro x w2 ⟨rfl, b2⟩
   have B4_ := Lib.hid (bthen B3_.out b2)
   have hS2 := HBB.out w2 B4_.out
   clear b2
   refine hK _ _ hS2 ?_
   clear hK K
   try simp only [Act.put, List.setIfInBounds_toArray, List.set_cons_zero, List.set_cons_succ]
   refine planned [10, 11, 12, 13, 14] ?_
   iterate 5 (refine planned_take (v := ?_) rfl (by kernel_rfl) (by kernel_rfl) (by kernel_rfl) (fun _ _ _ h => h) ?_ (by assumption) ?_; rotate_left; (focus (first | (refine Or.inr ⟨by rfl, ?_⟩; with_reducible rfl) | (refine Or.inl ⟨by rfl, ?_⟩; (intro w hSw; (try dsimp only at hSw); go_simp); try with_reducible rfl))); try simp only [Act.put, List.setIfInBounds_toArray, List.set_cons_zero, List.set_cons_succ])
   refine planned_end ?_
   refine wpAnyH_done (by kernel_rfl) ?_ _
   clear hS1 hS2
   go_wp2_with fail
   have B5_ := Lib.hid (bthen B4_.out (Below.refl _ w2).drew)
   have hS1 := HBB.out w2.drew B5_.out
   refine wp_region_heldL (S := fun w' => w'.cell? ⟨e.p, 0, none⟩ = some (.pointer (some ⟨e.x, 0, none⟩)) ∧ w'.cell? ⟨e.p, 2, none⟩ = some (.pointer (some ⟨e.z, 0, none⟩)) ∧ w'.cell? ⟨B3, 4, none⟩ = some (.string ⟨KY.toArray⟩) ∧ w'.cell? ⟨B3, 2, none⟩ = some (.int .i64 a) ∧ w'.cell? ⟨e.z, 1, none⟩ = some e.v) (by kernel_rfl) ?_
   refine planned [0, 1, 2, 3, 4, 5, 6, 7, 9, 10, 11, 12, 13, 14, 15, 16, 17, 18, 19, 21, 22, 23, 24] ?_
   iterate 23 (refine planned_take (v := ?_) rfl (by kernel_rfl) (by kernel_rfl) (by kernel_rfl) (fun _ _ _ h => h) ?_ (by assumption) ?_; rotate_left; (focus (first | (refine Or.inr ⟨by rfl, ?_⟩; with_reducible rfl) | (refine Or.inl ⟨by rfl, ?_⟩; (intro w hSw; (try dsimp only at hSw); go_simp); try with_reducible rfl))); try simp only [Act.put, List.setIfInBounds_toArray, List.set_cons_zero, List.set_cons_succ])
   refine planned_end ?_
   refine wpAnyH_oneL (i := 8) rfl (by kernel_rfl) ?_
   intro K hK
   rw [if_pos (by rfl)]
   go_simp
   go_at_call 20
   refine (scan_sc (HX.out.prog.below B5_.out) KY a HO.out.a1 HO.out.a2).mono ?_
   rintro x w3 ⟨vl, rfl, pl, fl, b3⟩
   have B6_ := Lib.hid (bthen B5_.out b3)
   have PL := Lib.hid pl
   have FL : Hid (∀ g, vl.ownBlock = some g → wa.heap.size ≤ g) := Lib.hid (fun g hg => Nat.le_trans B5_.out.size (fl g hg))
   have hS3 := HBB.out w3 B6_.out
   clear pl fl b3
   refine hK _ _ hS3 ?_
   clear hK K
   try simp only [Act.put, List.setIfInBounds_toArray, List.set_cons_zero, List.set_cons_succ]
   refine wpAnyH_oneL (i := 20) rfl (by kernel_rfl) ?_
   intro K hK
   rw [if_pos (by rfl)]
   go_simp
   go_at_call 76
   refine (rscan_any e.v e.s.ps KY a w3 (HX.out.doc.kept.pairs.below B6_.out) (by omega) HO.out.a1).mono ?_
   rintro x w4 ⟨vm, rfl, pm, _, b4⟩
   have B7_ := Lib.hid (bthen B6_.out b4)
   have PM := Lib.hid pm
   have PL4 := Lib.hid (PL.out.below b4)
   have hS4 := HBB.out w4 B7_.out
   clear pm b4
   refine hK _ _ hS4 ?_
   clear hK K
   try simp only [Act.put, List.setIfInBounds_toArray, List.set_cons_zero, List.set_cons_succ]
   refine wpAnyH_oneL (i := 25) rfl (by kernel_rfl) ?_
   intro K hK
   rw [if_pos (by rfl)]
   go_simp
   go_at_call 75
   refine (tells11_any w4 vl vm _ PL4.out PM.out gv hv).mono ?_
   rintro x w5 ⟨rfl, t5⟩
   have B8_ := Lib.hid (B7_.out.trans (t5.below B7_.out.size (fun k hk e => by have := FL.out k e; omega)))
   have hS5 := HBB.out w5 B8_.out
   clear t5
   refine hK _ _ hS5 ?_
   clear hK K
   try simp only [Act.put, List.setIfInBounds_toArray, List.set_cons_zero, List.set_cons_succ]
   refine wpAnyH_takeL (i := 26) (v := ?_) rfl (by kernel_rfl) (by kernel_rfl) (by kernel_rfl) (fun _ _ _ h => h) ?_ (by assumption) ?_; rotate_left; focus (first | (refine Or.inr ⟨by rfl, ?_⟩; with_reducible rfl) | (refine Or.inl ⟨by rfl, ?_⟩; (intro w hSw; (try dsimp only at hSw); go_simp); try with_reducible rfl))
   try simp only [Act.put, List.setIfInBounds_toArray, List.set_cons_zero, List.set_cons_succ]
   refine wpAnyH_done (by kernel_rfl) ?_ _
   go_wp2
   go_ret
   exact OpEnds.stay HS.out HN.out (bthen HBA.out B8_.out) rfl
  ·have kb5 : (kind == 5) = false := by simp [k5]
   by_cases k6 : kind = 6
   ·subst k6
    go_enter Tryz.func37, Tryz.ntmps37
    go_wp2_with fail
    try rw [hwa]
    try rw [hB3]
    clear hwa hB3
    have HXD := Lib.hid (HX.out.below (Below.refl _ wa).drew)
    have hS0 := HSB.out wa.drew HXD.out.blk o2 o3
    refine wp_region_heldL (S := fun w' => w'.cell? ⟨e.p, 0, none⟩ = some (.pointer (some ⟨e.x, 0, none⟩)) ∧ w'.cell? ⟨e.p, 1, none⟩ = some (.pointer (some ⟨e.c, 0, none⟩)) ∧ w'.cell? ⟨e.p, 2, none⟩ = some (.pointer (some ⟨e.z, 0, none⟩)) ∧ w'.cell? ⟨e.p, 3, none⟩ = some (.pointer (some ⟨e.y, 0, none⟩)) ∧ w'.cell? ⟨B3, 2, none⟩ = some (.int .i64 a) ∧ w'.cell? ⟨B3, 3, none⟩ = some (.int .i64 b)) (by kernel_rfl) ?_
    refine planned [0, 1, 2, 3, 5, 6, 7, 8] ?_
    iterate 8 (refine planned_take (v := ?_) rfl (by kernel_rfl) (by kernel_rfl) (by kernel_rfl) (fun _ _ _ h => h) ?_ (by assumption) ?_; rotate_left; (focus (first | (refine Or.inr ⟨by rfl, ?_⟩; with_reducible rfl) | (refine Or.inl ⟨by rfl, ?_⟩; (intro w hSw; (try dsimp only at hSw); go_simp); try with_reducible rfl))); try simp only [Act.put, List.setIfInBounds_toArray, List.set_cons_zero, List.set_cons_succ])
    refine planned_end ?_
    refine wpAnyH_oneL (i := 4) rfl (by kernel_rfl) ?_
    intro K hK
    rw [if_pos (by rfl)]
    go_simp
    go_at_call 41
    refine (sync_sc HXD.out.prog).mono ?_
    rintro x w1 ⟨rfl, F1, hp1, tp1, _⟩
    have HP1 := Lib.hid hp1
    have HT1 := Lib.hid tp1
    have HH := Lib.hid (HXD.out.half hp1 tp1)
    have q2 := cellStay tp1.1 hB3q HOF.out.1 hS0.2.2.2.2.1
    have q3 := cellStay tp1.1 hB3q HOF.out.1 hS0.2.2.2.2.2
    have hS1 := HSB.out w1 HH.out.2.1 q2 q3
    have hB31 : B3 < w1.heap.size := Nat.lt_of_lt_of_le hB3q tp1.1.size
    clear hp1 tp1 q2 q3
    obtain ⟨R, hR⟩ : ∃ R, (e.s.sync e.d).2.2 = R := ⟨_, rfl⟩
    rw [hR]
    refine hK _ _ hS1 ?_
    clear hK K
    try simp only [Act.put, List.setIfInBounds_toArray, List.set_cons_zero, List.set_cons_succ]
    refine wpAnyH_oneL (i := 9) rfl (by kernel_rfl) ?_
    intro K hK
    rw [if_pos (by rfl)]
    go_simp
    go_at_call 77
    refine (sync_doc HH.out.1).mono ?_
    rintro x w2 ⟨rfl, hd2, td2⟩
    have HG := ssync_gn e.s e.d
    have HE := Lib.hid (HXD.out.moved (x := .returned (.bool true)) (k := k) hBq HP1.out HT1.out hd2 td2 HN.out (Nat.le_add_right _ _) (by rw [HG.2.1]; exact hgg) (by omega) (by omega) rfl)
    have hb2 := tyStay HH.out.1.ty td2 HH.out.2.1 (by decide)
    have q2 := cellStay td2 hB31 HOF.out.2 hS1.2.2.2.2.1
    have q3 := cellStay td2 hB31 HOF.out.2 hS1.2.2.2.2.2
    have hS2 := HSB.out w2 hb2 q2 q3
    clear hd2 td2 q2 q3 hb2
    rw [hR]
    refine hK _ _ hS2 ?_
    clear hK K
    try simp only [Act.put, List.setIfInBounds_toArray, List.set_cons_zero, List.set_cons_succ]
    refine planned [10, 11] ?_
    iterate 2 (refine planned_take (v := ?_) rfl (by kernel_rfl) (by kernel_rfl) (by kernel_rfl) (fun _ _ _ h => h) ?_ (by assumption) ?_; rotate_left; (focus (first | (refine Or.inr ⟨by rfl, ?_⟩; with_reducible rfl) | (refine Or.inl ⟨by rfl, ?_⟩; (intro w hSw; (try dsimp only at hSw); go_simp); try with_reducible rfl))); try simp only [Act.put, List.setIfInBounds_toArray, List.set_cons_zero, List.set_cons_succ])
    refine planned_end ?_
    refine wpAnyH_done (by kernel_rfl) ?_ _
    go_wp2
    go_ret
    exact HE.out.before (bthen HBA.out (Below.refl _ wa).drew)
   ·have kb6 : (kind == 6) = false := by simp [k6]
    by_cases k7 : kind = 7
    ·subst k7
     go_enter Tryz.func37, Tryz.ntmps37
     go_wp2_with fail
     try rw [hwa]
     try rw [hB3]
     clear hwa hB3
     have HXD := Lib.hid (HX.out.below (Below.refl _ wa).drew)
     have hS0 := HSB.out wa.drew HXD.out.blk o2 o3
     refine wp_region_heldL (S := fun w' => w'.cell? ⟨e.p, 0, none⟩ = some (.pointer (some ⟨e.x, 0, none⟩)) ∧ w'.cell? ⟨e.p, 1, none⟩ = some (.pointer (some ⟨e.c, 0, none⟩)) ∧ w'.cell? ⟨e.p, 2, none⟩ = some (.pointer (some ⟨e.z, 0, none⟩)) ∧ w'.cell? ⟨e.p, 3, none⟩ = some (.pointer (some ⟨e.y, 0, none⟩)) ∧ w'.cell? ⟨B3, 2, none⟩ = some (.int .i64 a) ∧ w'.cell? ⟨B3, 3, none⟩ = some (.int .i64 b)) (by kernel_rfl) ?_
     refine planned [0, 1, 2, 3, 5, 6, 7, 8] ?_
     iterate 8 (refine planned_take (v := ?_) rfl (by kernel_rfl) (by kernel_rfl) (by kernel_rfl) (fun _ _ _ h => h) ?_ (by assumption) ?_; rotate_left; (focus (first | (refine Or.inr ⟨by rfl, ?_⟩; with_reducible rfl) | (refine Or.inl ⟨by rfl, ?_⟩; (intro w hSw; (try dsimp only at hSw); go_simp); try with_reducible rfl))); try simp only [Act.put, List.setIfInBounds_toArray, List.set_cons_zero, List.set_cons_succ])
     refine planned_end ?_
     refine wpAnyH_oneL (i := 4) rfl (by kernel_rfl) ?_
     intro K hK
     rw [if_pos (by rfl)]
     go_simp
     go_at_call 60
     refine (check_sc HXD.out.prog (by omega) hgg).mono ?_
     rintro x w1 ⟨rfl, F1, hp1, tp1, _⟩
     have HP1 := Lib.hid hp1
     have HT1 := Lib.hid tp1
     have HH := Lib.hid (HXD.out.half hp1 tp1)
     have q2 := cellStay tp1.1 hB3q HOF.out.1 hS0.2.2.2.2.1
     have q3 := cellStay tp1.1 hB3q HOF.out.1 hS0.2.2.2.2.2
     have hS1 := HSB.out w1 HH.out.2.1 q2 q3
     have hB31 : B3 < w1.heap.size := Nat.lt_of_lt_of_le hB3q tp1.1.size
     clear hp1 tp1 q2 q3
     obtain ⟨R, hR⟩ : ∃ R, (e.s.check e.d).2.2 = R := ⟨_, rfl⟩
     rw [hR]
     refine hK _ _ hS1 ?_
     clear hK K
     try simp only [Act.put, List.setIfInBounds_toArray, List.set_cons_zero, List.set_cons_succ]
     refine wpAnyH_oneL (i := 9) rfl (by kernel_rfl) ?_
     intro K hK
     rw [if_pos (by rfl)]
     go_simp
     go_at_call 78
     refine (check_doc HH.out.1 HX.out.prog.good.2.1 HX.out.prog.good.2.2 hgg).mono ?_
     rintro x w2 ⟨rfl, hd2, td2⟩
     have HG := scheck_gn (s := e.s) (d := e.d) hgg
     have HGT := (SS.check_ps e.s e.d).2
     have HE := Lib.hid (HXD.out.moved (x := .returned (.bool true)) (k := k) hBq HP1.out HT1.out hd2 td2 HN.out (by omega) HG.2 (by omega) (by omega) rfl)
     have hb2 := tyStay HH.out.1.ty td2 HH.out.2.1 (by decide)
     have q2 := cellStay td2 hB31 HOF.out.2 hS1.2.2.2.2.1
     have q3 := cellStay td2 hB31 HOF.out.2 hS1.2.2.2.2.2
     have hS2 := HSB.out w2 hb2 q2 q3
     clear hd2 td2 q2 q3 hb2
     rw [hR]
     refine hK _ _ hS2 ?_
     clear hK K
     try simp only [Act.put, List.setIfInBounds_toArray, List.set_cons_zero, List.set_cons_succ]
     refine planned [10, 11] ?_
     iterate 2 (refine planned_take (v := ?_) rfl (by kernel_rfl) (by kernel_rfl) (by kernel_rfl) (fun _ _ _ h => h) ?_ (by assumption) ?_; rotate_left; (focus (first | (refine Or.inr ⟨by rfl, ?_⟩; with_reducible rfl) | (refine Or.inl ⟨by rfl, ?_⟩; (intro w hSw; (try dsimp only at hSw); go_simp); try with_reducible rfl))); try simp only [Act.put, List.setIfInBounds_toArray, List.set_cons_zero, List.set_cons_succ])
     refine planned_end ?_
     refine wpAnyH_done (by kernel_rfl) ?_ _
     go_wp2
     go_ret
     exact HE.out.before (bthen HBA.out (Below.refl _ wa).drew)
    ·have kb7 : (kind == 7) = false := by simp [k7]
     by_cases k8 : kind = 8
     ·subst k8
      go_enter Tryz.func37, Tryz.ntmps37
      go_wp2_with fail
      try rw [hwa]
      try rw [hB3]
      clear hwa hB3
      have HXD := Lib.hid (HX.out.below (Below.refl _ wa).drew)
      have hS0 := HSB.out wa.drew HXD.out.blk o2 o3
      refine wp_region_heldL (S := fun w' => w'.cell? ⟨e.p, 0, none⟩ = some (.pointer (some ⟨e.x, 0, none⟩)) ∧ w'.cell? ⟨e.p, 1, none⟩ = some (.pointer (some ⟨e.c, 0, none⟩)) ∧ w'.cell? ⟨e.p, 2, none⟩ = some (.pointer (some ⟨e.z, 0, none⟩)) ∧ w'.cell? ⟨e.p, 3, none⟩ = some (.pointer (some ⟨e.y, 0, none⟩)) ∧ w'.cell? ⟨B3, 2, none⟩ = some (.int .i64 a) ∧ w'.cell? ⟨B3, 3, none⟩ = some (.int .i64 b)) (by kernel_rfl) ?_
      refine planned [0, 1, 2, 3, 4, 5, 6, 7, 9, 10, 11, 12, 13, 14, 15, 16] ?_
      iterate 16 (refine planned_take (v := ?_) rfl (by kernel_rfl) (by kernel_rfl) (by kernel_rfl) (fun _ _ _ h => h) ?_ (by assumption) ?_; rotate_left; (focus (first | (refine Or.inr ⟨by rfl, ?_⟩; with_reducible rfl) | (refine Or.inl ⟨by rfl, ?_⟩; (intro w hSw; (try dsimp only at hSw); go_simp); try with_reducible rfl))); try simp only [Act.put, List.setIfInBounds_toArray, List.set_cons_zero, List.set_cons_succ])
      refine planned_end ?_
      refine wpAnyH_oneL (i := 8) rfl (by kernel_rfl) ?_
      intro K hK
      rw [if_pos (by rfl)]
      go_simp
      go_at_call 28
      refine (arm_sc HXD.out.prog a b HO.out.a1 HO.out.b1).mono ?_
      rintro x w1 ⟨rfl, F1, hp1, tp1⟩
      have HP1 := Lib.hid hp1
      have HT1 := Lib.hid tp1
      have HH := Lib.hid (HXD.out.half hp1 tp1)
      have q2 := cellStay tp1.1 hB3q HOF.out.1 hS0.2.2.2.2.1
      have q3 := cellStay tp1.1 hB3q HOF.out.1 hS0.2.2.2.2.2
      have hS1 := HSB.out w1 HH.out.2.1 q2 q3
      have hB31 : B3 < w1.heap.size := Nat.lt_of_lt_of_le hB3q tp1.1.size
      clear hp1 tp1 q2 q3
      obtain ⟨R, hR⟩ : ∃ R, (e.d.arm a b).2 = R := ⟨_, rfl⟩
      rw [hR]
      refine hK _ _ hS1 ?_
      clear hK K
      try simp only [Act.put, List.setIfInBounds_toArray, List.set_cons_zero, List.set_cons_succ]
      refine wpAnyH_oneL (i := 17) rfl (by kernel_rfl) ?_
      intro K hK
      rw [if_pos (by rfl)]
      go_simp
      go_at_call 79
      refine (arm_doc HH.out.1 a b HO.out.a1 HO.out.b1).mono ?_
      rintro x w2 ⟨rfl, hd2, td2⟩
      have HE := Lib.hid (HXD.out.moved (x := .returned (.bool true)) (k := k) hBq HP1.out HT1.out hd2 td2 HN.out (Nat.le_add_right _ _) hgg (Nat.le_succ _) (Nat.le_succ _) rfl)
      have hb2 := tyStay HH.out.1.ty td2 HH.out.2.1 (by decide)
      have q2 := cellStay td2 hB31 HOF.out.2 hS1.2.2.2.2.1
      have q3 := cellStay td2 hB31 HOF.out.2 hS1.2.2.2.2.2
      have hS2 := HSB.out w2 hb2 q2 q3
      clear hd2 td2 q2 q3 hb2
      rw [hR]
      refine hK _ _ hS2 ?_
      clear hK K
      try simp only [Act.put, List.setIfInBounds_toArray, List.set_cons_zero, List.set_cons_succ]
      refine planned [18, 19] ?_
      iterate 2 (refine planned_take (v := ?_) rfl (by kernel_rfl) (by kernel_rfl) (by kernel_rfl) (fun _ _ _ h => h) ?_ (by assumption) ?_; rotate_left; (focus (first | (refine Or.inr ⟨by rfl, ?_⟩; with_reducible rfl) | (refine Or.inl ⟨by rfl, ?_⟩; (intro w hSw; (try dsimp only at hSw); go_simp); try with_reducible rfl))); try simp only [Act.put, List.setIfInBounds_toArray, List.set_cons_zero, List.set_cons_succ])
      refine planned_end ?_
      refine wpAnyH_done (by kernel_rfl) ?_ _
      go_wp2
      go_ret
      exact HE.out.before (bthen HBA.out (Below.refl _ wa).drew)
     ·have kb8 : (kind == 8) = false := by simp [k8]
      by_cases k9 : kind = 9
      ·subst k9
       go_enter Tryz.func37, Tryz.ntmps37
       go_wp2_with fail
       try rw [hwa]
       try rw [hB3]
       clear hwa hB3
       have HXD := Lib.hid (HX.out.below (Below.refl _ wa).drew)
       have hS0 := HSB.out wa.drew HXD.out.blk o2 o3
       refine wp_region_heldL (S := fun w' => w'.cell? ⟨e.p, 0, none⟩ = some (.pointer (some ⟨e.x, 0, none⟩)) ∧ w'.cell? ⟨e.p, 1, none⟩ = some (.pointer (some ⟨e.c, 0, none⟩)) ∧ w'.cell? ⟨e.p, 2, none⟩ = some (.pointer (some ⟨e.z, 0, none⟩)) ∧ w'.cell? ⟨e.p, 3, none⟩ = some (.pointer (some ⟨e.y, 0, none⟩)) ∧ w'.cell? ⟨B3, 2, none⟩ = some (.int .i64 a) ∧ w'.cell? ⟨B3, 3, none⟩ = some (.int .i64 b)) (by kernel_rfl) ?_
       refine planned [0, 1, 2, 3, 4, 5, 7, 8, 9, 10, 11, 12] ?_
       iterate 12 (refine planned_take (v := ?_) rfl (by kernel_rfl) (by kernel_rfl) (by kernel_rfl) (fun _ _ _ h => h) ?_ (by assumption) ?_; rotate_left; (focus (first | (refine Or.inr ⟨by rfl, ?_⟩; with_reducible rfl) | (refine Or.inl ⟨by rfl, ?_⟩; (intro w hSw; (try dsimp only at hSw); go_simp); try with_reducible rfl))); try simp only [Act.put, List.setIfInBounds_toArray, List.set_cons_zero, List.set_cons_succ])
       refine planned_end ?_
       refine wpAnyH_oneL (i := 6) rfl (by kernel_rfl) ?_
       intro K hK
       rw [if_pos (by rfl)]
       go_simp
       go_at_call 31
       refine (crash_sc HXD.out.prog a HO.out.a1).mono ?_
       rintro x w1 ⟨rfl, F1, hp1, tp1, _⟩
       have HP1 := Lib.hid hp1
       have HT1 := Lib.hid tp1
       have HH := Lib.hid (HXD.out.half hp1 tp1)
       have q2 := cellStay tp1.1 hB3q HOF.out.1 hS0.2.2.2.2.1
       have q3 := cellStay tp1.1 hB3q HOF.out.1 hS0.2.2.2.2.2
       have hS1 := HSB.out w1 HH.out.2.1 q2 q3
       have hB31 : B3 < w1.heap.size := Nat.lt_of_lt_of_le hB3q tp1.1.size
       clear hp1 tp1 q2 q3
       obtain ⟨R, hR⟩ : ∃ R, (e.d.crash a).2 = R := ⟨_, rfl⟩
       rw [hR]
       refine hK _ _ hS1 ?_
       clear hK K
       try simp only [Act.put, List.setIfInBounds_toArray, List.set_cons_zero, List.set_cons_succ]
       refine wpAnyH_oneL (i := 13) rfl (by kernel_rfl) ?_
       intro K hK
       rw [if_pos (by rfl)]
       go_simp
       go_at_call 80
       refine (crash_doc HH.out.1 a HO.out.a1).mono ?_
       rintro x w2 ⟨rfl, hd2, td2⟩
       have HE0 := Lib.hid ((HXD.out.turn hBq HP1.out HT1.out hd2 td2 rfl rfl HX.out.same).before (Below.refl _ wa).drew)
       have hb2 := tyStay HH.out.1.ty td2 HH.out.2.1 (by decide)
       have q2 := cellStay td2 hB31 HOF.out.2 hS1.2.2.2.2.1
       have q3 := cellStay td2 hB31 HOF.out.2 hS1.2.2.2.2.2
       have hS2 := HSB.out w2 hb2 q2 q3
       clear hd2 td2 q2 q3 hb2
       rw [hR]
       refine hK _ _ hS2 ?_
       clear hK K
       try simp only [Act.put, List.setIfInBounds_toArray, List.set_cons_zero, List.set_cons_succ]
       refine wpAnyH_takeL (i := 14) (v := ?_) rfl (by kernel_rfl) (by kernel_rfl) (by kernel_rfl) (fun _ _ _ h => h) ?_ (by assumption) ?_; rotate_left; focus (first | (refine Or.inr ⟨by rfl, ?_⟩; with_reducible rfl) | (refine Or.inl ⟨by rfl, ?_⟩; (intro w hSw; (try dsimp only at hSw); go_simp); try with_reducible rfl))
       try simp only [Act.put, List.setIfInBounds_toArray, List.set_cons_zero, List.set_cons_succ]
       refine wpAnyH_done (by kernel_rfl) ?_ _
       clear hR HXD HH HP1 HT1 hS0 hS1
       obtain ⟨r0, r1, r2, r3, _, _⟩ := hS2
       obtain ⟨d1, hd1⟩ : ∃ x, (e.d.crash a).1 = x := ⟨_, rfl⟩
       rw [hd1] at HE0
       clear hd1
       have HE1 := Lib.hid HE0.out.1
       have hB2 : B ≤ w2.heap.size := Nat.le_trans hBq HE0.out.2.1.1.size
       go_wp2_with fail
       refine (revive_sc HE1.out.prog).mono ?_
       rintro x w3 ⟨rfl, F2, hp, tp⟩
       have HP2 := Lib.hid hp
       have HT2 := Lib.hid tp
       have HH2 := Lib.hid (HE1.out.half hp tp)
       have s3 : w3.cell? ⟨e.p, 3, none⟩ = some (.pointer (some ⟨e.y, 0, none⟩)) := cell_of HH2.out.2.1 rfl
       clear hp tp r0 r1 r2 r3 p0 p1 p2 p3 o0 o1 o2 o3 o4 o5 hB31
       go_wp2_with fail
       refine (revive_doc HH2.out.1).mono ?_
       rintro x w4 ⟨rfl, hd4, td4⟩
       have HE2 := Lib.hid (HE0.out.trans (HE1.out.turn hB2 HP2.out HT2.out hd4 td4 rfl rfl HX.out.same))
       have HS4 := Lib.hid HE2.out.1
       have hB4 : B ≤ w4.heap.size := Nat.le_trans hBq HE2.out.2.1.1.size
       have s1 : w4.cell? ⟨e.p, 1, none⟩ = some (.pointer (some ⟨e.c, 0, none⟩)) := cell_of HS4.out.blk rfl
       clear hd4 td4 HE0 HE1 HH2 HP2 HT2 s3
       have HOK := Lib.hid HS4.out.prog.good.1
       obtain ⟨D, hD⟩ : ∃ D, d1.revive = D := ⟨_, rfl⟩
       have hop := open2_sc HS4.out.prog
       simp only [hD] at HE2 HS4 HOK hop
       have hnum : NumOk { e with F := F2, d := D } k := ⟨HN.out.m, HN.out.g, HN.out.n, HN.out.turn, HN.out.tx, HN.out.few⟩
       have HNUM := Lib.hid hnum
       have hfew := Lib.hid (fun (u : SS) (hu : (SS.open_ D).1 = some u) => open_few11 HOK.out hu)
       obtain ⟨o, d5, R5, hO⟩ : ∃ o d5 R5, SS.open_ D = (o, d5, R5) := ⟨_, _, _, rfl⟩
       rw [hO] at hop hfew
       have HO5 := Lib.hid hO
       have HOP := Lib.hid hop
       clear hop hD hO hnum
       go_wp2_with fail
       refine HOP.out.mono ?_
       rintro x w5 ⟨v5, rfl, hsome, hnone⟩
       cases o with
       | none =>
        obtain ⟨rfl, F5, hp5, tp5⟩ := hnone rfl
        have HP5 := Lib.hid hp5
        have HT5 := Lib.hid tp5
        have HH5 := Lib.hid (HS4.out.half hp5 tp5)
        have s3 : w5.cell? ⟨e.p, 3, none⟩ = some (.pointer (some ⟨e.y, 0, none⟩)) := cell_of HH5.out.2.1 rfl
        have hod := open_doc HH5.out.1
        rw [show SS.open_ ({ e with F := F2, d := D } : Ent11).d = (none, d5, R5) from HO5.out] at hod
        have HOD := Lib.hid hod
        clear hsome hnone hp5 tp5 HOP hod s1
        go_wp2_with fail
        refine HOD.out.mono ?_
        rintro x w6 ⟨v6, rfl, _, hnone6, td6⟩
        obtain ⟨rfl, hd6⟩ := hnone6 trivial
        have HFIN := Lib.hid (HE2.out.trans (HS4.out.turn hB4 HP5.out HT5.out hd6 td6 rfl rfl HX.out.same))
        clear hnone6 hd6 td6 HOD
        go_wp2
        go_ret
        exact OpEnds.of (HFIN.out.before HBA.out) (NumOk.more ⟨HN.out.m, HN.out.g, HN.out.n, HN.out.turn, HN.out.tx, HN.out.few⟩) rfl
       | some u =>
        obtain ⟨x5, F5, rfl, hp5, tp5⟩ := hsome u rfl
        have HP5 := Lib.hid hp5
        have HT5 := Lib.hid tp5
        have HH5 := Lib.hid (HS4.out.half hp5 tp5)
        have s3 : w5.cell? ⟨e.p, 3, none⟩ = some (.pointer (some ⟨e.y, 0, none⟩)) := cell_of HH5.out.2.1 rfl
        have hod := open_doc HH5.out.1
        rw [show SS.open_ ({ e with F := F2, d := D } : Ent11).d = (some u, d5, R5) from HO5.out] at hod
        have HOD := Lib.hid hod
        have h45 : w4.heap.size ≤ w5.heap.size := tp5.1.size
        clear hsome hnone hp5 tp5 HOP hod s1
        go_wp2_with fail
        refine HOD.out.mono ?_
        rintro x w6 ⟨v6, rfl, hsome6, _, td6⟩
        obtain ⟨z6, lg6, v6, rfl, hz6, hl6, hd6⟩ := hsome6 u rfl
        have HD6 := Lib.hid hd6
        have HTD6 := Lib.hid td6
        have HB6 := Lib.hid (tyStay HH5.out.1.ty td6 HH5.out.2.1 (by decide))
        have hz6' : w4.heap.size ≤ z6 := Nat.le_trans h45 hz6
        have hl6' : w4.heap.size ≤ lg6 := Nat.le_trans h45 hl6
        have SP6 := Lib.hid (HP5.out.aside td6 (fun k a b => HH5.out.1.offTy HP5.out.ty (by decide) k b a))
        have u0 : w6.cell? ⟨e.p, 0, none⟩ = some (.pointer (some ⟨e.x, 0, none⟩)) := cell_of HB6.out rfl
        have u2 : w6.cell? ⟨e.p, 2, none⟩ = some (.pointer (some ⟨e.z, 0, none⟩)) := cell_of HB6.out rfl
        have u4 : w6.cell? ⟨e.p, 4, none⟩ = some e.tsv := cell_of HB6.out rfl
        have u5 : w6.cell? ⟨e.p, 5, none⟩ = some e.usv := cell_of HB6.out rfl
        have cf := free_of HB6.out
        have cf0 := cf 0
        have cf2 := cf 2
        have cf4 := cf 4
        have cf5 := cf 5
        have hset := heap_set (i := 5) (.slice none 0 0) (heap_set (i := 4) (.slice none 0 0) (heap_set (i := 2) (.pointer (some ⟨z6, 0, none⟩)) (heap_set (i := 0) (.pointer (some ⟨x5, 0, none⟩)) HB6.out)))
        have HSET := Lib.hid hset
        clear hsome6 hd6 td6 HOD cf hset hz6 hl6
        go_wp2
        have ht7 : Touch (· = e.p) w6 ((((w6.setCell ⟨e.p, 0, none⟩ (.pointer (some ⟨x5, 0, none⟩))).setCell ⟨e.p, 2, none⟩ (.pointer (some ⟨z6, 0, none⟩))).setCell ⟨e.p, 4, none⟩ (.slice none 0 0)).setCell ⟨e.p, 5, none⟩ (.slice none 0 0)) := ((((Touch.refl (· = e.p) w6).setCell _ (fun _ => rfl)).setCell _ (fun _ => rfl)).setCell _ (fun _ => rfl)).setCell _ (fun _ => rfl)
        have HT7 := Lib.hid ht7
        have HSET2 := HSET.out
        obtain ⟨w7, hw7⟩ : ∃ W, (((w6.setCell ⟨e.p, 0, none⟩ (.pointer (some ⟨x5, 0, none⟩))).setCell ⟨e.p, 2, none⟩ (.pointer (some ⟨z6, 0, none⟩))).setCell ⟨e.p, 4, none⟩ (.slice none 0 0)).setCell ⟨e.p, 5, none⟩ (.slice none 0 0) = W := ⟨_, rfl⟩
        rw [hw7] at HT7 HSET2
        try rw [hw7]
        have hb7 : w7.heap[e.p]? = some (sideBlock x5 e.c z6 e.y (.slice none 0 0) (.slice none 0 0)) := by simpa [sideBlock] using HSET2
        obtain ⟨sp7, sd7⟩ := quad_turn SP6.out HD6.out HT7.out (fun k hk => ⟨.inl (.inl (HS4.out.sub k (.inr (.inr (.inl hk))))), by rw [hk]; exact ⟨_, _, _, HB6.out, by simp⟩⟩)
        have htt := ((HT5.out.1.mono (fun _ _ a => (.inl a : ({ e with F := F2, d := D } : Ent11).own _))).trans HTD6.out (fun _ _ a => .inr (.inl a))).trans HT7.out (fun _ _ a => .inr (.inr (.inl a)))
        obtain ⟨_, e3, hst3, hn3⟩ := HS4.out.opened (x := .returned (.bool true)) hB4 HNUM.out HT5.out.2 sp7 sd7 hz6' hl6' (fun g hg => by
         have h1 := (HD6.out.kept.off g hg).1
         exact ⟨fun a => h1 (.inl a), fun a => h1 (.inr (.inl a)), fun a => h1 (.inr (.inr a))⟩) hb7 htt (hfew.out u rfl) rfl
        go_ret
        exact OpEnds.of ((HE2.out.trans hst3).before HBA.out) hn3 rfl
      ·have kb9 : (kind == 9) = false := by simp [k9]
       go_enter Tryz.func37, Tryz.ntmps37
       go_wp2_with fail
       try rw [hwa]
       try rw [hB3]
       clear hwa hB3
       refine (tx11_any wa UA B k e ⟨on, kind, a, b, KY, VL⟩ HX.out HN.out HO.out hBq hk).mono ?_
       rintro x w1 ⟨rfl, h1⟩
       have H1 := Lib.hid h1
       clear h1
       go_wp2
       go_ret
       exact OpEnds.before ⟨rfl, H1.out⟩ HBA.out
end Go.Proofs.YtpjpknndfhablaaGreat
