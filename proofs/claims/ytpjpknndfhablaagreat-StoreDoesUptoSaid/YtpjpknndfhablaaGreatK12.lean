/- The walk of wal.Open. Whatever is of none of some types lies as it lay: disks and logs behind calls on others. strings.Builder: copyCheck and WriteString at this program (turned from the library's own walk). The program's encode. -/
import Derived.Test.YtpjpknndfhablaaGreatShelf
import Derived.Test.YtpjpknndfhablaaGreatK4
import Derived.Test.YtpjpknndfhablaaGreatK9
import Derived.Test.YtpjpknndfhablaaGreatK11
namespace Go.Proofs.YtpjpknndfhablaaGreat
open Go.RowKit
theorem results_tmp4 {fn : Func} {t u v x : Tmp} (h : fn.results = #[.tmp t, .tmp u, .tmp v, .tmp x]) (tmps : Array Value) (P : Program) (w : World) :
  (results fn tmps).run P w = .ok (.tuple #[tmps.getD t undef, tmps.getD u undef, tmps.getD v undef, tmps.getD x undef]) w := by
 simp [results, h]
/-- Records in a slice of their own, no longer than they are many. -/
def RecsAt (w : World) (base : Nat) (v : Value) (rs : List (List UInt8)) : Prop :=
 ∃ g cur, v = .slice (some ⟨g, 0, none⟩) rs.length rs.length ∧ base ≤ g ∧ w.heap[g]? = some (.cells cur 9 (0, 0)) ∧ rs.length ≤ cur.size ∧ ∀ (j : Nat) (s : List UInt8), rs[j]? = some s → cur[j]? = some (.string ⟨s.toArray⟩)
/-- How Open ends. -/
def OpenEnds (c : Nat) (w : World) (o : Option Wal.Opened) (d d' : DS) (m : Nat) (rb : Option Nat) (r : Int) (e : Ending) (w' : World) : Prop :=
 ∃ v s rv, e = .returned (.tuple #[v, .string s, rv, .int .i64 r]) ∧
  (∀ q, o = some q → s = ⟨q.snap.toArray⟩ ∧ RecsAt w' w.heap.size rv q.rs ∧ ∃ x, v = .pointer (some ⟨x, 0, none⟩) ∧ w.heap.size ≤ x ∧ LogAt w' x c q.l) ∧ (o = none → v = .pointer none ∧ s = ⟨#[]⟩ ∧ rv = .slice none 0 0) ∧
  ∃ rb', DiskAt w' c d' m rb' ∧ Newer w rb rb' ∧ Touch (own2 c rb) w w' ∧ (d'.dead = true → d.dead = false → rb' = none)
theorem OpenEnds.refused {c : Nat} {w w' : World} {d : DS} {m : Nat} {rb : Option Nat} {r : Int} (h : DiskAt w c d m rb) (hb : Below w.heap.size w w') : OpenEnds c w none d d m rb r (.returned (.tuple #[.pointer none, .string ⟨#[]⟩, .slice none 0 0, .int .i64 r])) w' :=
 ⟨_, _, _, rfl, (fun _ h => by cases h), fun _ => ⟨rfl, rfl, rfl⟩, rb, h.below hb, Newer.refl _ _, Touch.of_below hb, fun h1 h2 => by rw [h1] at h2; cases h2⟩
theorem open_boxes (w : World) (q : Nat) {W : World} (h : W = ((w.alloc (.cells #[.slice (some ⟨q, 0, none⟩) 2 2] 22)).alloc (.cells #[.int .i64 0] 3)).alloc (.cells #[.int .i64 1] 3)) :
  W.heap[w.heap.size]? = some (.cells #[.slice (some ⟨q, 0, none⟩) 2 2] 22 (0, 0)) ∧ W.heap[w.heap.size + 1]? = some (.cells #[.int .i64 0] 3 (0, 0)) ∧ W.heap[w.heap.size + 1 + 1]? = some (.cells #[.int .i64 1] 3 (0, 0)) ∧ Below w.heap.size w W := by
 subst h
 have n0 := heap_new w (.cells #[.slice (some ⟨q, 0, none⟩) 2 2] 22)
 have b0 := balloc w (.cells #[.slice (some ⟨q, 0, none⟩) 2 2] 22)
 have z0 : (w.alloc (.cells #[.slice (some ⟨q, 0, none⟩) 2 2] 22)).heap.size = w.heap.size + 1 := by simp
 generalize w.alloc (.cells #[.slice (some ⟨q, 0, none⟩) 2 2] 22) = wa at n0 b0 z0 ⊢
 have n1 := heap_new wa (.cells #[.int .i64 0] 3)
 have b1 := balloc wa (.cells #[.int .i64 0] 3)
 have z1 : (wa.alloc (.cells #[.int .i64 0] 3)).heap.size = w.heap.size + 1 + 1 := by simp [z0]
 generalize wa.alloc (.cells #[.int .i64 0] 3) = wb at n1 b1 z1 ⊢
 have n2 := heap_new wb (.cells #[.int .i64 1] 3)
 have b2 := balloc wb (.cells #[.int .i64 1] 3)
 rw [z0] at n1
 rw [z1] at n2
 exact ⟨stays n0 (bthen b1 b2), stays n1 b2, n2, bthen b0 (bthen b1 b2)⟩
/-- What stands in the loop of Open: where it reads, what it has read. -/
structure ReadAt (W9 wr : World) (c : Nat) (G : List UInt8) (p0 A : Nat) (f : Bool) (v : Value) (p : Nat) (pre : List (List UInt8)) : Prop where
 old : Below W9.heap.size W9 wr
 pos : wr.heap[W9.heap.size]? = some (.cells #[.int .i64 p] 3 (0, 0))
 log : LogAt wr (W9.heap.size + 1) c { f := f, g := A, n := 0, dead := false }
 box : wr.heap[W9.heap.size + 1 + 1]? = some (.cells #[.pointer (some ⟨W9.heap.size + 1, 0, none⟩)] 98 (0, 0))
 row : wr.ownsRow (W9.heap.size + 3) 9 1 v pre.length (strs pre)
 some_ : ∃ g n cap, v = .slice (some ⟨g, 0, none⟩) n cap
 on : Wal.Onward G p0 p pre
 many : pre.length * 8 ≤ p
 le : p ≤ G.length
def boxOf (w : World) (b : Nat) : Nat := match w.cell? ⟨b, 0, none⟩ with | some (.int _ p) => p.toNat | _ => 0
theorem readAt_start (W9 : World) (c : Nat) (G : List UInt8) (p0 A : Nat) (f : Bool) (hle : p0 ≤ G.length) {WL : World} (h : WL = (((W9.alloc (.cells #[.int .i64 p0] 3)).alloc (.cells #[.pointer (some ⟨c, 0, none⟩), .int .i64 (DS.fi f), .int .u64 A, .int .i64 0, .bool false] 148)).alloc (.cells #[.pointer (some ⟨W9.heap.size + 1, 0, none⟩)] 98)).alloc (.cells #[] 9)) :
  ReadAt W9 WL c G p0 A f (.slice (some ⟨W9.heap.size + 1 + 1 + 1, 0, none⟩) 0 0) p0 [] := by
 subst h
 have n0 := heap_new W9 (.cells #[.int .i64 p0] 3)
 have b0 := balloc W9 (.cells #[.int .i64 p0] 3)
 have z0 : (W9.alloc (.cells #[.int .i64 p0] 3)).heap.size = W9.heap.size + 1 := by simp
 generalize W9.alloc (.cells #[.int .i64 p0] 3) = wa at n0 b0 z0 ⊢
 have n1 := heap_new wa (.cells #[.pointer (some ⟨c, 0, none⟩), .int .i64 (DS.fi f), .int .u64 A, .int .i64 0, .bool false] 148)
 have b1 := balloc wa (.cells #[.pointer (some ⟨c, 0, none⟩), .int .i64 (DS.fi f), .int .u64 A, .int .i64 0, .bool false] 148)
 have z1 : (wa.alloc (.cells #[.pointer (some ⟨c, 0, none⟩), .int .i64 (DS.fi f), .int .u64 A, .int .i64 0, .bool false] 148)).heap.size = W9.heap.size + 1 + 1 := by simp [z0]
 generalize wa.alloc (.cells #[.pointer (some ⟨c, 0, none⟩), .int .i64 (DS.fi f), .int .u64 A, .int .i64 0, .bool false] 148) = wb at n1 b1 z1 ⊢
 have n2 := heap_new wb (.cells #[.pointer (some ⟨W9.heap.size + 1, 0, none⟩)] 98)
 have b2 := balloc wb (.cells #[.pointer (some ⟨W9.heap.size + 1, 0, none⟩)] 98)
 have z2 : (wb.alloc (.cells #[.pointer (some ⟨W9.heap.size + 1, 0, none⟩)] 98)).heap.size = W9.heap.size + 1 + 1 + 1 := by simp [z1]
 generalize wb.alloc (.cells #[.pointer (some ⟨W9.heap.size + 1, 0, none⟩)] 98) = wc at n2 b2 z2 ⊢
 have n3 := heap_new wc (.cells #[] 9)
 have b3 := balloc wc (.cells #[] 9)
 rw [z0] at n1
 rw [z1] at n2
 rw [z2] at n3
 exact ⟨bthen b0 (bthen b1 (bthen b2 b3)), stays n0 (bthen b1 (bthen b2 b3)), stays n1 (bthen b2 b3), stays n2 b3, ⟨rfl, .inr ⟨W9.heap.size + 1 + 1 + 1, 0, #[], rfl, by omega, n3, Nat.le_refl _, by decide, rfl, rfl⟩⟩, ⟨_, _, _, rfl⟩, Wal.Onward.start G p0, by simp, hle⟩
theorem strs_snoc (pre : List (List UInt8)) (s : List UInt8) : strs (pre ++ [s]) = strs pre ++ [.string ⟨s.toArray⟩] := by simp [strs]
theorem read_step {W9 wr w' w1 : World} {c : Nat} {G : List UInt8} {p0 A : Nat} {f : Bool} {v v' : Value} {p : Nat} {pre : List (List UInt8)} (h : ReadAt W9 wr c G p0 A f v p pre) (hb : Below wr.heap.size wr w') {s : List UInt8} (hs : Wal.whole G p 65536 = (s, true))
  (ho : w1.ownsRow (W9.heap.size + 3) 9 1 v' (pre.length + 1) (strs pre ++ [.string ⟨s.toArray⟩])) (hg : (w'.alloc (.cells #[.string ⟨s.toArray⟩] 9)).grownBy w1 v.ownBlock) {n : Int} (hn : n = ((p + 8 + s.length : Nat) : Int)) :
  ReadAt W9 (w1.setCell ⟨W9.heap.size, 0, none⟩ (.int .i64 n)) c G p0 A f v' (p + 8 + s.length) (pre ++ [s]) := by
 subst hn
 have hba := bthen hb (balloc w' (.cells #[.string ⟨s.toArray⟩] 9))
 have hlt : ∀ k, v.ownBlock = some k → W9.heap.size + 3 ≤ k ∧ k < wr.heap.size := fun k hk => by
  rcases h.row.2 with ⟨hv, _⟩ | ⟨g, cap, cur, hv, hb, hg', _⟩
  ·rw [hv] at hk; cases hk
  ·rw [hv] at hk
   have e1 : g = k := Option.some.inj hk
   subst e1
   exact ⟨hb, heap_lt hg'⟩
 have ht : Touch (fun k => v.ownBlock = some k) wr w1 := Touch.trans (Touch.of_below hba) (touch_of_grown hg) (fun _ _ h => h)
 have far : ∀ {b : Nat} {o : Obj}, wr.heap[b]? = some o → b < W9.heap.size + 3 → b ≠ W9.heap.size → (w1.setCell ⟨W9.heap.size, 0, none⟩ (.int .i64 ((p + 8 + s.length : Nat) : Int))).heap[b]? = some o := fun {b o} hbo hlt1 hne =>
  (heap_set_ne _ hne).trans ((ht.block b (heap_lt hbo) (fun e => by have := (hlt b e).1; omega)).trans hbo)
 have hw := Wal.whole_le (file := G) (p := p) (most := 65536) (by rw [hs])
 rw [hs] at hw
 refine ⟨?_, ?_, far h.log (by omega) (by omega), far h.box (by omega) (by omega), ?_, ?_, h.on.step hs, ?_, hw.1⟩
 ·exact (h.old.trans (ht.below h.old.size (fun k hk e => by have := (hlt k e).1; omega))).setCell (p := ⟨W9.heap.size, 0, none⟩) (Nat.le_refl _) _
 ·exact heap_set (i := 0) _ ((ht.block _ (heap_lt h.pos) (fun e => by have := (hlt _ e).1; omega)).trans h.pos)
 ·rw [strs_snoc, List.length_append]
  have : ∀ k, v'.ownBlock = some k → k ≠ W9.heap.size := fun k hk => by
   rcases ho.2 with ⟨hv, _⟩ | ⟨g, cap, cur, hv, hb, hg', _⟩
   ·rw [hv] at hk; cases hk
   ·rw [hv] at hk
    have e1 : g = k := Option.some.inj hk
    subst e1
    omega
  exact own_touch ho ((Touch.refl (· = W9.heap.size) w1).setCell _ (fun _ => rfl)) (fun k hk e => this k hk e)
 ·rcases ho.2 with ⟨_, h0⟩ | ⟨g, cap, cur, hv, _⟩
  ·omega
  ·exact ⟨g, _, cap, hv⟩
 ·have := h.many
  simp only [List.length_append, List.length_cons, List.length_nil]
  omega
theorem box_of {w : World} {b p : Nat} (h : w.heap[b]? = some (.cells #[.int .i64 p] 3 (0, 0))) : boxOf w b = p := by
 unfold boxOf
 rw [(cells1 h).1]
 rfl
theorem pos_grown {W9 wr w' w1 : World} {c : Nat} {G : List UInt8} {p0 A : Nat} {f : Bool} {v : Value} {p : Nat} {pre : List (List UInt8)} (h : ReadAt W9 wr c G p0 A f v p pre) (hb : Below wr.heap.size wr w') {o : Obj} (hg : (w'.alloc o).grownBy w1 v.ownBlock) :
  w1.heap[W9.heap.size]? = some (.cells #[.int .i64 p] 3 (0, 0)) := by
 have hlt : ∀ k, v.ownBlock = some k → W9.heap.size + 3 ≤ k := fun k hk => by
  rcases h.row.2 with ⟨hv, _⟩ | ⟨g, cap, cur, hv, hb, hg', _⟩
  ·rw [hv] at hk; cases hk
  ·rw [hv] at hk
   have e1 : g = k := Option.some.inj hk
   subst e1
   exact hb
 have ht : Touch (fun k => v.ownBlock = some k) wr w1 := Touch.trans (Touch.of_below (bthen hb (balloc w' o))) (touch_of_grown hg) (fun _ _ h => h)
 exact (ht.block _ (heap_lt h.pos) (fun e => by have := hlt _ e; omega)).trans h.pos
theorem ReadAt.slice {W9 wr : World} {c : Nat} {G : List UInt8} {p0 A : Nat} {f : Bool} {v : Value} {p : Nat} {pre : List (List UInt8)} (h : ReadAt W9 wr c G p0 A f v p pre) : ∃ g cap, v = .slice (some ⟨g, 0, none⟩) pre.length cap := by
 rcases h.row.2 with ⟨hv, h0⟩ | ⟨g, cap, cur, hv, _⟩
 ·obtain ⟨g, n, cap, h'⟩ := h.some_
  rw [hv] at h'
  cases h'
 ·exact ⟨g, cap, hv⟩
theorem read_end {W9 wr w' WA : World} {c : Nat} {G : List UInt8} {p0 A : Nat} {f : Bool} {v : Value} {p : Nat} {pre : List (List UInt8)} (h : ReadAt W9 wr c G p0 A f v p pre) (hb : Below wr.heap.size wr w') (hWA : w'.setCell ⟨W9.heap.size + 1, 3, none⟩ (.int .i64 (pre.length : Nat)) = WA) :
  Below W9.heap.size W9 WA ∧ WA.heap[W9.heap.size]? = some (.cells #[.int .i64 p] 3 (0, 0)) ∧ LogAt WA (W9.heap.size + 1) c { f := f, g := A, n := pre.length, dead := false } ∧ WA.heap[W9.heap.size + 1 + 1]? = some (.cells #[.pointer (some ⟨W9.heap.size + 1, 0, none⟩)] 98 (0, 0)) ∧
   WA.ownsRow (W9.heap.size + 3) 9 1 v pre.length (strs pre) := by
 subst hWA
 refine ⟨(bthen h.old hb).setCell (p := ⟨W9.heap.size + 1, 3, none⟩) (by show W9.heap.size ≤ W9.heap.size + 1; omega) _, (heap_set_ne _ (by omega)).trans (stays h.pos hb), (h.log.below hb).setN pre.length, (heap_set_ne _ (by omega)).trans (stays h.box hb), ?_⟩
 refine own_touch (own_touch h.row (Touch.of_below (S := fun _ => False) hb) (fun _ _ h => h)) ((Touch.refl (· = W9.heap.size + 1) w').setCell _ (fun _ => rfl)) (fun k hk e => ?_)
 rcases h.row.2 with ⟨hv, _⟩ | ⟨g, cap, cur, hv, hb', _⟩
 ·rw [hv] at hk; cases hk
 ·rw [hv] at hk
  have e1 : g = k := Option.some.inj hk
  subst e1
  omega
theorem recs_kept {WA w1 : World} {c b0 base gg cap x : Nat} {d : DS} {m : Nat} {rb : Option Nat} {pre : List (List UInt8)} (h : WA.ownsRow b0 9 1 (.slice (some ⟨gg, 0, none⟩) pre.length cap) pre.length (strs pre)) (hd : DiskAt WA c d m rb) (hx : x < b0) (ht : Touch (own3 c rb x) WA w1) (hbase : base ≤ b0) :
  RecsAt w1 base (.slice (some ⟨gg, 0, none⟩) pre.length pre.length) pre ∧ pre.length ≤ cap := by
 rcases h.2 with ⟨h0, _⟩ | ⟨g, cap', cur, hv, hb, hg, h1, h2, h3, h4⟩
 ·cases h0
 ·cases hv
  refine ⟨⟨gg, cur, rfl, by omega, (ht.block gg (heap_lt hg) ?_).trans hg, by omega, ?_⟩, h1⟩
  ·rintro (h | h)
   ·exact not_own hg (by decide) (by decide) hd h
   ·omega
  ·intro j s hs
   have h5 : (strs pre)[j]? = some (.string ⟨s.toArray⟩) := by simp [strs, hs]
   rw [← h4, List.getElem?_take] at h5
   split at h5
   ·simpa using h5
   ·cases h5
theorem RecsAt.below {w w' : World} {base : Nat} {v : Value} {rs : List (List UInt8)} (h : RecsAt w base v rs) (hb : Below w.heap.size w w') : RecsAt w' base v rs := by
 obtain ⟨g, cur, hv, hb', hg, rest⟩ := h
 exact ⟨g, cur, hv, hb', stays hg hb, rest⟩
theorem open_worked {x c : Nat} {l : Wal.LS} {d E : DS} {m : Nat} {rb : Option Nat} {w WA w1 w2 : World} (h : Worked x c l d E m rb WA w1) (hb : Below w.heap.size w WA) (hx : w.heap.size ≤ x) (hq : Below w1.heap.size w1 w2) :
  ∃ rb', DiskAt w2 c E m rb' ∧ Newer w rb rb' ∧ Touch (own2 c rb) w w2 ∧ (E.dead = true → d.dead = false → rb' = none) := by
 obtain ⟨rb', h1, h2, h3⟩ := h.disk
 exact ⟨rb', h1.below hq, h2.later hb.size, Touch.trans (Touch.trans (Touch.of_below hb) h.touch (fun k hk h => h.resolve_right (by omega))) (Touch.of_below hq) (fun _ _ h => h), h3⟩
theorem worked_other {WA w1 : World} {c x k : Nat} {d : DS} {m : Nat} {rb : Option Nat} (ht : Touch (own3 c rb x) WA w1) (hd : DiskAt WA c d m rb) {cur : Array Value} {T : TypeId} {fr : Nat × Nat} (hk : WA.heap[k]? = some (.cells cur T fr)) (h1 : T ≠ 89) (h2 : T ≠ 106) (hx : k ≠ x) : w1.heap[k]? = some (.cells cur T fr) := by
 refine (ht.block k (heap_lt hk) ?_).trans hk
 rintro (h | h)
 ·exact not_own hk h1 h2 hd h
 ·exact hx h
theorem counts_le {G s : List UInt8} {A p : Nat} (h : Wal.counts G = (A, s, p)) (h0 : A ≠ 0) : p ≤ G.length ∧ A ≤ 4611686018427387904 ∧ s.length ≤ 524288 := by
 unfold Wal.counts at h
 split at h
 ·cases h; exact absurd rfl h0
 ·split at h
  ·cases h; exact absurd rfl h0
  ·rename_i h1 h2
   have hok : (Wal.whole G 12 524288).2 = true := by
    cases hb : (Wal.whole G 12 524288).2
    ·exact absurd (.inl hb) h2
    ·rfl
   have hw := Wal.whole_le hok
   simp only [Prod.mk.injEq] at h
   obtain ⟨rfl, rfl, rfl⟩ := h
   refine ⟨by omega, ?_, hw.2⟩
   have := fun h3 => h2 (.inr h3)
   omega
theorem boxes_swap {w W7 W8 : World} {N q c0 n : Nat} {cur : Array Value} (h : W8 = (W7.setCell ⟨N + 1, 0, none⟩ (.int .i64 1)).setCell ⟨N + 1 + 1, 0, none⟩ (.int .i64 0))
  (m0 : W7.heap[N]? = some (.cells #[.slice (some ⟨q, 0, none⟩) 2 2] 22 (0, 0))) (m1 : W7.heap[N + 1]? = some (.cells #[.int .i64 0] 3 (0, 0))) (m2 : W7.heap[N + 1 + 1]? = some (.cells #[.int .i64 1] 3 (0, 0)))
  (hq : W7.heap[q]? = some (.cells cur 9 (0, 0))) (hn : W7.heap[n]? = some (.cells #[.pointer (some ⟨c0, 0, none⟩)] 23 (0, 0))) (h1 : ¬ q = N + 1) (h2 : ¬ q = N + 1 + 1) (hnN : n < N) (hb : Below w.heap.size w W7) (hw : w.heap.size ≤ N) :
  W8.heap[N]? = some (.cells #[.slice (some ⟨q, 0, none⟩) 2 2] 22 (0, 0)) ∧ W8.heap[N + 1]? = some (.cells #[.int .i64 1] 3 (0, 0)) ∧ W8.heap[N + 1 + 1]? = some (.cells #[.int .i64 0] 3 (0, 0)) ∧
   W8.heap[q]? = some (.cells cur 9 (0, 0)) ∧ W8.heap[n]? = some (.cells #[.pointer (some ⟨c0, 0, none⟩)] 23 (0, 0)) ∧ Below w.heap.size w W8 := by
 subst h
 refine ⟨(heap_set_ne _ (by omega)).trans ((heap_set_ne _ (by omega)).trans m0), (heap_set_ne _ (by omega)).trans ?_, ?_, (heap_set_ne _ h2).trans ((heap_set_ne _ h1).trans hq), (heap_set_ne _ (by omega)).trans ((heap_set_ne _ (by omega)).trans hn), (hb.setCell (p := ⟨N + 1, 0, none⟩) (by show w.heap.size ≤ N + 1; omega) _).setCell (p := ⟨N + 1 + 1, 0, none⟩) (by show w.heap.size ≤ N + 1 + 1; omega) _⟩
 ·exact heap_set (i := 0) (.int .i64 1) m1
 ·exact heap_set (i := 0) (.int .i64 0) ((heap_set_ne _ (by omega)).trans m2)
set_option maxHeartbeats 4000000 in
set_option maxRecDepth 100000 in
theorem wopen_any (c : Nat) (w : World) (d : DS) (m : Nat) (rb : Option Nat) (h : DiskAt w c d m rb) :
  Calls Tryz.prog 47 #[.pointer (some ⟨c, 0, none⟩)] w (OpenEnds c w (Wal.open_ d).1 d (Wal.open_ d).2.1 m rb (Wal.open_ d).2.2) := by
 have hmf : ∀ (fn : Fn) (first cap : Array Value) (w : World), (Instr.makeFunc fn first cap).run Tryz.prog w = .ok (.func fn first cap) w := fun _ _ _ _ => rfl
 have HD := Lib.hid h
 have hok := h.1
 clear h
 cases hdd : d.dead with
 | true =>
  have HX : Hid (Wal.open_ d = (none, d, 2)) := Lib.hid (by unfold Wal.open_; rw [if_pos hdd])
  go_enter Tryz.func47, Tryz.ntmps47
  go_wp2_with fail
  have b0 := balloc w (.cells #[.pointer (some ⟨c, 0, none⟩)] 23)
  generalize w.alloc (.cells #[.pointer (some ⟨c, 0, none⟩)] 23) = w0 at b0 ⊢
  refine (dead_any c w0 d m rb (HD.out.below b0)).mono ?_
  rw [hdd]
  rintro e w1 ⟨rfl, rfl⟩
  clear hdd
  have B0 := Lib.hid b0
  clear b0
  go_wp2_with fail
  refine bodyPost_ret (results_tmp4 rfl _ _ _) rfl ?_
  rw [HX.out]
  exact OpenEnds.refused HD.out B0.out
 | false =>
  have HDD := Lib.hid hdd
  clear hdd
  obtain ⟨F0, hF0⟩ : ∃ F, d.file false = F := ⟨_, rfl⟩
  obtain ⟨F1, hF1⟩ : ∃ F, d.file true = F := ⟨_, rfl⟩
  have hl0 : F0.length ≤ 1048576 := by rw [← hF0]; exact hok.base_len' false
  have hl1 : F1.length ≤ 1048576 := by rw [← hF1]; exact hok.base_len' true
  have HF0 := Lib.hid hF0
  have HF1 := Lib.hid hF1
  clear hF0 hF1
  go_enter Tryz.func47, Tryz.ntmps47
  go_wp2_with fail
  have n0 := heap_new w (.cells #[.pointer (some ⟨c, 0, none⟩)] 23)
  have b0 := balloc w (.cells #[.pointer (some ⟨c, 0, none⟩)] 23)
  generalize w.alloc (.cells #[.pointer (some ⟨c, 0, none⟩)] 23) = w0 at n0 b0 ⊢
  refine (dead_any c w0 d m rb (HD.out.below b0)).mono ?_
  rw [HDD.out]
  rintro e w1 ⟨rfl, rfl⟩
  have N0 := Lib.hid n0
  have B0 := Lib.hid b0
  obtain ⟨e0, _, _⟩ := cells1 n0
  clear n0 b0
  go_wp2_with fail
  refine (files_any c w0 d m rb (HD.out.below B0.out)).mono ?_
  rw [HF0.out, HF1.out]
  rintro e w2 ⟨q, rfl, hq, htwo, b2⟩
  have B2 := Lib.hid (bthen B0.out b2)
  have N2 := Lib.hid (stays N0.out b2)
  have N2h := Lib.hid (stays N0.out b2)
  have TW2 := Lib.hid htwo
  obtain ⟨cur, hcur, hc0, hc1⟩ := htwo
  have HQ := Lib.hid hcur
  have hqlt := heap_lt hcur
  have hqlt1 : q < w2.heap.size + 1 := by omega
  have hqlt2 : q < w2.heap.size + 1 + 1 := by omega
  have q0 := cell_of hcur hc0
  have q1 := cell_of hcur hc1
  clear b2 hcur e0
  obtain ⟨A, sa, pa, hA⟩ : ∃ A sa pa, Wal.counts F0 = (A, sa, pa) := ⟨_, _, _, rfl⟩
  obtain ⟨B, sb, pb, hB⟩ : ∃ B sb pb, Wal.counts F1 = (B, sb, pb) := ⟨_, _, _, rfl⟩
  have HA := Lib.hid hA
  have HB := Lib.hid hB
  clear hA hB
  go_wp2_with fail
  obtain ⟨W5, hW5⟩ : ∃ W5, ((w2.alloc (.cells #[.slice (some ⟨q, 0, none⟩) 2 2] 22)).alloc (.cells #[.int .i64 0] 3)).alloc (.cells #[.int .i64 1] 3) = W5 := ⟨_, rfl⟩
  obtain ⟨m0, m1, m2, b5⟩ := open_boxes w2 q hW5.symm
  rw [hW5]
  have hne1 : ¬ q = w2.heap.size + 1 := by omega
  have hne2 : ¬ q = w2.heap.size + 1 + 1 := by omega
  clear hW5 q0 q1 hqlt hqlt1 hqlt2
  refine (counted_any F0 W5 (by omega)).mono ?_
  rw [HA.out]
  rintro e W6 ⟨rfl, b6⟩
  have b56 := bthen b5 b6
  have M0 := Lib.hid (stays m0 b6)
  have M1 := Lib.hid (stays m1 b6)
  have M2 := Lib.hid (stays m2 b6)
  have B6 := Lib.hid (bthen B2.out b56)
  have N6 := Lib.hid (stays N2.out b56)
  have Q6 := Lib.hid (stays HQ.out b56)
  clear m0 m1 m2 b5 b6 b56 N2 HQ
  obtain ⟨s0, _, _⟩ := cells1 M0.out
  have q1 := cell_of Q6.out hc1
  go_wp2_with fail
  clear s0 q1
  refine (counted_any F1 W6 (by omega)).mono ?_
  rw [HB.out]
  rintro e W7 ⟨rfl, b7⟩
  have M0' := Lib.hid (stays M0.out b7)
  have M1' := Lib.hid (stays M1.out b7)
  have M2' := Lib.hid (stays M2.out b7)
  have B7 := Lib.hid (bthen B6.out b7)
  have N7 := Lib.hid (stays N6.out b7)
  have Q7 := Lib.hid (stays Q6.out b7)
  clear b7 M0 M1 M2 B6 N6 Q6
  obtain ⟨t1, t1f, _⟩ := cells1 M1'.out
  obtain ⟨t2, t2f, _⟩ := cells1 M2'.out
  have t1z := t1f 0
  have t2z := t2f 0
  obtain ⟨s0, _, _⟩ := cells1 M0'.out
  have q0 := cell_of Q7.out hc0
  have q1 := cell_of Q7.out hc1
  by_cases hab : A < B
  ·go_wp2_with fail
   obtain ⟨W8, hW8⟩ : ∃ W8, (W7.setCell ⟨w2.heap.size + 1, 0, none⟩ (.int .i64 1)).setCell ⟨w2.heap.size + 1 + 1, 0, none⟩ (.int .i64 0) = W8 := ⟨_, rfl⟩
   obtain ⟨k0, k1, k2, kq, kn, kb⟩ := boxes_swap hW8.symm M0'.out M1'.out M2'.out Q7.out N7.out hne1 hne2 (by have := B2.out.size; have := heap_lt N2h.out; omega) B7.out B2.out.size
   rw [hW8]
   have M0 := Lib.hid k0
   have M1 := Lib.hid k1
   have M2 := Lib.hid k2
   have Q8 := Lib.hid kq
   have N8 := Lib.hid kn
   have B8 := Lib.hid kb
   clear hW8 k0 k1 k2 kq kn kb t1 t1f t1z t2 t2f t2z s0 q0 q1 M0' M1' M2' Q7 N7 B7
   have hcur0 := hc0
   have hcur1 := hc1
   have HBEST : Hid (Wal.best d = true) := Lib.hid (by unfold Wal.best; rw [HF0.out, HF1.out, HA.out, HB.out]; exact decide_eq_true (by simpa using hab))
   have HSH : Hid (Wal.shown d = (B, sb, pb)) := Lib.hid (by unfold Wal.shown; rw [HBEST.out]; first | rw [HF0.out, HA.out] | rw [HF1.out, HB.out])
   have HSR : Hid (Wal.shownRecs d = Wal.recs F1 pb) := Lib.hid (by unfold Wal.shownRecs; rw [HBEST.out, HSH.out]; first | rw [HF0.out] | rw [HF1.out])
   have HC0 := Lib.hid hc0
   have HC1 := Lib.hid hc1
   clear HA hc0 hc1
   have hcI := hcur1
   clear hcur0 hcur1
   refine (counted_any F1 W8 (by omega)).mono ?_
   rw [HB.out]
   rintro e W9 ⟨rfl, b9⟩
   have P0 := Lib.hid (stays M0.out b9)
   have P1 := Lib.hid (stays M1.out b9)
   have P2 := Lib.hid (stays M2.out b9)
   have PQ := Lib.hid (stays Q8.out b9)
   have PN := Lib.hid (stays N8.out b9)
   have PB := Lib.hid (bthen B8.out b9)
   clear b9 M0 M1 M2 Q8 N8 B8
   by_cases hA0 : B = 0
   ·exact absurd hA0 (by omega)
   ·have hA0' : ((B : Int) == 0) = false := by simp; omega
    have HLE := Lib.hid (counts_le HB.out hA0)
    obtain ⟨u0, _, _⟩ := cells1 PN.out
    obtain ⟨u1, _, _⟩ := cells1 P1.out
    go_wp2_with fail
    obtain ⟨WL, hWL⟩ : ∃ WL, (((W9.alloc (.cells #[.int .i64 pb] 3)).alloc (.cells #[.pointer (some ⟨c, 0, none⟩), .int .i64 1, .int .u64 B, .int .i64 0, .bool false] 148)).alloc (.cells #[.pointer (some ⟨W9.heap.size + 1, 0, none⟩)] 98)).alloc (.cells #[] 9) = WL := ⟨_, rfl⟩
    rw [hWL]
    have HST := Lib.hid (readAt_start W9 c F1 pb B true HLE.out.1 hWL.symm)
    clear hWL u0 u1 hA0'
    go_loopw [19] (fun v wr => ∃ p pre, ReadAt W9 wr c F1 pb B true v p pre) (fun _ wr => F1.length + 1 - boxOf wr W9.heap.size)
    case atStart =>
     exact ⟨_, _, HST.out⟩
    case round =>
     obtain ⟨p', pre, hr⟩ := hrel
     obtain ⟨gg, cap, hv⟩ := hr.slice
     subst hv
     have HR := Lib.hid hr
     have hple := hr.le
     have hmany := hr.many
     have hb3 := heap_lt hr.box
     obtain ⟨s, ok, hW⟩ : ∃ s ok, Wal.whole F1 p' 65536 = (s, ok) := ⟨_, _, rfl⟩
     have HW := Lib.hid hW
     obtain ⟨i0, _, _⟩ := cells1 (stays P0.out hr.old)
     obtain ⟨i1, _, _⟩ := cells1 (stays P1.out hr.old)
     have i2 := cell_of (stays PQ.out hr.old) hcI
     obtain ⟨i3, _, _⟩ := cells1 hr.pos
     have HKB : Hid (∀ w' : World, Below wr.heap.size wr w' → (Below wr.heap.size wr w' ∧ w'.cell? ⟨w2.heap.size, 0, none⟩ = some (.slice (some ⟨q, 0, none⟩) 2 2) ∧ w'.cell? ⟨w2.heap.size + 1, 0, none⟩ = some (.int .i64 1) ∧ w'.cell? ⟨q, 1, none⟩ = some (.string ⟨F1.toArray⟩) ∧ w'.cell? ⟨W9.heap.size, 0, none⟩ = some (.int .i64 p'))) :=
      fun w' hb => ⟨hb, cell_later hb i0, cell_later hb i1, cell_later hb i2, cell_later hb i3⟩
     clear hr hW
     go_wp2_with fail
     go_region_held3 (fun w' => Below wr.heap.size wr w' ∧ w'.cell? ⟨w2.heap.size, 0, none⟩ = some (.slice (some ⟨q, 0, none⟩) 2 2) ∧ w'.cell? ⟨w2.heap.size + 1, 0, none⟩ = some (.int .i64 1) ∧ w'.cell? ⟨q, 1, none⟩ = some (.string ⟨F1.toArray⟩) ∧ w'.cell? ⟨W9.heap.size, 0, none⟩ = some (.int .i64 p'))
      (first | exact HKB.out _ (Below.refl _ _).drew | exact HKB.out _ (bthen (by assumption : Below wr.heap.size wr _ ∧ _).1 (by assumption)))
      (first | (go_at_call 95; refine (whole_any F1 p' 65536 _ (by omega) (by omega) (by decide)).mono ?_; rw [HW.out]; rintro e w' ⟨rfl, hb⟩))
     rename_i hheld
     have HB1 := Lib.hid hheld.1
     clear hheld hb i0 i1 i2 i3 HKB
     cases ok with
     | true =>
      have hsl : p' + 8 + s.length ≤ F1.length := by have := (Wal.whole_le (file := F1) (p := p') (most := 65536) (by rw [HW.out])).1; rw [HW.out] at this; exact this
      have hs16 : s.length ≤ 1048576 := by omega
      go_wp2_with (first | (at_builtin; go_must (refine wpList_append_own2 _ rfl (.tmp 74) (.tmp 76) 22 rfl (W9.heap.size + 3) 9 1 16 _ Tryz.stringInfo Tryz.underlying22 rfl (by decide) _ pre.length (strs pre) rfl (own_touch HR.out.row (Touch.of_below (S := fun _ => False) (bthen HB1.out (balloc w' _))) (fun _ _ h => h)) ⟨w'.heap.size, 0, none⟩ 1 1 [.string ⟨s.toArray⟩] rfl rfl (fun i u hi => by rw [addr_add, Nat.zero_add]; exact cell_of (heap_new w' _) (by simpa using hi)) (by intro u hu; simp at hu; subst hu; rfl) (by unfold maxLen; omega) (by omega) (by have := HB1.out.size; simp; omega) ?_; intro v' w1 ho hgr _; obtain ⟨l0, l0f, l0l⟩ := cells1 (pos_grown HR.out HB1.out hgr); have l0z := l0f 0; have HO := Lib.hid ho; have HGR := Lib.hid hgr; clear ho hgr)))
      go_roundw
      case rel => exact ⟨_, _, read_step HR.out HB1.out HW.out HO.out HGR.out (by omega)⟩
      case measure =>
       rw [box_of HR.out.pos, box_of (read_step HR.out HB1.out HW.out HO.out HGR.out (by omega)).pos]
       omega
     | false =>
      have hrecs := HR.out.on.done (by rw [HW.out])
      have HRC := Lib.hid hrecs
      clear hrecs
      obtain ⟨k0, _, _⟩ := cells1 (stays HR.out.box HB1.out)
      obtain ⟨_, _, _, k3, _, kf, _⟩ := (HR.out.log.below HB1.out).cells
      have kf3 := kf 3
      go_wp2_with fail
      obtain ⟨WA, hWA⟩ : ∃ WA, w'.setCell ⟨W9.heap.size + 1, 3, none⟩ (.int .i64 (pre.length : Nat)) = WA := ⟨_, rfl⟩
      obtain ⟨bA, pA, lA, xA, rA⟩ := read_end HR.out HB1.out hWA
      rw [hWA]
      have BA := Lib.hid bA
      have PA := Lib.hid pA
      have LA := Lib.hid lA
      have XA := Lib.hid xA
      have RA := Lib.hid rA
      have BWA := Lib.hid (bthen PB.out bA)
      have DA := Lib.hid (HD.out.below BWA.out)
      have hsz := PB.out.size
      have hsz1 := B2.out.size
      clear hWA bA pA lA xA rA k0 k3 kf kf3 HR HB1
      refine (face_any (W9.heap.size + 1) c 96 _ WA { f := true, g := B, n := pre.length, dead := false } { f := true, g := B, n := pre.length, dead := false } (own3 c rb (W9.heap.size + 1)) (Wal.cuts d true p').2 (OnDisk c d (Wal.cuts d true p').1 m rb) (enters_of Tryz.func96 (by kernel_rfl) rfl) LA.out rfl (own3_lt LA.out DA.out) (fun W hb => ?_)).mono ?_
      ·have hDW := DA.out.below hb
       have z0 := stays (stays P0.out BA.out) hb
       have z1 := stays (stays P1.out BA.out) hb
       have z2 := stays (stays P2.out BA.out) hb
       have zq := stays (stays PQ.out BA.out) hb
       have zn := stays (stays PN.out BA.out) hb
       have zp := stays PA.out hb
       have zx := stays XA.out hb
       exact (open1_true (W9.heap.size + 1) c W9.heap.size w2.heap.size (w2.heap.size + 1) (W9.heap.size + 1 + 1) w.heap.size (w2.heap.size + 1 + 1) q p' W _ d m rb ⟨(cells1 zp).1, (cells1 z0).1, (cells1 z1).1, (cells1 zx).1, (cells1 zn).1, (cells1 z2).1, by rw [HF0.out]; exact cell_of zq HC0.out, by rw [HF1.out]; exact cell_of zq HC1.out⟩
        ⟨not_own zp (by decide) (by decide) hDW, not_own z0 (by decide) (by decide) hDW, not_own z1 (by decide) (by decide) hDW, not_own zx (by decide) (by decide) hDW, not_own zn (by decide) (by decide) hDW, not_own z2 (by decide) (by decide) hDW, not_own zq (by decide) (by decide) hDW⟩ (LA.out.below hb) hDW).mono fun e W' ⟨he, hw⟩ => ⟨he, hw.closure⟩
      rintro e w1 ⟨rfl, W, W1, hfl⟩
      have HWK := Lib.hid (Worked.face hfl (heap_lt LA.out))
      obtain ⟨hre, hcap⟩ := recs_kept (base := w.heap.size) (x := W9.heap.size + 1) RA.out DA.out (by omega) HWK.out.touch (by omega)
      have HRE := Lib.hid hre
      have hbx := (cells1 (worked_other HWK.out.touch DA.out XA.out (by decide) (by decide) (by omega))).1
      clear hfl hre
      by_cases hr0 : (Wal.cuts d true p').2 = 0
      ·have HX : Hid (Wal.open_ d = (some ⟨{ f := true, g := B, n := pre.length, dead := false }, sb, pre⟩, (Wal.cuts d true p').1, 0)) := Lib.hid (by unfold Wal.open_; rw [if_neg (by simp [HDD.out]), HBEST.out, HSH.out, HSR.out, HRC.out, if_neg hA0, if_neg (by simp [hr0])])
       rw [if_pos hr0]
       have HLW : Hid (LogAt w1 (W9.heap.size + 1) c { f := true, g := B, n := pre.length, dead := false }) := Lib.hid (by simpa [faceL, hr0] using HWK.out.log)
       go_wp2_with fail
       go_region
       go_wp2_with fail
       refine bodyPost_ret (results_tmp4 rfl _ _ _) rfl ?_
       rw [HX.out]
       exact ⟨_, _, _, rfl, (fun o ho => by cases ho; exact ⟨rfl, HRE.out.below ((Below.refl _ _).drew), _, rfl, by omega, HLW.out.below ((Below.refl _ _).drew)⟩), (fun h => by cases h), open_worked HWK.out BWA.out (by omega) ((Below.refl _ _).drew)⟩
      ·have HX : Hid (Wal.open_ d = (none, (Wal.cuts d true p').1, 2)) := Lib.hid (by unfold Wal.open_; rw [if_neg (by simp [HDD.out]), HBEST.out, HSH.out, HSR.out, HRC.out, if_neg hA0, if_pos hr0])
       rw [if_neg hr0]
       go_wp2_with fail
       refine bodyPost_ret (results_tmp4 rfl _ _ _) rfl ?_
       rw [HX.out]
       exact ⟨_, _, _, rfl, (fun _ h => by cases h), fun _ => ⟨rfl, rfl, rfl⟩, open_worked HWK.out BWA.out (by omega) (Below.refl _ _)⟩
  ·go_wp2_with fail
   have M0 := M0'
   have M1 := M1'
   have M2 := M2'
   have Q8 := Q7
   have N8 := N7
   have B8 := B7
   clear t1 t1f t1z t2 t2f t2z s0 q0 q1 M0' M1' M2' Q7 N7 B7
   generalize W7 = W8 at M0 M1 M2 Q8 N8 B8 ⊢
   have hcur0 := hc0
   have hcur1 := hc1
   have HBEST : Hid (Wal.best d = false) := Lib.hid (by unfold Wal.best; rw [HF0.out, HF1.out, HA.out, HB.out]; exact decide_eq_false (by simpa using hab))
   have HSH : Hid (Wal.shown d = (A, sa, pa)) := Lib.hid (by unfold Wal.shown; rw [HBEST.out]; first | rw [HF0.out, HA.out] | rw [HF1.out, HB.out])
   have HSR : Hid (Wal.shownRecs d = Wal.recs F0 pa) := Lib.hid (by unfold Wal.shownRecs; rw [HBEST.out, HSH.out]; first | rw [HF0.out] | rw [HF1.out])
   have HC0 := Lib.hid hc0
   have HC1 := Lib.hid hc1
   clear HB hc0 hc1
   have hcI := hcur0
   clear hcur0 hcur1
   refine (counted_any F0 W8 (by omega)).mono ?_
   rw [HA.out]
   rintro e W9 ⟨rfl, b9⟩
   have P0 := Lib.hid (stays M0.out b9)
   have P1 := Lib.hid (stays M1.out b9)
   have P2 := Lib.hid (stays M2.out b9)
   have PQ := Lib.hid (stays Q8.out b9)
   have PN := Lib.hid (stays N8.out b9)
   have PB := Lib.hid (bthen B8.out b9)
   clear b9 M0 M1 M2 Q8 N8 B8
   by_cases hA0 : A = 0
   ·have HX : Hid (Wal.open_ d = (none, d, 100)) := Lib.hid (by unfold Wal.open_; rw [if_neg (by simp [HDD.out]), HSH.out, if_pos hA0])
    have hA0' : ((A : Int) == 0) = true := by rw [hA0]; rfl
    go_wp2_with fail
    refine bodyPost_ret (results_tmp4 rfl _ _ _) rfl ?_
    rw [HX.out]
    exact OpenEnds.refused HD.out (bthen PB.out (balloc _ _))
   ·have hA0' : ((A : Int) == 0) = false := by simp; omega
    have HLE := Lib.hid (counts_le HA.out hA0)
    obtain ⟨u0, _, _⟩ := cells1 PN.out
    obtain ⟨u1, _, _⟩ := cells1 P1.out
    go_wp2_with fail
    obtain ⟨WL, hWL⟩ : ∃ WL, (((W9.alloc (.cells #[.int .i64 pa] 3)).alloc (.cells #[.pointer (some ⟨c, 0, none⟩), .int .i64 0, .int .u64 A, .int .i64 0, .bool false] 148)).alloc (.cells #[.pointer (some ⟨W9.heap.size + 1, 0, none⟩)] 98)).alloc (.cells #[] 9) = WL := ⟨_, rfl⟩
    rw [hWL]
    have HST := Lib.hid (readAt_start W9 c F0 pa A false HLE.out.1 hWL.symm)
    clear hWL u0 u1 hA0'
    go_loopw [19] (fun v wr => ∃ p pre, ReadAt W9 wr c F0 pa A false v p pre) (fun _ wr => F0.length + 1 - boxOf wr W9.heap.size)
    case atStart =>
     exact ⟨_, _, HST.out⟩
    case round =>
     obtain ⟨p', pre, hr⟩ := hrel
     obtain ⟨gg, cap, hv⟩ := hr.slice
     subst hv
     have HR := Lib.hid hr
     have hple := hr.le
     have hmany := hr.many
     have hb3 := heap_lt hr.box
     obtain ⟨s, ok, hW⟩ : ∃ s ok, Wal.whole F0 p' 65536 = (s, ok) := ⟨_, _, rfl⟩
     have HW := Lib.hid hW
     obtain ⟨i0, _, _⟩ := cells1 (stays P0.out hr.old)
     obtain ⟨i1, _, _⟩ := cells1 (stays P1.out hr.old)
     have i2 := cell_of (stays PQ.out hr.old) hcI
     obtain ⟨i3, _, _⟩ := cells1 hr.pos
     have HKB : Hid (∀ w' : World, Below wr.heap.size wr w' → (Below wr.heap.size wr w' ∧ w'.cell? ⟨w2.heap.size, 0, none⟩ = some (.slice (some ⟨q, 0, none⟩) 2 2) ∧ w'.cell? ⟨w2.heap.size + 1, 0, none⟩ = some (.int .i64 0) ∧ w'.cell? ⟨q, 0, none⟩ = some (.string ⟨F0.toArray⟩) ∧ w'.cell? ⟨W9.heap.size, 0, none⟩ = some (.int .i64 p'))) :=
      fun w' hb => ⟨hb, cell_later hb i0, cell_later hb i1, cell_later hb i2, cell_later hb i3⟩
     clear hr hW
     go_wp2_with fail
     go_region_held3 (fun w' => Below wr.heap.size wr w' ∧ w'.cell? ⟨w2.heap.size, 0, none⟩ = some (.slice (some ⟨q, 0, none⟩) 2 2) ∧ w'.cell? ⟨w2.heap.size + 1, 0, none⟩ = some (.int .i64 0) ∧ w'.cell? ⟨q, 0, none⟩ = some (.string ⟨F0.toArray⟩) ∧ w'.cell? ⟨W9.heap.size, 0, none⟩ = some (.int .i64 p'))
      (first | exact HKB.out _ (Below.refl _ _).drew | exact HKB.out _ (bthen (by assumption : Below wr.heap.size wr _ ∧ _).1 (by assumption)))
      (first | (go_at_call 95; refine (whole_any F0 p' 65536 _ (by omega) (by omega) (by decide)).mono ?_; rw [HW.out]; rintro e w' ⟨rfl, hb⟩))
     rename_i hheld
     have HB1 := Lib.hid hheld.1
     clear hheld hb i0 i1 i2 i3 HKB
     cases ok with
     | true =>
      have hsl : p' + 8 + s.length ≤ F0.length := by have := (Wal.whole_le (file := F0) (p := p') (most := 65536) (by rw [HW.out])).1; rw [HW.out] at this; exact this
      have hs16 : s.length ≤ 1048576 := by omega
      go_wp2_with (first | (at_builtin; go_must (refine wpList_append_own2 _ rfl (.tmp 74) (.tmp 76) 22 rfl (W9.heap.size + 3) 9 1 16 _ Tryz.stringInfo Tryz.underlying22 rfl (by decide) _ pre.length (strs pre) rfl (own_touch HR.out.row (Touch.of_below (S := fun _ => False) (bthen HB1.out (balloc w' _))) (fun _ _ h => h)) ⟨w'.heap.size, 0, none⟩ 1 1 [.string ⟨s.toArray⟩] rfl rfl (fun i u hi => by rw [addr_add, Nat.zero_add]; exact cell_of (heap_new w' _) (by simpa using hi)) (by intro u hu; simp at hu; subst hu; rfl) (by unfold maxLen; omega) (by omega) (by have := HB1.out.size; simp; omega) ?_; intro v' w1 ho hgr _; obtain ⟨l0, l0f, l0l⟩ := cells1 (pos_grown HR.out HB1.out hgr); have l0z := l0f 0; have HO := Lib.hid ho; have HGR := Lib.hid hgr; clear ho hgr)))
      go_roundw
      case rel => exact ⟨_, _, read_step HR.out HB1.out HW.out HO.out HGR.out (by omega)⟩
      case measure =>
       rw [box_of HR.out.pos, box_of (read_step HR.out HB1.out HW.out HO.out HGR.out (by omega)).pos]
       omega
     | false =>
      have hrecs := HR.out.on.done (by rw [HW.out])
      have HRC := Lib.hid hrecs
      clear hrecs
      obtain ⟨k0, _, _⟩ := cells1 (stays HR.out.box HB1.out)
      obtain ⟨_, _, _, k3, _, kf, _⟩ := (HR.out.log.below HB1.out).cells
      have kf3 := kf 3
      go_wp2_with fail
      obtain ⟨WA, hWA⟩ : ∃ WA, w'.setCell ⟨W9.heap.size + 1, 3, none⟩ (.int .i64 (pre.length : Nat)) = WA := ⟨_, rfl⟩
      obtain ⟨bA, pA, lA, xA, rA⟩ := read_end HR.out HB1.out hWA
      rw [hWA]
      have BA := Lib.hid bA
      have PA := Lib.hid pA
      have LA := Lib.hid lA
      have XA := Lib.hid xA
      have RA := Lib.hid rA
      have BWA := Lib.hid (bthen PB.out bA)
      have DA := Lib.hid (HD.out.below BWA.out)
      have hsz := PB.out.size
      have hsz1 := B2.out.size
      clear hWA bA pA lA xA rA k0 k3 kf kf3 HR HB1
      refine (face_any (W9.heap.size + 1) c 96 _ WA { f := false, g := A, n := pre.length, dead := false } { f := false, g := A, n := pre.length, dead := false } (own3 c rb (W9.heap.size + 1)) (Wal.cuts d false p').2 (OnDisk c d (Wal.cuts d false p').1 m rb) (enters_of Tryz.func96 (by kernel_rfl) rfl) LA.out rfl (own3_lt LA.out DA.out) (fun W hb => ?_)).mono ?_
      ·have hDW := DA.out.below hb
       have z0 := stays (stays P0.out BA.out) hb
       have z1 := stays (stays P1.out BA.out) hb
       have z2 := stays (stays P2.out BA.out) hb
       have zq := stays (stays PQ.out BA.out) hb
       have zn := stays (stays PN.out BA.out) hb
       have zp := stays PA.out hb
       have zx := stays XA.out hb
       exact (open1_false (W9.heap.size + 1) c W9.heap.size w2.heap.size (w2.heap.size + 1) (W9.heap.size + 1 + 1) w.heap.size (w2.heap.size + 1 + 1) q p' W _ d m rb ⟨(cells1 zp).1, (cells1 z0).1, (cells1 z1).1, (cells1 zx).1, (cells1 zn).1, (cells1 z2).1, by rw [HF0.out]; exact cell_of zq HC0.out, by rw [HF1.out]; exact cell_of zq HC1.out⟩
        ⟨not_own zp (by decide) (by decide) hDW, not_own z0 (by decide) (by decide) hDW, not_own z1 (by decide) (by decide) hDW, not_own zx (by decide) (by decide) hDW, not_own zn (by decide) (by decide) hDW, not_own z2 (by decide) (by decide) hDW, not_own zq (by decide) (by decide) hDW⟩ (LA.out.below hb) hDW).mono fun e W' ⟨he, hw⟩ => ⟨he, hw.closure⟩
      rintro e w1 ⟨rfl, W, W1, hfl⟩
      have HWK := Lib.hid (Worked.face hfl (heap_lt LA.out))
      obtain ⟨hre, hcap⟩ := recs_kept (base := w.heap.size) (x := W9.heap.size + 1) RA.out DA.out (by omega) HWK.out.touch (by omega)
      have HRE := Lib.hid hre
      have hbx := (cells1 (worked_other HWK.out.touch DA.out XA.out (by decide) (by decide) (by omega))).1
      clear hfl hre
      by_cases hr0 : (Wal.cuts d false p').2 = 0
      ·have HX : Hid (Wal.open_ d = (some ⟨{ f := false, g := A, n := pre.length, dead := false }, sa, pre⟩, (Wal.cuts d false p').1, 0)) := Lib.hid (by unfold Wal.open_; rw [if_neg (by simp [HDD.out]), HBEST.out, HSH.out, HSR.out, HRC.out, if_neg hA0, if_neg (by simp [hr0])])
       rw [if_pos hr0]
       have HLW : Hid (LogAt w1 (W9.heap.size + 1) c { f := false, g := A, n := pre.length, dead := false }) := Lib.hid (by simpa [faceL, hr0] using HWK.out.log)
       go_wp2_with fail
       go_region
       go_wp2_with fail
       refine bodyPost_ret (results_tmp4 rfl _ _ _) rfl ?_
       rw [HX.out]
       exact ⟨_, _, _, rfl, (fun o ho => by cases ho; exact ⟨rfl, HRE.out.below ((Below.refl _ _).drew), _, rfl, by omega, HLW.out.below ((Below.refl _ _).drew)⟩), (fun h => by cases h), open_worked HWK.out BWA.out (by omega) ((Below.refl _ _).drew)⟩
      ·have HX : Hid (Wal.open_ d = (none, (Wal.cuts d false p').1, 2)) := Lib.hid (by unfold Wal.open_; rw [if_neg (by simp [HDD.out]), HBEST.out, HSH.out, HSR.out, HRC.out, if_neg hA0, if_pos hr0])
       rw [if_neg hr0]
       go_wp2_with fail
       refine bodyPost_ret (results_tmp4 rfl _ _ _) rfl ?_
       rw [HX.out]
       exact ⟨_, _, _, rfl, (fun _ h => by cases h), fun _ => ⟨rfl, rfl, rfl⟩, open_worked HWK.out BWA.out (by omega) (Below.refl _ _)⟩
end Go.Proofs.YtpjpknndfhablaaGreat
namespace Go.Proofs.YtpjpknndfhablaaGreat
open Go.RowKit
/-- Of none of these types. -/
def Off (ts : List TypeId) (o : Obj) : Prop := ∀ c t f, o = .cells c t f → t ∉ ts
theorem off_cells {ts : List TypeId} {c : Array Value} {t : TypeId} {f : Nat × Nat} (h : t ∉ ts) : Off ts (.cells c t f) := fun _ _ _ e => by cases e; exact h
def KeepsOff (ts : List TypeId) (w w' : World) : Prop := ∀ (g : Nat) (o : Obj), w.heap[g]? = some o → Off ts o → w'.heap[g]? = some o
theorem KeepsOff.refl (ts : List TypeId) (w : World) : KeepsOff ts w w := fun _ _ h _ => h
theorem KeepsOff.below {ts : List TypeId} {w w' : World} (h : Below w.heap.size w w') : KeepsOff ts w w' := fun _ _ hg _ => stays hg h
theorem KeepsOff.trans {ts : List TypeId} {w w1 w2 : World} (h : KeepsOff ts w w1) (h' : KeepsOff ts w1 w2) : KeepsOff ts w w2 := fun g o hg hn => h' g o (h g o hg hn) hn
theorem KeepsOff.mono {ts us : List TypeId} {w w' : World} (h : KeepsOff ts w w') (hs : ∀ t, t ∈ ts → t ∈ us) : KeepsOff us w w' := fun g o hg hn => h g o hg (fun c t f e ht => hn c t f e (hs t ht))
theorem KeepsOff.cells {ts : List TypeId} {w w' : World} (h : KeepsOff ts w w') {g : Nat} {c : Array Value} {t : TypeId} {f : Nat × Nat} (hg : w.heap[g]? = some (.cells c t f)) (ht : t ∉ ts) : w'.heap[g]? = some (.cells c t f) := h g _ hg (off_cells ht)
/-- These blocks are of those types. -/
def Typed (ts : List TypeId) (w : World) (S : Nat → Prop) : Prop := ∀ k, S k → ∃ c t f, w.heap[k]? = some (.cells c t f) ∧ t ∈ ts
theorem KeepsOff.of_touch {ts : List TypeId} {w w' : World} {S : Nat → Prop} (hs : Typed ts w S) (ht : Touch S w w') : KeepsOff ts w w' := by
 intro g o hg hn
 refine (ht.block g (heap_lt hg) fun h => ?_).trans hg
 obtain ⟨c, t, f, hc, hm⟩ := hs g h
 rw [hg] at hc
 exact hn c t f (Option.some.inj hc) hm
theorem KeepsOff.own {ts : List TypeId} {w w' : World} {base e size n : Nat} {v : Value} {xs : List Value} (hk : KeepsOff ts w w') (h : w.ownsRow base e size v n xs) (he : e ∉ ts) : w'.ownsRow base e size v n xs := by
 refine ⟨h.1, ?_⟩
 rcases h.2 with h0 | ⟨g, cap, cur, rfl, hb, hg, rest⟩
 ·exact .inl h0
 ·exact .inr ⟨g, cap, cur, rfl, hb, hk.cells hg he, rest⟩
theorem typed_own {ts : List TypeId} {w : World} {base e size n : Nat} {v : Value} {xs : List Value} (h : w.ownsRow base e size v n xs) (he : e ∈ ts) : Typed ts w (fun k => v.ownBlock = some k) := by
 intro k hk
 rcases h.2 with ⟨rfl, _⟩ | ⟨g, cap, cur, rfl, hb, hg, _⟩
 ·cases hk
 ·have e1 : g = k := Option.some.inj hk
  subst e1
  exact ⟨_, _, _, hg, he⟩
theorem DiskAt.typed {w : World} {c : Nat} {d : DS} {m : Nat} {rb : Option Nat} (h : DiskAt w c d m rb) : Typed [89, 106] w (own2 c rb) := by
 obtain ⟨_, rs, r, h, _, rfl⟩ := h
 rintro k (rfl | hk)
 ·exact ⟨_, _, _, h.blk, by simp⟩
 ·exact typed_own h.own (by simp) k hk
theorem RefAt.typed {w : World} {y : Nat} {d : DS} {ub : Option Nat} (h : RefAt w y d ub) : Typed [92] w (· = y) := by
 obtain ⟨_, us, h, _⟩ := h
 rintro k rfl
 exact ⟨_, _, _, h.blk, by simp⟩
theorem LogAt.typed3 {w : World} {x c c' : Nat} {l : Wal.LS} {d : DS} {m : Nat} {rb : Option Nat} (hl : LogAt w x c' l) (h : DiskAt w c d m rb) : Typed [89, 106, 148] w (own3 c rb x) := by
 rintro k (hk | rfl)
 ·obtain ⟨a, t, f, h1, h2⟩ := h.typed k hk
  exact ⟨a, t, f, h1, by simp at h2; rcases h2 with rfl | rfl <;> simp⟩
 ·exact ⟨_, _, _, hl, by simp⟩
end Go.Proofs.YtpjpknndfhablaaGreat
namespace Go.Proofs.YtpjpknndfhablaaGreat
open Go.RowKit Go.Shelf
theorem buiSize : (Tryz.prog.info? 189).map (·.size) = some 2 := by kernel_rfl
theorem buiLies : liesAt Tryz.prog Tryz.prog.depth 189 (2 / Tryz.prog.cellsOf 189) 0 189 1 = true := by kernel_rfl
set_option maxHeartbeats 1000000 in
set_option maxRecDepth 100000 in
theorem copyCheck_used (b : Nat) (w : World) (h0 : w.cell? ⟨b, 0, none⟩ = some (.pointer (some ⟨b, 0, none⟩))) :
  Calls Tryz.prog 159 #[.pointer (some ⟨b, 0, none⟩)] w fun e w' => e = .returned (.tuple #[]) ∧ w' = w := by
 obtain ⟨j, hj, _⟩ := Option.map_eq_some_iff.1 buiSize
 go_enter Tryz.func159, Tryz.ntmps159
 go_wp2
 rw [Lib.run_neq_ptr_same w _ Tryz.underlying187 hj]
 go_wp2
 go_end0
 exact ⟨rfl, rfl⟩
set_option maxHeartbeats 1000000 in
set_option maxRecDepth 100000 in
theorem copyCheck_fresh (b : Nat) (w : World) (h0 : w.cell? ⟨b, 0, none⟩ = some (.pointer none)) (hsh : w.shape? b = some (189, 2)) (hfz : w.frozen? ⟨b, 0, none⟩ = false) :
  Calls Tryz.prog 159 #[.pointer (some ⟨b, 0, none⟩)] w fun e w' => e = .returned (.tuple #[]) ∧ w' = w.setCell ⟨b, 0, none⟩ (.pointer (some ⟨b, 0, none⟩)) := by
 obtain ⟨j, hj, hjs⟩ := Option.map_eq_some_iff.1 buiSize
 go_enter Tryz.func159, Tryz.ntmps159
 go_wp2
 rw [Lib.run_to_unsafe w ⟨b, 0, none⟩ Tryz.underlying187 Tryz.underlying225 hj (by rw [hjs]; decide) hsh (Nat.zero_lt_succ 1)]
 simp only [Result.andThen]
 rw [Oper.upon_value]
 go_wp2
 rw [run_callFunc_extern Tryz.func181 (by kernel_rfl) (by kernel_rfl) (by kernel_rfl) (e := Extern.AbiNoEscape.same) (by kernel_rfl)]
 rw [Lib.run_noEscape]
 simp only [Result.andThen]
 rw [Oper.upon_value]
 go_wp2
 rw [Lib.run_from_unsafe w ⟨b, 0, none⟩ Tryz.underlying225 Tryz.underlying187 hj hsh buiLies]
 simp only [Result.andThen]
 rw [Oper.upon_value]
 go_wp2
 go_end0
 exact ⟨rfl, rfl⟩
def buiT : List TypeId := [189, 5]
theorem keeps_set {w : World} {b i : Nat} {cs : Array Value} {T : TypeId} {fr : Nat × Nat} {ts : List TypeId} (h : w.heap[b]? = some (.cells cs T fr)) (hT : T ∈ ts) (v : Value) : KeepsOff ts w (w.setCell ⟨b, i, none⟩ v) :=
 KeepsOff.of_touch (S := (· = b)) (by rintro k rfl; exact ⟨_, _, _, h, hT⟩) ((Touch.refl (· = b) w).setCell _ (fun _ => rfl))
theorem copyCheck_any (B b : Nat) (bs : List Value) (w : World) (h : Lib.IsBuilder 189 5 B b bs w) :
  Calls Tryz.prog 159 #[.pointer (some ⟨b, 0, none⟩)] w fun e w' => e = .returned (.tuple #[]) ∧ (Lib.BuilderAt 189 5 B b (.pointer (some ⟨b, 0, none⟩)) bs w' ∧ Below B w w' ∧ KeepsOff buiT w w') := by
 rcases h with h | h
 ·refine (copyCheck_fresh b w h.cell0 h.shape h.frozen0).mono ?_
  rintro e w' ⟨rfl, rfl⟩
  obtain ⟨h1, v, hbk, r⟩ := h
  exact ⟨rfl, Lib.BuilderAt.used ⟨h1, v, hbk, r⟩ _, (Below.refl B w).setCell (p := ⟨b, 0, none⟩) h1 _, keeps_set hbk (by simp [buiT]) _⟩
 ·refine (copyCheck_used b w h.cell0).mono ?_
  rintro e w' ⟨rfl, rfl⟩
  exact ⟨rfl, h, Below.refl B _, KeepsOff.refl _ _⟩
set_option maxHeartbeats 1000000 in
set_option maxRecDepth 100000 in
theorem writeString_any (B b : Nat) (bs : List Value) (s : ByteArray) (w : World) (h : Lib.IsBuilder 189 5 B b bs w) (hlen : bs.length + s.size ≤ 140737488355328) (hBw : B ≤ w.heap.size) :
  Calls Tryz.prog 122 #[.pointer (some ⟨b, 0, none⟩), .string s] w fun e w' => e = .returned (.tuple #[.int .i64 s.size, .nilIface]) ∧ (Lib.BuilderAt 189 5 B b (.pointer (some ⟨b, 0, none⟩)) (bs ++ Lib.strCells s) w' ∧ Below B w w' ∧ KeepsOff buiT w w') := by
 obtain ⟨i0, hi, hz0, hz1, hz2⟩ := info_parts Tryz.byteInfo
 go_enter Tryz.func122, Tryz.ntmps122
 go_wp2_with (go_at_call 159; refine (copyCheck_any B b bs _ h).mono ?_)
 rintro e w1 ⟨rfl, h1, hb1, hk1⟩
 obtain ⟨hB, v, hbk, hown, hne⟩ := h1
 have HK1 := Lib.hid hk1
 have HOWN := Lib.hid hown
 have HBK := Lib.hid hbk
 clear hk1
 have c0 : w1.cell? ⟨b, 0, none⟩ = some (.pointer (some ⟨b, 0, none⟩)) := by rw [Lib.cell_of_heap hbk]; rfl
 have c1 : w1.cell? ⟨b, 1, none⟩ = some v := by rw [Lib.cell_of_heap hbk]; rfl
 go_wp2_with (at_builtin; refine Lib.wpList_append_own_string _ rfl _ _ 175 9 rfl B 5 i0 Tryz.underlying175 Tryz.underlying9 hi hz0 hz1 hz2 _ _ _ rfl hown s rfl ?c3 ?c4 ?c5 ?_)
 case c3 => unfold maxLen; omega
 case c4 => omega
 case c5 => have := hb1.size; omega
 intro v' w2 hown' hgrow _
 have hlt : b < w1.heap.size := by
  rcases Nat.lt_or_ge b w1.heap.size with h' | h'
  ·exact h'
  ·simp [Array.getElem?_eq_none h'] at hbk
 have hb2 : w2.heap[b]? = some (.cells #[.pointer (some ⟨b, 0, none⟩), v] 189 (0, 0)) := by
  rw [hgrow.block b hlt (fun e => hne e.symm)]
  exact hbk
 have d0 : w2.cell? ⟨b, 0, none⟩ = some (.pointer (some ⟨b, 0, none⟩)) := by rw [Lib.cell_of_heap hb2]; rfl
 have d1 : w2.cell? ⟨b, 1, none⟩ = some v := by rw [Lib.cell_of_heap hb2]; rfl
 have f1 : w2.frozen? ⟨b, 1, none⟩ = false := Lib.frozen_of_heap hb2 1
 obtain ⟨ao, n', cap, rfl⟩ : ∃ ao n' cap, v' = .slice ao n' cap := by
  rcases hown'.2 with ⟨hv, _⟩ | ⟨g, cap, cur, hv, _⟩
  ·exact ⟨_, _, _, hv⟩
  ·exact ⟨_, _, _, hv⟩
 go_wp2
 go_ret2
 refine ⟨rfl, ?_, ?_, ?_⟩
 ·exact Lib.BuilderAt.put (T := 189) (e := 5) hB hb2 (bs' := bs ++ Lib.strCells s) (by simpa [Lib.strCells_length] using hown') (by decide)
 ·exact (hb1.grown hgrow (by have := hb1.size; omega) (fun k hk => (hown.lt k hk).1)).setCell (p := ⟨b, 1, none⟩) hB _
 ·exact (HK1.out.trans (KeepsOff.of_touch (typed_own (ts := buiT) HOWN.out (by simp [buiT])) ((touch_of_grown hgrow).mono (fun _ _ h => h)))).trans (keeps_set hb2 (by simp [buiT]) _)
end Go.Proofs.YtpjpknndfhablaaGreat
namespace Go.Proofs.YtpjpknndfhablaaGreat
open Go.RowKit Go.Shelf
/-- A builder in block b that holds these bytes. -/
def BuiAt (w : World) (B b : Nat) (l : List UInt8) : Prop := Lib.IsBuilder 189 5 B b (Lib.byteCells l) w
theorem BuiAt.fresh (w : World) : BuiAt (w.alloc (.cells #[.pointer none, .slice none 0 0] 189)) w.heap.size w.heap.size [] :=
 .inl ⟨Nat.le_refl _, .slice none 0 0, heap_new w _, World.ownsRow_nil _ _ _ _, by simp [Value.ownBlock]⟩
theorem BuiAt.lt {w : World} {B b : Nat} {l : List UInt8} (h : BuiAt w B b l) : B ≤ b ∧ b < w.heap.size := by
 rcases h with ⟨h1, v, h2, _⟩ | ⟨h1, v, h2, _⟩
 ·exact ⟨h1, heap_lt h2⟩
 ·exact ⟨h1, heap_lt h2⟩
theorem BuiAt.below {w w' : World} {B b : Nat} {l : List UInt8} (h : BuiAt w B b l) (hb : Below w.heap.size w w') : BuiAt w' B b l := by
 rcases h with ⟨h1, v, h2, h3, h4⟩ | ⟨h1, v, h2, h3, h4⟩
 ·exact .inl ⟨h1, v, stays h2 hb, own_touch h3 (Touch.of_below (S := fun _ => False) hb) (fun _ _ h => h), h4⟩
 ·exact .inr ⟨h1, v, stays h2 hb, own_touch h3 (Touch.of_below (S := fun _ => False) hb) (fun _ _ h => h), h4⟩
theorem write_any (B b : Nat) (l s : List UInt8) (w : World) (h : BuiAt w B b l) (hlen : l.length + s.length ≤ 140737488355328) :
  Calls Tryz.prog 122 #[.pointer (some ⟨b, 0, none⟩), .string ⟨s.toArray⟩] w fun e w' => (∃ n : Int, e = .returned (.tuple #[.int .i64 n, .nilIface])) ∧ BuiAt w' B b (l ++ s) ∧ Below B w w' ∧ KeepsOff buiT w w' := by
 have hB : B ≤ w.heap.size := by have := h.lt; omega
 refine (writeString_any B b (Lib.byteCells l) ⟨s.toArray⟩ w h (by rw [Lib.byteCells_length]; simpa [ByteArray.size] using hlen) hB).mono ?_
 rintro e w' ⟨rfl, h1, h2, h3⟩
 refine ⟨⟨_, rfl⟩, .inr ?_, h2, h3⟩
 have e1 : Lib.byteCells (l ++ s) = Lib.byteCells l ++ Lib.strCells ⟨s.toArray⟩ := by simp [Lib.byteCells, Lib.strCells]
 rw [e1]
 exact h1
namespace Sto
theorem enc_append (a b : List Ch) : enc (a ++ b) = enc a ++ enc b := by simp [enc]
theorem enc_snoc {c : List Ch} {j : Nat} {x : Ch} (h : c[j]? = some x) : enc (c.take (j + 1)) = enc (c.take j) ++ enc1 x := by
 rw [List.take_add_one, h, enc_append]
 simp [enc]
theorem enc_take_le (c : List Ch) (j : Nat) : (enc (c.take j)).length ≤ (enc c).length := by
 have := congrArg List.length (enc_append (c.take j) (c.drop j))
 rw [List.take_append_drop, List.length_append] at this
 omega
theorem big_one (n : Nat) : Sha.big n 1 = [UInt8.ofNat n] := by simp [Sha.big]
end Sto
set_option maxHeartbeats 4000000 in
set_option maxRecDepth 100000 in
theorem encode11_any (v : Value) (c : List Sto.Ch) (count : Nat) (w : World) (h : ChsAt w v c) (hf : ∀ x ∈ c, Sto.Fine x) (hcount : count ≤ 4) (hlen : (Sto.encode c count).length ≤ 140737488355328) (hcl : c.length ≤ 4398046511104) :
  Calls Tryz.prog 66 #[v, .int .i64 count] w fun e w' => e = .returned (.string ⟨(Sto.encode c count).toArray⟩) ∧ Below w.heap.size w w' := by
 obtain ⟨ao, cap, rfl, hn1, hn2, hrd⟩ := chsAt_read h
 have HRD : Hid (∀ w' : World, Below w.heap.size w w' → ∀ (j : Nat) p, c[j]? = some p → ∃ g, ao = some ⟨g, 0, none⟩ ∧ g < w.heap.size ∧ w'.cell? ⟨g, j * 3, none⟩ = some (.bool p.put) ∧ w'.cell? ⟨g, j * 3 + 1, none⟩ = some (.string ⟨p.key.toArray⟩) ∧ w'.cell? ⟨g, j * 3 + 2, none⟩ = some (.string ⟨p.value.toArray⟩)) := Lib.hid (fun w' hb j p hj => by
  obtain ⟨g, e, hg, a, b, d⟩ := hrd j p hj
  exact ⟨g, e, hg, cell_later hb a, cell_later hb b, cell_later hb d⟩)
 have HF := Lib.hid hf
 clear hrd hf h
 obtain ⟨B, hB⟩ : ∃ B, w.heap.size = B := ⟨_, rfl⟩
 have hfr := BuiAt.fresh w
 have hba := balloc w (.cells #[.pointer none, .slice none 0 0] 189)
 obtain ⟨wa, hwa⟩ : ∃ W, w.alloc (.cells #[.pointer none, .slice none 0 0] 189) = W := ⟨_, rfl⟩
 rw [hwa, hB] at hfr
 rw [hwa, hB] at hba
 rw [hB] at HRD
 have HBA := Lib.hid hba
 have HFR := Lib.hid hfr
 have hnum := number11_any c.length count wa hcount (by omega)
 obtain ⟨H, hH⟩ : ∃ H, Sha.big c.length count = H := ⟨_, rfl⟩
 have hHl : H.length = count := by rw [← hH]; exact Sha.big_length _ _
 rw [hH] at hnum
 have HN := Lib.hid hnum
 have HE : Hid (Sto.encode c count = H ++ Sto.enc c) := Lib.hid (by unfold Sto.encode; rw [hH])
 rw [HE.out] at hlen
 rw [List.length_append] at hlen
 clear hnum hba hfr hH
 go_enter Tryz.func66, Tryz.ntmps66
 go_wp2_with fail
 try rw [hwa]
 try rw [hB]
 refine HN.out.mono ?_
 rintro e w1 ⟨rfl, hb1⟩
 have HB1 := Lib.hid hb1
 have HFR1 := Lib.hid (HFR.out.below hb1)
 clear hb1 hwa
 go_wp2_with fail
 refine (write_any B B [] H w1 HFR1.out (by simp; omega)).mono ?_
 rintro e w2 ⟨⟨n, rfl⟩, hbu, hb2, _⟩
 have HBU := Lib.hid hbu
 have HB2 : Hid (Below B w w2) := Lib.hid ((HBA.out.trans (HB1.out.mono (by have := HFR.out.lt; omega))).trans hb2)
 clear hbu hb2
 go_wp2_with fail
 go_loopw [16] (fun i wr => ∃ j : Nat, i = .int .i64 j ∧ j ≤ c.length ∧ BuiAt wr B B (H ++ Sto.enc (c.take j)) ∧ Below B w wr) (fun i _ => c.length - (intOf i).toNat)
 case atStart => exact ⟨0, rfl, Nat.zero_le _, by simpa [Sto.enc] using HBU.out, HB2.out⟩
 case round =>
  obtain ⟨j, rfl, hj, hbu, hbl⟩ := hrel
  have HU := Lib.hid hbu
  have HB := Lib.hid hbl
  clear hbu hbl
  by_cases hlt : j < c.length
  ·obtain ⟨⟨pu, ky, vl⟩, hx⟩ : ∃ x, c[j]? = some x := ⟨_, List.getElem?_eq_getElem hlt⟩
   obtain ⟨g, rfl, hg, c0, c1, c2⟩ := HRD.out _ HB.out j _ hx
   simp only at c0 c1 c2
   have HFX := Lib.hid (HF.out _ (List.mem_of_getElem? hx))
   have hkl : ky.length ≤ 64 := (Sto.keyOk_iff.1 HFX.out.key).2
   have hvl : vl.length ≤ 4096 := Sto.valueOk_iff.1 HFX.out.value
   have hsn := Sto.enc_snoc hx
   have hle := Sto.enc_take_le c (j + 1)
   have HSN := Lib.hid hsn
   have hszl : (Sto.enc (c.take j)).length + (Sto.enc1 ⟨pu, ky, vl⟩).length ≤ (Sto.enc c).length := by
    rw [hsn, List.length_append] at hle
    exact hle
   obtain ⟨gb, hgb⟩ : ∃ g, wr.heap.size = g := ⟨_, rfl⟩
   have hgB : B < gb := by have := HU.out.lt; omega
   have hnw := heap_new wr (.cells #[.bool pu, .string ⟨ky.toArray⟩, .string ⟨vl.toArray⟩] 116)
   have hbw := balloc wr (.cells #[.bool pu, .string ⟨ky.toArray⟩, .string ⟨vl.toArray⟩] 116)
   obtain ⟨W1, hW1⟩ : ∃ W, wr.alloc (.cells #[.bool pu, .string ⟨ky.toArray⟩, .string ⟨vl.toArray⟩] 116) = W := ⟨_, rfl⟩
   rw [hW1] at hnw hbw
   rw [hgb] at hnw
   have HNW := Lib.hid hnw
   have HU1 := Lib.hid (HU.out.below hbw)
   have HBW : Hid (Below B w W1) := Lib.hid (HB.out.trans (hbw.mono (by omega)))
   have e0 := cell_of (i := 0) hnw rfl
   clear hnw hbw hsn hle hx
   cases pu with
   | false =>
    have he1 : Sto.enc1 ⟨false, ky, vl⟩ = [0] ++ [UInt8.ofNat ky.length] ++ ky := by simp [Sto.enc1]
    rw [he1] at hszl
    rw [he1] at HSN
    simp only [List.length_append, List.length_cons, List.length_nil] at hszl
    have HNK : Hid (∀ W, Calls Tryz.prog 123 #[.int .i64 0, .int .i64 1] W fun e w' => e = .returned (.string ⟨#[0]⟩) ∧ Below W.heap.size W w') := Lib.hid (fun W => number11_any 0 1 W (by decide) (by decide))
    have HNL : Hid (∀ W, Calls Tryz.prog 123 #[.int .i64 ky.length, .int .i64 1] W fun e w' => e = .returned (.string ⟨#[UInt8.ofNat ky.length]⟩) ∧ Below W.heap.size W w') := Lib.hid (fun W => by
     have := number11_any ky.length 1 W (by decide) (by omega)
     rw [Sto.big_one] at this
     exact this)
    obtain ⟨R, hR⟩ : ∃ R, [0] ++ [UInt8.ofNat ky.length] ++ ky = R := ⟨_, rfl⟩
    have HAP1 : Hid (({ data := #[0] } : ByteArray) ++ { data := #[UInt8.ofNat ky.length] } = { data := #[0, UInt8.ofNat ky.length] }) := Lib.hid (bytes_append [0] [UInt8.ofNat ky.length])
    have HAP : Hid (({ data := #[0, UInt8.ofNat ky.length] } : ByteArray) ++ ⟨ky.toArray⟩ = ⟨R.toArray⟩) := Lib.hid (by rw [← hR]; exact bytes_append [0, UInt8.ofNat ky.length] ky)
    rw [hR] at HSN
    have hRl : R.length = 2 + ky.length := by rw [← hR]; simp; omega
    clear he1 hR
    have hlk : ¬ 9223372036854775807 < 2 + ky.length := by omega
    go_wp2_with fail
    try rw [hgb]
    try rw [hW1]
    have hS0 : W1.drew.cell? ⟨gb, 1, none⟩ = some (.string ⟨ky.toArray⟩) := cell_of HNW.out rfl
    refine wp_region_heldL (S := fun w' => w'.cell? ⟨gb, 1, none⟩ = some (.string ⟨ky.toArray⟩)) (by kernel_rfl) ?_
    refine planned [0, 2, 3, 4, 7, 8] ?_
    iterate 6 (refine planned_take (v := ?_) rfl (by kernel_rfl) (by kernel_rfl) (by kernel_rfl) (fun _ _ _ h => h) ?_ (by assumption) ?_; rotate_left; (focus (first | (refine Or.inr ⟨by rfl, ?_⟩; with_reducible rfl) | (refine Or.inl ⟨by rfl, ?_⟩; (intro w hSw; (try dsimp only at hSw); go_simp); try with_reducible rfl))); try simp only [Act.put, List.setIfInBounds_toArray, List.set_cons_zero, List.set_cons_succ])
    refine planned_end ?_
    refine wpAnyH_oneL (i := 1) rfl (by kernel_rfl) ?_
    intro K hK
    rw [if_pos (by rfl)]
    go_simp
    go_at_call 123
    refine (HNK.out _).mono ?_
    rintro e y1 ⟨rfl, b1⟩
    have B1 := Lib.hid (bthen ((Below.refl _ W1).drew) b1)
    have hS1 := cell_later b1 hS0
    clear b1
    refine hK _ _ hS1 ?_
    clear hK K
    try simp only [Act.put, List.setIfInBounds_toArray, List.set_cons_zero, List.set_cons_succ]
    refine wpAnyH_oneL (i := 5) rfl (by kernel_rfl) ?_
    intro K hK
    rw [if_pos (by rfl)]
    go_simp
    go_at_call 123
    refine (HNL.out _).mono ?_
    rintro e y2 ⟨rfl, b2⟩
    have B2 := Lib.hid (bthen B1.out b2)
    have hS2 := cell_later b2 hS1
    have HU2 := Lib.hid (HU1.out.below B2.out)
    clear b2
    refine hK _ _ hS2 ?_
    clear hK K
    try simp only [Act.put, List.setIfInBounds_toArray, List.set_cons_zero, List.set_cons_succ]
    refine planned [6, 9] ?_
    iterate 2 (refine planned_take (v := ?_) rfl (by kernel_rfl) (by kernel_rfl) (by kernel_rfl) (fun _ _ _ h => h) ?_ (by assumption) ?_; rotate_left; (focus (first | (refine Or.inr ⟨by rfl, ?_⟩; with_reducible rfl) | (refine Or.inl ⟨by rfl, ?_⟩; (intro w hSw; (try dsimp only at hSw); go_simp); try with_reducible rfl))); try simp only [Act.put, List.setIfInBounds_toArray, List.set_cons_zero, List.set_cons_succ])
    refine planned_end ?_
    refine wpAnyH_oneL (i := 10) rfl (by kernel_rfl) ?_
    intro K hK
    rw [if_pos (by rfl)]
    go_simp
    go_at_call 122
    rw [HAP1.out, HAP.out]
    refine (write_any B B (H ++ Sto.enc (c.take j)) R y2 HU2.out (by simp; omega)).mono ?_
    rintro e y3 ⟨⟨n3, rfl⟩, hu3, hb3, hk3⟩
    have HU3 := Lib.hid hu3
    have HNW3 := Lib.hid (hk3.cells (stays HNW.out B2.out) (by decide))
    have HB3 : Hid (Below B w y3) := Lib.hid ((HBW.out.trans (B2.out.mono (by have := HU1.out.lt; omega))).trans hb3)
    have hS3 : y3.cell? ⟨gb, 1, none⟩ = some (.string ⟨ky.toArray⟩) := cell_of HNW3.out rfl
    have e0' := cell_of (i := 0) HNW3.out rfl
    clear hu3 hb3 hk3
    refine hK _ _ hS3 ?_
    clear hK K
    try simp only [Act.put, List.setIfInBounds_toArray, List.set_cons_zero, List.set_cons_succ]
    refine wpAnyH_done (by kernel_rfl) ?_ _
    go_wp2
    go_roundw
    all_goals first
     | (simp [intOf]; omega)
     | exact ⟨j + 1, by go_num, by omega, by rw [HSN.out, ← List.append_assoc]; exact HU3.out, HB3.out⟩
   | true =>
    have he1 : Sto.enc1 ⟨true, ky, vl⟩ = ([1] ++ [UInt8.ofNat ky.length] ++ ky) ++ (Sha.big vl.length 2 ++ vl) := by simp [Sto.enc1]
    rw [he1] at hszl
    rw [he1] at HSN
    simp only [List.length_append, List.length_cons, List.length_nil, Sha.big_length] at hszl
    have HNK : Hid (∀ W, Calls Tryz.prog 123 #[.int .i64 1, .int .i64 1] W fun e w' => e = .returned (.string ⟨#[1]⟩) ∧ Below W.heap.size W w') := Lib.hid (fun W => number11_any 1 1 W (by decide) (by decide))
    have HNL : Hid (∀ W, Calls Tryz.prog 123 #[.int .i64 ky.length, .int .i64 1] W fun e w' => e = .returned (.string ⟨#[UInt8.ofNat ky.length]⟩) ∧ Below W.heap.size W w') := Lib.hid (fun W => by
     have := number11_any ky.length 1 W (by decide) (by omega)
     rw [Sto.big_one] at this
     exact this)
    obtain ⟨R, hR⟩ : ∃ R, [1] ++ [UInt8.ofNat ky.length] ++ ky = R := ⟨_, rfl⟩
    have HAP1 : Hid (({ data := #[1] } : ByteArray) ++ { data := #[UInt8.ofNat ky.length] } = { data := #[1, UInt8.ofNat ky.length] }) := Lib.hid (bytes_append [1] [UInt8.ofNat ky.length])
    have HAP : Hid (({ data := #[1, UInt8.ofNat ky.length] } : ByteArray) ++ ⟨ky.toArray⟩ = ⟨R.toArray⟩) := Lib.hid (by rw [← hR]; exact bytes_append [1, UInt8.ofNat ky.length] ky)
    rw [hR] at HSN
    have hRl : R.length = 2 + ky.length := by rw [← hR]; simp; omega
    clear he1 hR
    have hlk : ¬ 9223372036854775807 < 2 + ky.length := by omega
    go_wp2_with fail
    try rw [hgb]
    try rw [hW1]
    have hS0 : W1.drew.cell? ⟨gb, 1, none⟩ = some (.string ⟨ky.toArray⟩) := cell_of HNW.out rfl
    refine wp_region_heldL (S := fun w' => w'.cell? ⟨gb, 1, none⟩ = some (.string ⟨ky.toArray⟩)) (by kernel_rfl) ?_
    refine planned [0, 2, 3, 4, 7, 8] ?_
    iterate 6 (refine planned_take (v := ?_) rfl (by kernel_rfl) (by kernel_rfl) (by kernel_rfl) (fun _ _ _ h => h) ?_ (by assumption) ?_; rotate_left; (focus (first | (refine Or.inr ⟨by rfl, ?_⟩; with_reducible rfl) | (refine Or.inl ⟨by rfl, ?_⟩; (intro w hSw; (try dsimp only at hSw); go_simp); try with_reducible rfl))); try simp only [Act.put, List.setIfInBounds_toArray, List.set_cons_zero, List.set_cons_succ])
    refine planned_end ?_
    refine wpAnyH_oneL (i := 1) rfl (by kernel_rfl) ?_
    intro K hK
    rw [if_pos (by rfl)]
    go_simp
    go_at_call 123
    refine (HNK.out _).mono ?_
    rintro e y1 ⟨rfl, b1⟩
    have B1 := Lib.hid (bthen ((Below.refl _ W1).drew) b1)
    have hS1 := cell_later b1 hS0
    clear b1
    refine hK _ _ hS1 ?_
    clear hK K
    try simp only [Act.put, List.setIfInBounds_toArray, List.set_cons_zero, List.set_cons_succ]
    refine wpAnyH_oneL (i := 5) rfl (by kernel_rfl) ?_
    intro K hK
    rw [if_pos (by rfl)]
    go_simp
    go_at_call 123
    refine (HNL.out _).mono ?_
    rintro e y2 ⟨rfl, b2⟩
    have B2 := Lib.hid (bthen B1.out b2)
    have hS2 := cell_later b2 hS1
    have HU2 := Lib.hid (HU1.out.below B2.out)
    clear b2
    refine hK _ _ hS2 ?_
    clear hK K
    try simp only [Act.put, List.setIfInBounds_toArray, List.set_cons_zero, List.set_cons_succ]
    refine planned [6, 9] ?_
    iterate 2 (refine planned_take (v := ?_) rfl (by kernel_rfl) (by kernel_rfl) (by kernel_rfl) (fun _ _ _ h => h) ?_ (by assumption) ?_; rotate_left; (focus (first | (refine Or.inr ⟨by rfl, ?_⟩; with_reducible rfl) | (refine Or.inl ⟨by rfl, ?_⟩; (intro w hSw; (try dsimp only at hSw); go_simp); try with_reducible rfl))); try simp only [Act.put, List.setIfInBounds_toArray, List.set_cons_zero, List.set_cons_succ])
    refine planned_end ?_
    refine wpAnyH_oneL (i := 10) rfl (by kernel_rfl) ?_
    intro K hK
    rw [if_pos (by rfl)]
    go_simp
    go_at_call 122
    rw [HAP1.out, HAP.out]
    refine (write_any B B (H ++ Sto.enc (c.take j)) R y2 HU2.out (by simp; omega)).mono ?_
    rintro e y3 ⟨⟨n3, rfl⟩, hu3, hb3, hk3⟩
    have HU3 := Lib.hid hu3
    have HNW3 := Lib.hid (hk3.cells (stays HNW.out B2.out) (by decide))
    have HB3 : Hid (Below B w y3) := Lib.hid ((HBW.out.trans (B2.out.mono (by have := HU1.out.lt; omega))).trans hb3)
    have hS3 : y3.cell? ⟨gb, 1, none⟩ = some (.string ⟨ky.toArray⟩) := cell_of HNW3.out rfl
    have e0' := cell_of (i := 0) HNW3.out rfl
    clear hu3 hb3 hk3
    refine hK _ _ hS3 ?_
    clear hK K
    try simp only [Act.put, List.setIfInBounds_toArray, List.set_cons_zero, List.set_cons_succ]
    refine wpAnyH_done (by kernel_rfl) ?_ _
    clear hS0 hS1 hS2
    have HNV : Hid (∀ W, Calls Tryz.prog 123 #[.int .i64 vl.length, .int .i64 2] W fun e w' => e = .returned (.string ⟨(Sha.big vl.length 2).toArray⟩) ∧ Below W.heap.size W w') := Lib.hid (fun W => number11_any vl.length 2 W (by decide) (by omega))
    obtain ⟨V2, hV2⟩ : ∃ R, Sha.big vl.length 2 = R := ⟨_, rfl⟩
    have hV2l : V2.length = 2 := by rw [← hV2]; exact Sha.big_length _ _
    rw [hV2] at HNV HSN
    have HAP3 := Lib.hid (bytes_append V2 vl)
    clear hV2
    have hlv : ¬ 9223372036854775807 < V2.length + vl.length := by omega
    have hlv2 : ¬ 9223372036854775807 < 2 + vl.length := by omega
    go_wp2_with fail
    have hT0 : y3.drew.cell? ⟨gb, 2, none⟩ = some (.string ⟨vl.toArray⟩) := cell_of HNW3.out rfl
    refine wp_region_heldL (S := fun w' => w'.cell? ⟨gb, 2, none⟩ = some (.string ⟨vl.toArray⟩)) (by kernel_rfl) ?_
    have hS0 := hT0
    refine planned [0, 1, 2, 4, 5] ?_
    iterate 5 (refine planned_take (v := ?_) rfl (by kernel_rfl) (by kernel_rfl) (by kernel_rfl) (fun _ _ _ h => h) ?_ (by assumption) ?_; rotate_left; (focus (first | (refine Or.inr ⟨by rfl, ?_⟩; with_reducible rfl) | (refine Or.inl ⟨by rfl, ?_⟩; (intro w hSw; (try dsimp only at hSw); go_simp); try with_reducible rfl))); try simp only [Act.put, List.setIfInBounds_toArray, List.set_cons_zero, List.set_cons_succ])
    refine planned_end ?_
    refine wpAnyH_oneL (i := 3) rfl (by kernel_rfl) ?_
    intro K hK
    rw [if_pos (by rfl)]
    go_simp
    go_at_call 123
    refine (HNV.out _).mono ?_
    rintro e y4 ⟨rfl, b4⟩
    have B4 := Lib.hid (bthen ((Below.refl _ y3).drew) b4)
    have hT1 := cell_later b4 hT0
    have HU4 := Lib.hid (HU3.out.below B4.out)
    clear b4
    refine hK _ _ hT1 ?_
    clear hK K
    try simp only [Act.put, List.setIfInBounds_toArray, List.set_cons_zero, List.set_cons_succ]
    refine wpAnyH_takeL (i := 6) (v := ?_) rfl (by kernel_rfl) (by kernel_rfl) (by kernel_rfl) (fun _ _ _ h => h) ?_ (by assumption) ?_; rotate_left; focus (first | (refine Or.inr ⟨by rfl, ?_⟩; with_reducible rfl) | (refine Or.inl ⟨by rfl, ?_⟩; (intro w hSw; (try dsimp only at hSw); go_simp); try with_reducible rfl))
    try simp only [Act.put, List.setIfInBounds_toArray, List.set_cons_zero, List.set_cons_succ]
    refine wpAnyH_oneL (i := 7) rfl (by kernel_rfl) ?_
    intro K hK
    rw [if_pos (by rfl)]
    go_simp
    go_at_call 122
    rw [HAP3.out]
    refine (write_any B B (H ++ Sto.enc (c.take j) ++ R) (V2 ++ vl) y4 HU4.out (by simp; omega)).mono ?_
    rintro e y5 ⟨⟨n5, rfl⟩, hu5, hb5, hk5⟩
    have HU5 := Lib.hid hu5
    have HB5 : Hid (Below B w y5) := Lib.hid ((HB3.out.trans (B4.out.mono (by have := HU3.out.lt; omega))).trans hb5)
    have hT3 : y5.cell? ⟨gb, 2, none⟩ = some (.string ⟨vl.toArray⟩) := cell_of (hk5.cells (stays HNW3.out B4.out) (by decide)) rfl
    clear hu5 hb5 hk5
    refine hK _ _ hT3 ?_
    clear hK K
    try simp only [Act.put, List.setIfInBounds_toArray, List.set_cons_zero, List.set_cons_succ]
    refine wpAnyH_done (by kernel_rfl) ?_ _
    go_wp2
    go_roundw
    all_goals first
     | (simp [intOf]; omega)
     | exact ⟨j + 1, by go_num, by omega, by rw [HSN.out]; have := HU5.out; simp only [List.append_assoc] at this ⊢; exact this, HB5.out⟩
  ·have hjc : j = c.length := by omega
   have HU2 : Hid (BuiAt wr B B (H ++ Sto.enc c)) := Lib.hid (by have := HU.out; rw [hjc, List.take_length] at this; exact this)
   go_wp2_with fail
   refine (Tryz.Builder_String_any B B (H ++ Sto.enc c) wr HU2.out (by have := HU.out.lt; omega)).mono ?_
   rintro e w3 ⟨rfl, hb3⟩
   go_wp2_with fail
   go_ret
   exact ⟨by rw [HE.out]; rfl, by rw [hB]; exact HB.out.trans hb3⟩
end Go.Proofs.YtpjpknndfhablaaGreat
