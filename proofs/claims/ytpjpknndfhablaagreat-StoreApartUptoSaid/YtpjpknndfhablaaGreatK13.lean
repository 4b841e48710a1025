/- The walk of wal.Open. Walks of the document's disk: Files, Read, die, Crash, Sync, Cut, New. Walks of the document's disk: Cut. Walks of the document's disk: New, Append; Same. -/
import Derived.Deep.QuietTactic
import Derived.BigQuiet
import Derived.WalkSmall
import Derived.Test.YtpjpknndfhablaaGreatK5
import Derived.Test.YtpjpknndfhablaaGreatK12
namespace Go.Proofs.YtpjpknndfhablaaGreat
open Go.RowKit
theorem results_tmp4 {fn : Func} {t u v x : Tmp} (h : fn.results = #[.tmp t, .tmp u, .tmp v, .tmp x]) (tmps : Array Value) (P : Program) (w : World) :
    (results fn tmps).run P w = .ok (.tuple #[tmps.getD t undef, tmps.getD u undef, tmps.getD v undef, tmps.getD x undef]) w := by
  simp [results, h]
/-- Records in a slice of their own, no longer than they are many. -/
def RecsAt (w : World) (base : Nat) (v : Value) (rs : List (List UInt8)) : Prop :=
  ∃ g cur, v = .slice (some ⟨g, 0, none⟩) rs.length rs.length ∧ base ≤ g ∧ w.heap[g]? = some (.cells cur 9 (0, 0)) ∧ rs.length ≤ cur.size ∧ ∀ (j : Nat) (s : List UInt8), rs[j]? = some s → cur[j]? = some (.string ⟨s.toArray⟩)
/-- How Open ends. -/
def OpenEnds (c : Nat) (w : World) (o : Option Wal.Opened) (d d' : DS) (m : Nat) (rb : Option Nat) (r : Int) (e : Ending) (w' : World) : Prop :=
  ∃ v s rv, e = .returned (.tuple #[v, .string s, rv, .int .i64 r]) ∧
    (∀ q, o = some q → s = ⟨q.snap.toArray⟩ ∧ RecsAt w' w.heap.size rv q.rs ∧ ∃ x, v = .pointer (some ⟨x, 0, none⟩) ∧ w.heap.size ≤ x ∧ LogAt w' x c q.l) ∧ (o = none → v = .pointer none ∧ s = ⟨#[]⟩ ∧ rv = .slice none 0 0) ∧
    ∃ rb', DiskAt w' c d' m rb' ∧ Newer w rb rb' ∧ Touch (own2 c rb) w w' ∧ (d'.dead = true → d.dead = false → rb' = none)
theorem OpenEnds.refused {c : Nat} {w w' : World} {d : DS} {m : Nat} {rb : Option Nat} {r : Int} (h : DiskAt w c d m rb) (hb : Below w.heap.size w w') : OpenEnds c w none d d m rb r (.returned (.tuple #[.pointer none, .string ⟨#[]⟩, .slice none 0 0, .int .i64 r])) w' :=
  ⟨_, _, _, rfl, (fun _ h => by cases h), fun _ => ⟨rfl, rfl, rfl⟩, rb, h.below hb, Newer.refl _ _, Touch.of_below hb, fun h1 h2 => by rw [h1] at h2; cases h2⟩
theorem open_boxes (w : World) (q : Nat) {W : World} (h : W = ((w.alloc (.cells #[.slice (some ⟨q, 0, none⟩) 2 2] 22)).alloc (.cells #[.int .i64 0] 3)).alloc (.cells #[.int .i64 1] 3)) :
    W.heap[w.heap.size]? = some (.cells #[.slice (some ⟨q, 0, none⟩) 2 2] 22 (0, 0)) ∧ W.heap[w.heap.size + 1]? = some (.cells #[.int .i64 0] 3 (0, 0)) ∧ W.heap[w.heap.size + 1 + 1]? = some (.cells #[.int .i64 1] 3 (0, 0)) ∧ Below w.heap.size w W := by
  subst h
  have n0 := heap_new w (.cells #[.slice (some ⟨q, 0, none⟩) 2 2] 22)
  have b0 := balloc w (.cells #[.slice (some ⟨q, 0, none⟩) 2 2] 22)
  have z0 : (w.alloc (.cells #[.slice (some ⟨q, 0, none⟩) 2 2] 22)).heap.size = w.heap.size + 1 := by simp
  generalize w.alloc (.cells #[.slice (some ⟨q, 0, none⟩) 2 2] 22) = wa at n0 b0 z0 ⊢
  have n1 := heap_new wa (.cells #[.int .i64 0] 3)
  have b1 := balloc wa (.cells #[.int .i64 0] 3)
  have z1 : (wa.alloc (.cells #[.int .i64 0] 3)).heap.size = w.heap.size + 1 + 1 := by simp [z0]
  generalize wa.alloc (.cells #[.int .i64 0] 3) = wb at n1 b1 z1 ⊢
  have n2 := heap_new wb (.cells #[.int .i64 1] 3)
  have b2 := balloc wb (.cells #[.int .i64 1] 3)
  rw [z0] at n1
  rw [z1] at n2
  exact ⟨stays n0 (bthen b1 b2), stays n1 b2, n2, bthen b0 (bthen b1 b2)⟩
/-- What stands in the loop of Open: where it reads, what it has read. -/
structure ReadAt (W9 wr : World) (c : Nat) (G : List UInt8) (p0 A : Nat) (f : Bool) (v : Value) (p : Nat) (pre : List (List UInt8)) : Prop where
  old : Below W9.heap.size W9 wr
  pos : wr.heap[W9.heap.size]? = some (.cells #[.int .i64 p] 3 (0, 0))
  log : LogAt wr (W9.heap.size + 1) c { f := f, g := A, n := 0, dead := false }
  box : wr.heap[W9.heap.size + 1 + 1]? = some (.cells #[.pointer (some ⟨W9.heap.size + 1, 0, none⟩)] 98 (0, 0))
  row : wr.ownsRow (W9.heap.size + 3) 9 1 v pre.length (strs pre)
  some_ : ∃ g n cap, v = .slice (some ⟨g, 0, none⟩) n cap
  on : Wal.Onward G p0 p pre
  many : pre.length * 8 ≤ p
  le : p ≤ G.length
def boxOf (w : World) (b : Nat) : Nat := match w.cell? ⟨b, 0, none⟩ with | some (.int _ p) => p.toNat | _ => 0
theorem readAt_start (W9 : World) (c : Nat) (G : List UInt8) (p0 A : Nat) (f : Bool) (hle : p0 ≤ G.length) {WL : World} (h : WL = (((W9.alloc (.cells #[.int .i64 p0] 3)).alloc (.cells #[.pointer (some ⟨c, 0, none⟩), .int .i64 (DS.fi f), .int .u64 A, .int .i64 0, .bool false] 148)).alloc (.cells #[.pointer (some ⟨W9.heap.size + 1, 0, none⟩)] 98)).alloc (.cells #[] 9)) :
    ReadAt W9 WL c G p0 A f (.slice (some ⟨W9.heap.size + 1 + 1 + 1, 0, none⟩) 0 0) p0 [] := by
  subst h
  have n0 := heap_new W9 (.cells #[.int .i64 p0] 3)
  have b0 := balloc W9 (.cells #[.int .i64 p0] 3)
  have z0 : (W9.alloc (.cells #[.int .i64 p0] 3)).heap.size = W9.heap.size + 1 := by simp
  generalize W9.alloc (.cells #[.int .i64 p0] 3) = wa at n0 b0 z0 ⊢
  have n1 := heap_new wa (.cells #[.pointer (some ⟨c, 0, none⟩), .int .i64 (DS.fi f), .int .u64 A, .int .i64 0, .bool false] 148)
  have b1 := balloc wa (.cells #[.pointer (some ⟨c, 0, none⟩), .int .i64 (DS.fi f), .int .u64 A, .int .i64 0, .bool false] 148)
  have z1 : (wa.alloc (.cells #[.pointer (some ⟨c, 0, none⟩), .int .i64 (DS.fi f), .int .u64 A, .int .i64 0, .bool false] 148)).heap.size = W9.heap.size + 1 + 1 := by simp [z0]
  generalize wa.alloc (.cells #[.pointer (some ⟨c, 0, none⟩), .int .i64 (DS.fi f), .int .u64 A, .int .i64 0, .bool false] 148) = wb at n1 b1 z1 ⊢
  have n2 := heap_new wb (.cells #[.pointer (some ⟨W9.heap.size + 1, 0, none⟩)] 98)
  have b2 := balloc wb (.cells #[.pointer (some ⟨W9.heap.size + 1, 0, none⟩)] 98)
  have z2 : (wb.alloc (.cells #[.pointer (some ⟨W9.heap.size + 1, 0, none⟩)] 98)).heap.size = W9.heap.size + 1 + 1 + 1 := by simp [z1]
  generalize wb.alloc (.cells #[.pointer (some ⟨W9.heap.size + 1, 0, none⟩)] 98) = wc at n2 b2 z2 ⊢
  have n3 := heap_new wc (.cells #[] 9)
  have b3 := balloc wc (.cells #[] 9)
  rw [z0] at n1
  rw [z1] at n2
  rw [z2] at n3
  exact ⟨bthen b0 (bthen b1 (bthen b2 b3)), stays n0 (bthen b1 (bthen b2 b3)), stays n1 (bthen b2 b3), stays n2 b3, ⟨rfl, .inr ⟨W9.heap.size + 1 + 1 + 1, 0, #[], rfl, by omega, n3, Nat.le_refl _, by decide, rfl, rfl⟩⟩, ⟨_, _, _, rfl⟩, Wal.Onward.start G p0, by simp, hle⟩
theorem strs_snoc (pre : List (List UInt8)) (s : List UInt8) : strs (pre ++ [s]) = strs pre ++ [.string ⟨s.toArray⟩] := by simp [strs]
theorem read_step {W9 wr w' w1 : World} {c : Nat} {G : List UInt8} {p0 A : Nat} {f : Bool} {v v' : Value} {p : Nat} {pre : List (List UInt8)} (h : ReadAt W9 wr c G p0 A f v p pre) (hb : Below wr.heap.size wr w') {s : List UInt8} (hs : Wal.whole G p 65536 = (s, true))
    (ho : w1.ownsRow (W9.heap.size + 3) 9 1 v' (pre.length + 1) (strs pre ++ [.string ⟨s.toArray⟩])) (hg : (w'.alloc (.cells #[.string ⟨s.toArray⟩] 9)).grownBy w1 v.ownBlock) {n : Int} (hn : n = ((p + 8 + s.length : Nat) : Int)) :
    ReadAt W9 (w1.setCell ⟨W9.heap.size, 0, none⟩ (.int .i64 n)) c G p0 A f v' (p + 8 + s.length) (pre ++ [s]) := by
  subst hn
  have hba := bthen hb (balloc w' (.cells #[.string ⟨s.toArray⟩] 9))
  have hlt : ∀ k, v.ownBlock = some k → W9.heap.size + 3 ≤ k ∧ k < wr.heap.size := fun k hk => by
    rcases h.row.2 with ⟨hv, _⟩ | ⟨g, cap, cur, hv, hb, hg', _⟩
    · rw [hv] at hk; cases hk
    · rw [hv] at hk
      have e1 : g = k := Option.some.inj hk
      subst e1
      exact ⟨hb, heap_lt hg'⟩
  have ht : Touch (fun k => v.ownBlock = some k) wr w1 := Touch.trans (Touch.of_below hba) (touch_of_grown hg) (fun _ _ h => h)
  have far : ∀ {b : Nat} {o : Obj}, wr.heap[b]? = some o → b < W9.heap.size + 3 → b ≠ W9.heap.size → (w1.setCell ⟨W9.heap.size, 0, none⟩ (.int .i64 ((p + 8 + s.length : Nat) : Int))).heap[b]? = some o := fun {b o} hbo hlt1 hne =>
    (heap_set_ne _ hne).trans ((ht.block b (heap_lt hbo) (fun e => by have := (hlt b e).1; omega)).trans hbo)
  have hw := Wal.whole_le (file := G) (p := p) (most := 65536) (by rw [hs])
  rw [hs] at hw
  refine ⟨?_, ?_, far h.log (by omega) (by omega), far h.box (by omega) (by omega), ?_, ?_, h.on.step hs, ?_, hw.1⟩
  · exact (h.old.trans (ht.below h.old.size (fun k hk e => by have := (hlt k e).1; omega))).setCell (p := ⟨W9.heap.size, 0, none⟩) (Nat.le_refl _) _
  · exact heap_set (i := 0) _ ((ht.block _ (heap_lt h.pos) (fun e => by have := (hlt _ e).1; omega)).trans h.pos)
  · rw [strs_snoc, List.length_append]
    have : ∀ k, v'.ownBlock = some k → k ≠ W9.heap.size := fun k hk => by
      rcases ho.2 with ⟨hv, _⟩ | ⟨g, cap, cur, hv, hb, hg', _⟩
      · rw [hv] at hk; cases hk
      · rw [hv] at hk
        have e1 : g = k := Option.some.inj hk
        subst e1
        omega
    exact own_touch ho ((Touch.refl (· = W9.heap.size) w1).setCell _ (fun _ => rfl)) (fun k hk e => this k hk e)
  · rcases ho.2 with ⟨_, h0⟩ | ⟨g, cap, cur, hv, _⟩
    · omega
    · exact ⟨g, _, cap, hv⟩
  · have := h.many
    simp only [List.length_append, List.length_cons, List.length_nil]
    omega
theorem box_of {w : World} {b p : Nat} (h : w.heap[b]? = some (.cells #[.int .i64 p] 3 (0, 0))) : boxOf w b = p := by
  unfold boxOf
  rw [(cells1 h).1]
  rfl
theorem pos_grown {W9 wr w' w1 : World} {c : Nat} {G : List UInt8} {p0 A : Nat} {f : Bool} {v : Value} {p : Nat} {pre : List (List UInt8)} (h : ReadAt W9 wr c G p0 A f v p pre) (hb : Below wr.heap.size wr w') {o : Obj} (hg : (w'.alloc o).grownBy w1 v.ownBlock) :
    w1.heap[W9.heap.size]? = some (.cells #[.int .i64 p] 3 (0, 0)) := by
  have hlt : ∀ k, v.ownBlock = some k → W9.heap.size + 3 ≤ k := fun k hk => by
    rcases h.row.2 with ⟨hv, _⟩ | ⟨g, cap, cur, hv, hb, hg', _⟩
    · rw [hv] at hk; cases hk
    · rw [hv] at hk
      have e1 : g = k := Option.some.inj hk
      subst e1
      exact hb
  have ht : Touch (fun k => v.ownBlock = some k) wr w1 := Touch.trans (Touch.of_below (bthen hb (balloc w' o))) (touch_of_grown hg) (fun _ _ h => h)
  exact (ht.block _ (heap_lt h.pos) (fun e => by have := hlt _ e; omega)).trans h.pos
theorem ReadAt.slice {W9 wr : World} {c : Nat} {G : List UInt8} {p0 A : Nat} {f : Bool} {v : Value} {p : Nat} {pre : List (List UInt8)} (h : ReadAt W9 wr c G p0 A f v p pre) : ∃ g cap, v = .slice (some ⟨g, 0, none⟩) pre.length cap := by
  rcases h.row.2 with ⟨hv, h0⟩ | ⟨g, cap, cur, hv, _⟩
  · obtain ⟨g, n, cap, h'⟩ := h.some_
    rw [hv] at h'
    cases h'
  · exact ⟨g, cap, hv⟩
theorem read_end {W9 wr w' WA : World} {c : Nat} {G : List UInt8} {p0 A : Nat} {f : Bool} {v : Value} {p : Nat} {pre : List (List UInt8)} (h : ReadAt W9 wr c G p0 A f v p pre) (hb : Below wr.heap.size wr w') (hWA : w'.setCell ⟨W9.heap.size + 1, 3, none⟩ (.int .i64 (pre.length : Nat)) = WA) :
    Below W9.heap.size W9 WA ∧ WA.heap[W9.heap.size]? = some (.cells #[.int .i64 p] 3 (0, 0)) ∧ LogAt WA (W9.heap.size + 1) c { f := f, g := A, n := pre.length, dead := false } ∧ WA.heap[W9.heap.size + 1 + 1]? = some (.cells #[.pointer (some ⟨W9.heap.size + 1, 0, none⟩)] 98 (0, 0)) ∧
      WA.ownsRow (W9.heap.size + 3) 9 1 v pre.length (strs pre) := by
  subst hWA
  refine ⟨(bthen h.old hb).setCell (p := ⟨W9.heap.size + 1, 3, none⟩) (by show W9.heap.size ≤ W9.heap.size + 1; omega) _, (heap_set_ne _ (by omega)).trans (stays h.pos hb), (h.log.below hb).setN pre.length, (heap_set_ne _ (by omega)).trans (stays h.box hb), ?_⟩
  refine own_touch (own_touch h.row (Touch.of_below (S := fun _ => False) hb) (fun _ _ h => h)) ((Touch.refl (· = W9.heap.size + 1) w').setCell _ (fun _ => rfl)) (fun k hk e => ?_)
  rcases h.row.2 with ⟨hv, _⟩ | ⟨g, cap, cur, hv, hb', _⟩
  · rw [hv] at hk; cases hk
  · rw [hv] at hk
    have e1 : g = k := Option.some.inj hk
    subst e1
    omega
theorem recs_kept {WA w1 : World} {c b0 base gg cap x : Nat} {d : DS} {m : Nat} {rb : Option Nat} {pre : List (List UInt8)} (h : WA.ownsRow b0 9 1 (.slice (some ⟨gg, 0, none⟩) pre.length cap) pre.length (strs pre)) (hd : DiskAt WA c d m rb) (hx : x < b0) (ht : Touch (own3 c rb x) WA w1) (hbase : base ≤ b0) :
    RecsAt w1 base (.slice (some ⟨gg, 0, none⟩) pre.length pre.length) pre ∧ pre.length ≤ cap := by
  rcases h.2 with ⟨h0, _⟩ | ⟨g, cap', cur, hv, hb, hg, h1, h2, h3, h4⟩
  · cases h0
  · cases hv
    refine ⟨⟨gg, cur, rfl, by omega, (ht.block gg (heap_lt hg) ?_).trans hg, by omega, ?_⟩, h1⟩
    · rintro (h | h)
      · exact not_own hg (by decide) (by decide) hd h
      · omega
    · intro j s hs
      have h5 : (strs pre)[j]? = some (.string ⟨s.toArray⟩) := by simp [strs, hs]
      rw [← h4, List.getElem?_take] at h5
      split at h5
      · simpa using h5
      · cases h5
theorem RecsAt.below {w w' : World} {base : Nat} {v : Value} {rs : List (List UInt8)} (h : RecsAt w base v rs) (hb : Below w.heap.size w w') : RecsAt w' base v rs := by
  obtain ⟨g, cur, hv, hb', hg, rest⟩ := h
  exact ⟨g, cur, hv, hb', stays hg hb, rest⟩
theorem open_worked {x c : Nat} {l : Wal.LS} {d E : DS} {m : Nat} {rb : Option Nat} {w WA w1 w2 : World} (h : Worked x c l d E m rb WA w1) (hb : Below w.heap.size w WA) (hx : w.heap.size ≤ x) (hq : Below w1.heap.size w1 w2) :
    ∃ rb', DiskAt w2 c E m rb' ∧ Newer w rb rb' ∧ Touch (own2 c rb) w w2 ∧ (E.dead = true → d.dead = false → rb' = none) := by
  obtain ⟨rb', h1, h2, h3⟩ := h.disk
  exact ⟨rb', h1.below hq, h2.later hb.size, Touch.trans (Touch.trans (Touch.of_below hb) h.touch (fun k hk h => h.resolve_right (by omega))) (Touch.of_below hq) (fun _ _ h => h), h3⟩
theorem worked_other {WA w1 : World} {c x k : Nat} {d : DS} {m : Nat} {rb : Option Nat} (ht : Touch (own3 c rb x) WA w1) (hd : DiskAt WA c d m rb) {cur : Array Value} {T : TypeId} {fr : Nat × Nat} (hk : WA.heap[k]? = some (.cells cur T fr)) (h1 : T ≠ 89) (h2 : T ≠ 106) (hx : k ≠ x) : w1.heap[k]? = some (.cells cur T fr) := by
  refine (ht.block k (heap_lt hk) ?_).trans hk
  rintro (h | h)
  · exact not_own hk h1 h2 hd h
  · exact hx h
theorem counts_le {G s : List UInt8} {A p : Nat} (h : Wal.counts G = (A, s, p)) (h0 : A ≠ 0) : p ≤ G.length ∧ A ≤ 4611686018427387904 ∧ s.length ≤ 524288 := by
  unfold Wal.counts at h
  split at h
  · cases h; exact absurd rfl h0
  · split at h
    · cases h; exact absurd rfl h0
    · rename_i h1 h2
      have hok : (Wal.whole G 12 524288).2 = true := by
        cases hb : (Wal.whole G 12 524288).2
        · exact absurd (.inl hb) h2
        · rfl
      have hw := Wal.whole_le hok
      simp only [Prod.mk.injEq] at h
      obtain ⟨rfl, rfl, rfl⟩ := h
      refine ⟨by omega, ?_, hw.2⟩
      have := fun h3 => h2 (.inr h3)
      omega
theorem boxes_swap {w W7 W8 : World} {N q c0 n : Nat} {cur : Array Value} (h : W8 = (W7.setCell ⟨N + 1, 0, none⟩ (.int .i64 1)).setCell ⟨N + 1 + 1, 0, none⟩ (.int .i64 0))
    (m0 : W7.heap[N]? = some (.cells #[.slice (some ⟨q, 0, none⟩) 2 2] 22 (0, 0))) (m1 : W7.heap[N + 1]? = some (.cells #[.int .i64 0] 3 (0, 0))) (m2 : W7.heap[N + 1 + 1]? = some (.cells #[.int .i64 1] 3 (0, 0)))
    (hq : W7.heap[q]? = some (.cells cur 9 (0, 0))) (hn : W7.heap[n]? = some (.cells #[.pointer (some ⟨c0, 0, none⟩)] 23 (0, 0))) (h1 : ¬ q = N + 1) (h2 : ¬ q = N + 1 + 1) (hnN : n < N) (hb : Below w.heap.size w W7) (hw : w.heap.size ≤ N) :
    W8.heap[N]? = some (.cells #[.slice (some ⟨q, 0, none⟩) 2 2] 22 (0, 0)) ∧ W8.heap[N + 1]? = some (.cells #[.int .i64 1] 3 (0, 0)) ∧ W8.heap[N + 1 + 1]? = some (.cells #[.int .i64 0] 3 (0, 0)) ∧
      W8.heap[q]? = some (.cells cur 9 (0, 0)) ∧ W8.heap[n]? = some (.cells #[.pointer (some ⟨c0, 0, none⟩)] 23 (0, 0)) ∧ Below w.heap.size w W8 := by
  subst h
  refine ⟨(heap_set_ne _ (by omega)).trans ((heap_set_ne _ (by omega)).trans m0), (heap_set_ne _ (by omega)).trans ?_, ?_, (heap_set_ne _ h2).trans ((heap_set_ne _ h1).trans hq), (heap_set_ne _ (by omega)).trans ((heap_set_ne _ (by omega)).trans hn), (hb.setCell (p := ⟨N + 1, 0, none⟩) (by show w.heap.size ≤ N + 1; omega) _).setCell (p := ⟨N + 1 + 1, 0, none⟩) (by show w.heap.size ≤ N + 1 + 1; omega) _⟩
  · exact heap_set (i := 0) (.int .i64 1) m1
  · exact heap_set (i := 0) (.int .i64 0) ((heap_set_ne _ (by omega)).trans m2)
set_option maxHeartbeats 4000000 in
set_option maxRecDepth 100000 in
theorem wopen_any (c : Nat) (w : World) (d : DS) (m : Nat) (rb : Option Nat) (h : DiskAt w c d m rb) :
    Calls Tryz.prog 47 #[.pointer (some ⟨c, 0, none⟩)] w (OpenEnds c w (Wal.open_ d).1 d (Wal.open_ d).2.1 m rb (Wal.open_ d).2.2) := by
  have hmf : ∀ (fn : Fn) (first cap : Array Value) (w : World), (Instr.makeFunc fn first cap).run Tryz.prog w = .ok (.func fn first cap) w := fun _ _ _ _ => rfl
  have HD := Lib.hid h
  have hok := h.1
  clear h
  cases hdd : d.dead with
  | true =>
    have HX : Hid (Wal.open_ d = (none, d, 2)) := Lib.hid (by unfold Wal.open_; rw [if_pos hdd])
    go_enter Tryz.func47, Tryz.ntmps47
    go_wp2_with fail
    have b0 := balloc w (.cells #[.pointer (some ⟨c, 0, none⟩)] 23)
    generalize w.alloc (.cells #[.pointer (some ⟨c, 0, none⟩)] 23) = w0 at b0 ⊢
    refine (dead_any c w0 d m rb (HD.out.below b0)).mono ?_
    rw [hdd]
    rintro e w1 ⟨rfl, rfl⟩
    clear hdd
    have B0 := Lib.hid b0
    clear b0
    go_wp2_with fail
    refine bodyPost_ret (results_tmp4 rfl _ _ _) rfl ?_
    rw [HX.out]
    exact OpenEnds.refused HD.out B0.out
  | false =>
    have HDD := Lib.hid hdd
    clear hdd
    obtain ⟨F0, hF0⟩ : ∃ F, d.file false = F := ⟨_, rfl⟩
    obtain ⟨F1, hF1⟩ : ∃ F, d.file true = F := ⟨_, rfl⟩
    have hl0 : F0.length ≤ 1048576 := by rw [← hF0]; exact hok.base_len' false
    have hl1 : F1.length ≤ 1048576 := by rw [← hF1]; exact hok.base_len' true
    have HF0 := Lib.hid hF0
    have HF1 := Lib.hid hF1
    clear hF0 hF1
    go_enter Tryz.func47, Tryz.ntmps47
    go_wp2_with fail
    have n0 := heap_new w (.cells #[.pointer (some ⟨c, 0, none⟩)] 23)
    have b0 := balloc w (.cells #[.pointer (some ⟨c, 0, none⟩)] 23)
    generalize w.alloc (.cells #[.pointer (some ⟨c, 0, none⟩)] 23) = w0 at n0 b0 ⊢
    refine (dead_any c w0 d m rb (HD.out.below b0)).mono ?_
    rw [HDD.out]
    rintro e w1 ⟨rfl, rfl⟩
    have N0 := Lib.hid n0
    have B0 := Lib.hid b0
    obtain ⟨e0, _, _⟩ := cells1 n0
    clear n0 b0
    go_wp2_with fail
    refine (files_any c w0 d m rb (HD.out.below B0.out)).mono ?_
    rw [HF0.out, HF1.out]
    rintro e w2 ⟨q, rfl, hq, htwo, b2⟩
    have B2 := Lib.hid (bthen B0.out b2)
    have N2 := Lib.hid (stays N0.out b2)
    have N2h := Lib.hid (stays N0.out b2)
    have TW2 := Lib.hid htwo
    obtain ⟨cur, hcur, hc0, hc1⟩ := htwo
    have HQ := Lib.hid hcur
    have hqlt := heap_lt hcur
    have hqlt1 : q < w2.heap.size + 1 := by omega
    have hqlt2 : q < w2.heap.size + 1 + 1 := by omega
    have q0 := cell_of hcur hc0
    have q1 := cell_of hcur hc1
    clear b2 hcur e0
    obtain ⟨A, sa, pa, hA⟩ : ∃ A sa pa, Wal.counts F0 = (A, sa, pa) := ⟨_, _, _, rfl⟩
    obtain ⟨B, sb, pb, hB⟩ : ∃ B sb pb, Wal.counts F1 = (B, sb, pb) := ⟨_, _, _, rfl⟩
    have HA := Lib.hid hA
    have HB := Lib.hid hB
    clear hA hB
    go_wp2_with fail
    obtain ⟨W5, hW5⟩ : ∃ W5, ((w2.alloc (.cells #[.slice (some ⟨q, 0, none⟩) 2 2] 22)).alloc (.cells #[.int .i64 0] 3)).alloc (.cells #[.int .i64 1] 3) = W5 := ⟨_, rfl⟩
    obtain ⟨m0, m1, m2, b5⟩ := open_boxes w2 q hW5.symm
    rw [hW5]
    have hne1 : ¬ q = w2.heap.size + 1 := by omega
    have hne2 : ¬ q = w2.heap.size + 1 + 1 := by omega
    clear hW5 q0 q1 hqlt hqlt1 hqlt2
    refine (counted_any F0 W5 (by omega)).mono ?_
    rw [HA.out]
    rintro e W6 ⟨rfl, b6⟩
    have b56 := bthen b5 b6
    have M0 := Lib.hid (stays m0 b6)
    have M1 := Lib.hid (stays m1 b6)
    have M2 := Lib.hid (stays m2 b6)
    have B6 := Lib.hid (bthen B2.out b56)
    have N6 := Lib.hid (stays N2.out b56)
    have Q6 := Lib.hid (stays HQ.out b56)
    clear m0 m1 m2 b5 b6 b56 N2 HQ
    obtain ⟨s0, _, _⟩ := cells1 M0.out
    have q1 := cell_of Q6.out hc1
    go_wp2_with fail
    clear s0 q1
    refine (counted_any F1 W6 (by omega)).mono ?_
    rw [HB.out]
    rintro e W7 ⟨rfl, b7⟩
    have M0' := Lib.hid (stays M0.out b7)
    have M1' := Lib.hid (stays M1.out b7)
    have M2' := Lib.hid (stays M2.out b7)
    have B7 := Lib.hid (bthen B6.out b7)
    have N7 := Lib.hid (stays N6.out b7)
    have Q7 := Lib.hid (stays Q6.out b7)
    clear b7 M0 M1 M2 B6 N6 Q6
    obtain ⟨t1, t1f, _⟩ := cells1 M1'.out
    obtain ⟨t2, t2f, _⟩ := cells1 M2'.out
    have t1z := t1f 0
    have t2z := t2f 0
    obtain ⟨s0, _, _⟩ := cells1 M0'.out
    have q0 := cell_of Q7.out hc0
    have q1 := cell_of Q7.out hc1
    by_cases hab : A < B
    · go_wp2_with fail
      obtain ⟨W8, hW8⟩ : ∃ W8, (W7.setCell ⟨w2.heap.size + 1, 0, none⟩ (.int .i64 1)).setCell ⟨w2.heap.size + 1 + 1, 0, none⟩ (.int .i64 0) = W8 := ⟨_, rfl⟩
      obtain ⟨k0, k1, k2, kq, kn, kb⟩ := boxes_swap hW8.symm M0'.out M1'.out M2'.out Q7.out N7.out hne1 hne2 (by have := B2.out.size; have := heap_lt N2h.out; omega) B7.out B2.out.size
      rw [hW8]
      have M0 := Lib.hid k0
      have M1 := Lib.hid k1
      have M2 := Lib.hid k2
      have Q8 := Lib.hid kq
      have N8 := Lib.hid kn
      have B8 := Lib.hid kb
      clear hW8 k0 k1 k2 kq kn kb t1 t1f t1z t2 t2f t2z s0 q0 q1 M0' M1' M2' Q7 N7 B7
      have hcur0 := hc0
      have hcur1 := hc1
      have HBEST : Hid (Wal.best d = true) := Lib.hid (by unfold Wal.best; rw [HF0.out, HF1.out, HA.out, HB.out]; exact decide_eq_true (by simpa using hab))
      have HSH : Hid (Wal.shown d = (B, sb, pb)) := Lib.hid (by unfold Wal.shown; rw [HBEST.out]; first | rw [HF0.out, HA.out] | rw [HF1.out, HB.out])
      have HSR : Hid (Wal.shownRecs d = Wal.recs F1 pb) := Lib.hid (by unfold Wal.shownRecs; rw [HBEST.out, HSH.out]; first | rw [HF0.out] | rw [HF1.out])
      have HC0 := Lib.hid hc0
      have HC1 := Lib.hid hc1
      clear HA hc0 hc1
      have hcI := hcur1
      clear hcur0 hcur1
      refine (counted_any F1 W8 (by omega)).mono ?_
      rw [HB.out]
      rintro e W9 ⟨rfl, b9⟩
      have P0 := Lib.hid (stays M0.out b9)
      have P1 := Lib.hid (stays M1.out b9)
      have P2 := Lib.hid (stays M2.out b9)
      have PQ := Lib.hid (stays Q8.out b9)
      have PN := Lib.hid (stays N8.out b9)
      have PB := Lib.hid (bthen B8.out b9)
      clear b9 M0 M1 M2 Q8 N8 B8
      by_cases hA0 : B = 0
      · exact absurd hA0 (by omega)
      · have hA0' : ((B : Int) == 0) = false := by simp; omega
        have HLE := Lib.hid (counts_le HB.out hA0)
        obtain ⟨u0, _, _⟩ := cells1 PN.out
        obtain ⟨u1, _, _⟩ := cells1 P1.out
        go_wp2_with fail
        obtain ⟨WL, hWL⟩ : ∃ WL, (((W9.alloc (.cells #[.int .i64 pb] 3)).alloc (.cells #[.pointer (some ⟨c, 0, none⟩), .int .i64 1, .int .u64 B, .int .i64 0, .bool false] 148)).alloc (.cells #[.pointer (some ⟨W9.heap.size + 1, 0, none⟩)] 98)).alloc (.cells #[] 9) = WL := ⟨_, rfl⟩
        rw [hWL]
        have HST := Lib.hid (readAt_start W9 c F1 pb B true HLE.out.1 hWL.symm)
        clear hWL u0 u1 hA0'
        go_loopw [19] (fun v wr => ∃ p pre, ReadAt W9 wr c F1 pb B true v p pre) (fun _ wr => F1.length + 1 - boxOf wr W9.heap.size)
        case atStart =>
          exact ⟨_, _, HST.out⟩
        case round =>
          obtain ⟨p', pre, hr⟩ := hrel
          obtain ⟨gg, cap, hv⟩ := hr.slice
          subst hv
          have HR := Lib.hid hr
          have hple := hr.le
          have hmany := hr.many
          have hb3 := heap_lt hr.box
          obtain ⟨s, ok, hW⟩ : ∃ s ok, Wal.whole F1 p' 65536 = (s, ok) := ⟨_, _, rfl⟩
          have HW := Lib.hid hW
          obtain ⟨i0, _, _⟩ := cells1 (stays P0.out hr.old)
          obtain ⟨i1, _, _⟩ := cells1 (stays P1.out hr.old)
          have i2 := cell_of (stays PQ.out hr.old) hcI
          obtain ⟨i3, _, _⟩ := cells1 hr.pos
          have HKB : Hid (∀ w' : World, Below wr.heap.size wr w' → (Below wr.heap.size wr w' ∧ w'.cell? ⟨w2.heap.size, 0, none⟩ = some (.slice (some ⟨q, 0, none⟩) 2 2) ∧ w'.cell? ⟨w2.heap.size + 1, 0, none⟩ = some (.int .i64 1) ∧ w'.cell? ⟨q, 1, none⟩ = some (.string ⟨F1.toArray⟩) ∧ w'.cell? ⟨W9.heap.size, 0, none⟩ = some (.int .i64 p'))) :=
            fun w' hb => ⟨hb, cell_later hb i0, cell_later hb i1, cell_later hb i2, cell_later hb i3⟩
          clear hr hW
          go_wp2_with fail
          go_region_held3 (fun w' => Below wr.heap.size wr w' ∧ w'.cell? ⟨w2.heap.size, 0, none⟩ = some (.slice (some ⟨q, 0, none⟩) 2 2) ∧ w'.cell? ⟨w2.heap.size + 1, 0, none⟩ = some (.int .i64 1) ∧ w'.cell? ⟨q, 1, none⟩ = some (.string ⟨F1.toArray⟩) ∧ w'.cell? ⟨W9.heap.size, 0, none⟩ = some (.int .i64 p'))
            (first | exact HKB.out _ (Below.refl _ _).drew | exact HKB.out _ (bthen (by assumption : Below wr.heap.size wr _ ∧ _).1 (by assumption)))
            (first | (go_at_call 95; refine (whole_any F1 p' 65536 _ (by omega) (by omega) (by decide)).mono ?_; rw [HW.out]; rintro e w' ⟨rfl, hb⟩))
          rename_i hheld
          have HB1 := Lib.hid hheld.1
          clear hheld hb i0 i1 i2 i3 HKB
          cases ok with
          | true =>
            have hsl : p' + 8 + s.length ≤ F1.length := by have := (Wal.whole_le (file := F1) (p := p') (most := 65536) (by rw [HW.out])).1; rw [HW.out] at this; exact this
            have hs16 : s.length ≤ 1048576 := by omega
            go_wp2_with (first | (at_builtin; go_must (refine wpList_append_own2 _ rfl (.tmp 74) (.tmp 76) 22 rfl (W9.heap.size + 3) 9 1 16 _ Tryz.stringInfo Tryz.underlying22 rfl (by decide) _ pre.length (strs pre) rfl (own_touch HR.out.row (Touch.of_below (S := fun _ => False) (bthen HB1.out (balloc w' _))) (fun _ _ h => h)) ⟨w'.heap.size, 0, none⟩ 1 1 [.string ⟨s.toArray⟩] rfl rfl (fun i u hi => by rw [addr_add, Nat.zero_add]; exact cell_of (heap_new w' _) (by simpa using hi)) (by intro u hu; simp at hu; subst hu; rfl) (by unfold maxLen; omega) (by omega) (by have := HB1.out.size; simp; omega) ?_; intro v' w1 ho hgr _; obtain ⟨l0, l0f, l0l⟩ := cells1 (pos_grown HR.out HB1.out hgr); have l0z := l0f 0; have HO := Lib.hid ho; have HGR := Lib.hid hgr; clear ho hgr)))
            go_roundw
            case rel => exact ⟨_, _, read_step HR.out HB1.out HW.out HO.out HGR.out (by omega)⟩
            case measure =>
              rw [box_of HR.out.pos, box_of (read_step HR.out HB1.out HW.out HO.out HGR.out (by omega)).pos]
              omega
          | false =>
            have hrecs := HR.out.on.done (by rw [HW.out])
            have HRC := Lib.hid hrecs
            clear hrecs
            obtain ⟨k0, _, _⟩ := cells1 (stays HR.out.box HB1.out)
            obtain ⟨_, _, _, k3, _, kf, _⟩ := (HR.out.log.below HB1.out).cells
            have kf3 := kf 3
            go_wp2_with fail
            obtain ⟨WA, hWA⟩ : ∃ WA, w'.setCell ⟨W9.heap.size + 1, 3, none⟩ (.int .i64 (pre.length : Nat)) = WA := ⟨_, rfl⟩
            obtain ⟨bA, pA, lA, xA, rA⟩ := read_end HR.out HB1.out hWA
            rw [hWA]
            have BA := Lib.hid bA
            have PA := Lib.hid pA
            have LA := Lib.hid lA
            have XA := Lib.hid xA
            have RA := Lib.hid rA
            have BWA := Lib.hid (bthen PB.out bA)
            have DA := Lib.hid (HD.out.below BWA.out)
            have hsz := PB.out.size
            have hsz1 := B2.out.size
            clear hWA bA pA lA xA rA k0 k3 kf kf3 HR HB1
            refine (face_any (W9.heap.size + 1) c 96 _ WA { f := true, g := B, n := pre.length, dead := false } { f := true, g := B, n := pre.length, dead := false } (own3 c rb (W9.heap.size + 1)) (Wal.cuts d true p').2 (OnDisk c d (Wal.cuts d true p').1 m rb) (enters_of Tryz.func96 (by kernel_rfl) rfl) LA.out rfl (own3_lt LA.out DA.out) (fun W hb => ?_)).mono ?_
            · have hDW := DA.out.below hb
              have z0 := stays (stays P0.out BA.out) hb
              have z1 := stays (stays P1.out BA.out) hb
              have z2 := stays (stays P2.out BA.out) hb
              have zq := stays (stays PQ.out BA.out) hb
              have zn := stays (stays PN.out BA.out) hb
              have zp := stays PA.out hb
              have zx := stays XA.out hb
              exact (open1_true (W9.heap.size + 1) c W9.heap.size w2.heap.size (w2.heap.size + 1) (W9.heap.size + 1 + 1) w.heap.size (w2.heap.size + 1 + 1) q p' W _ d m rb ⟨(cells1 zp).1, (cells1 z0).1, (cells1 z1).1, (cells1 zx).1, (cells1 zn).1, (cells1 z2).1, by rw [HF0.out]; exact cell_of zq HC0.out, by rw [HF1.out]; exact cell_of zq HC1.out⟩
                ⟨not_own zp (by decide) (by decide) hDW, not_own z0 (by decide) (by decide) hDW, not_own z1 (by decide) (by decide) hDW, not_own zx (by decide) (by decide) hDW, not_own zn (by decide) (by decide) hDW, not_own z2 (by decide) (by decide) hDW, not_own zq (by decide) (by decide) hDW⟩ (LA.out.below hb) hDW).mono fun e W' ⟨he, hw⟩ => ⟨he, hw.closure⟩
            rintro e w1 ⟨rfl, W, W1, hfl⟩
            have HWK := Lib.hid (Worked.face hfl (heap_lt LA.out))
            obtain ⟨hre, hcap⟩ := recs_kept (base := w.heap.size) (x := W9.heap.size + 1) RA.out DA.out (by omega) HWK.out.touch (by omega)
            have HRE := Lib.hid hre
            have hbx := (cells1 (worked_other HWK.out.touch DA.out XA.out (by decide) (by decide) (by omega))).1
            clear hfl hre
            by_cases hr0 : (Wal.cuts d true p').2 = 0
            · have HX : Hid (Wal.open_ d = (some ⟨{ f := true, g := B, n := pre.length, dead := false }, sb, pre⟩, (Wal.cuts d true p').1, 0)) := Lib.hid (by unfold Wal.open_; rw [if_neg (by simp [HDD.out]), HBEST.out, HSH.out, HSR.out, HRC.out, if_neg hA0, if_neg (by simp [hr0])])
              rw [if_pos hr0]
              have HLW : Hid (LogAt w1 (W9.heap.size + 1) c { f := true, g := B, n := pre.length, dead := false }) := Lib.hid (by simpa [faceL, hr0] using HWK.out.log)
              go_wp2_with fail
              go_region
              go_wp2_with fail
              refine bodyPost_ret (results_tmp4 rfl _ _ _) rfl ?_
              rw [HX.out]
              exact ⟨_, _, _, rfl, (fun o ho => by cases ho; exact ⟨rfl, HRE.out.below ((Below.refl _ _).drew), _, rfl, by omega, HLW.out.below ((Below.refl _ _).drew)⟩), (fun h => by cases h), open_worked HWK.out BWA.out (by omega) ((Below.refl _ _).drew)⟩
            · have HX : Hid (Wal.open_ d = (none, (Wal.cuts d true p').1, 2)) := Lib.hid (by unfold Wal.open_; rw [if_neg (by simp [HDD.out]), HBEST.out, HSH.out, HSR.out, HRC.out, if_neg hA0, if_pos hr0])
              rw [if_neg hr0]
              go_wp2_with fail
              refine bodyPost_ret (results_tmp4 rfl _ _ _) rfl ?_
              rw [HX.out]
              exact ⟨_, _, _, rfl, (fun _ h => by cases h), fun _ => ⟨rfl, rfl, rfl⟩, open_worked HWK.out BWA.out (by omega) (Below.refl _ _)⟩
    · go_wp2_with fail
      have M0 := M0'
      have M1 := M1'
      have M2 := M2'
      have Q8 := Q7
      have N8 := N7
      have B8 := B7
      clear t1 t1f t1z t2 t2f t2z s0 q0 q1 M0' M1' M2' Q7 N7 B7
      generalize W7 = W8 at M0 M1 M2 Q8 N8 B8 ⊢
      have hcur0 := hc0
      have hcur1 := hc1
      have HBEST : Hid (Wal.best d = false) := Lib.hid (by unfold Wal.best; rw [HF0.out, HF1.out, HA.out, HB.out]; exact decide_eq_false (by simpa using hab))
      have HSH : Hid (Wal.shown d = (A, sa, pa)) := Lib.hid (by unfold Wal.shown; rw [HBEST.out]; first | rw [HF0.out, HA.out] | rw [HF1.out, HB.out])
      have HSR : Hid (Wal.shownRecs d = Wal.recs F0 pa) := Lib.hid (by unfold Wal.shownRecs; rw [HBEST.out, HSH.out]; first | rw [HF0.out] | rw [HF1.out])
      have HC0 := Lib.hid hc0
      have HC1 := Lib.hid hc1
      clear HB hc0 hc1
      have hcI := hcur0
      clear hcur0 hcur1
      refine (counted_any F0 W8 (by omega)).mono ?_
      rw [HA.out]
      rintro e W9 ⟨rfl, b9⟩
      have P0 := Lib.hid (stays M0.out b9)
      have P1 := Lib.hid (stays M1.out b9)
      have P2 := Lib.hid (stays M2.out b9)
      have PQ := Lib.hid (stays Q8.out b9)
      have PN := Lib.hid (stays N8.out b9)
      have PB := Lib.hid (bthen B8.out b9)
      clear b9 M0 M1 M2 Q8 N8 B8
      by_cases hA0 : A = 0
      · have HX : Hid (Wal.open_ d = (none, d, 100)) := Lib.hid (by unfold Wal.open_; rw [if_neg (by simp [HDD.out]), HSH.out, if_pos hA0])
        have hA0' : ((A : Int) == 0) = true := by rw [hA0]; rfl
        go_wp2_with fail
        refine bodyPost_ret (results_tmp4 rfl _ _ _) rfl ?_
        rw [HX.out]
        exact OpenEnds.refused HD.out (bthen PB.out (balloc _ _))
      · have hA0' : ((A : Int) == 0) = false := by simp; omega
        have HLE := Lib.hid (counts_le HA.out hA0)
        obtain ⟨u0, _, _⟩ := cells1 PN.out
        obtain ⟨u1, _, _⟩ := cells1 P1.out
        go_wp2_with fail
        obtain ⟨WL, hWL⟩ : ∃ WL, (((W9.alloc (.cells #[.int .i64 pa] 3)).alloc (.cells #[.pointer (some ⟨c, 0, none⟩), .int .i64 0, .int .u64 A, .int .i64 0, .bool false] 148)).alloc (.cells #[.pointer (some ⟨W9.heap.size + 1, 0, none⟩)] 98)).alloc (.cells #[] 9) = WL := ⟨_, rfl⟩
        rw [hWL]
        have HST := Lib.hid (readAt_start W9 c F0 pa A false HLE.out.1 hWL.symm)
        clear hWL u0 u1 hA0'
        go_loopw [19] (fun v wr => ∃ p pre, ReadAt W9 wr c F0 pa A false v p pre) (fun _ wr => F0.length + 1 - boxOf wr W9.heap.size)
        case atStart =>
          exact ⟨_, _, HST.out⟩
        case round =>
          obtain ⟨p', pre, hr⟩ := hrel
          obtain ⟨gg, cap, hv⟩ := hr.slice
          subst hv
          have HR := Lib.hid hr
          have hple := hr.le
          have hmany := hr.many
          have hb3 := heap_lt hr.box
          obtain ⟨s, ok, hW⟩ : ∃ s ok, Wal.whole F0 p' 65536 = (s, ok) := ⟨_, _, rfl⟩
          have HW := Lib.hid hW
          obtain ⟨i0, _, _⟩ := cells1 (stays P0.out hr.old)
          obtain ⟨i1, _, _⟩ := cells1 (stays P1.out hr.old)
          have i2 := cell_of (stays PQ.out hr.old) hcI
          obtain ⟨i3, _, _⟩ := cells1 hr.pos
          have HKB : Hid (∀ w' : World, Below wr.heap.size wr w' → (Below wr.heap.size wr w' ∧ w'.cell? ⟨w2.heap.size, 0, none⟩ = some (.slice (some ⟨q, 0, none⟩) 2 2) ∧ w'.cell? ⟨w2.heap.size + 1, 0, none⟩ = some (.int .i64 0) ∧ w'.cell? ⟨q, 0, none⟩ = some (.string ⟨F0.toArray⟩) ∧ w'.cell? ⟨W9.heap.size, 0, none⟩ = some (.int .i64 p'))) :=
            fun w' hb => ⟨hb, cell_later hb i0, cell_later hb i1, cell_later hb i2, cell_later hb i3⟩
          clear hr hW
          go_wp2_with fail
          go_region_held3 (fun w' => Below wr.heap.size wr w' ∧ w'.cell? ⟨w2.heap.size, 0, none⟩ = some (.slice (some ⟨q, 0, none⟩) 2 2) ∧ w'.cell? ⟨w2.heap.size + 1, 0, none⟩ = some (.int .i64 0) ∧ w'.cell? ⟨q, 0, none⟩ = some (.string ⟨F0.toArray⟩) ∧ w'.cell? ⟨W9.heap.size, 0, none⟩ = some (.int .i64 p'))
            (first | exact HKB.out _ (Below.refl _ _).drew | exact HKB.out _ (bthen (by assumption : Below wr.heap.size wr _ ∧ _).1 (by assumption)))
            (first | (go_at_call 95; refine (whole_any F0 p' 65536 _ (by omega) (by omega) (by decide)).mono ?_; rw [HW.out]; rintro e w' ⟨rfl, hb⟩))
          rename_i hheld
          have HB1 := Lib.hid hheld.1
          clear hheld hb i0 i1 i2 i3 HKB
          cases ok with
          | true =>
            have hsl : p' + 8 + s.length ≤ F0.length := by have := (Wal.whole_le (file := F0) (p := p') (most := 65536) (by rw [HW.out])).1; rw [HW.out] at this; exact this
            have hs16 : s.length ≤ 1048576 := by omega
            go_wp2_with (first | (at_builtin; go_must (refine wpList_append_own2 _ rfl (.tmp 74) (.tmp 76) 22 rfl (W9.heap.size + 3) 9 1 16 _ Tryz.stringInfo Tryz.underlying22 rfl (by decide) _ pre.length (strs pre) rfl (own_touch HR.out.row (Touch.of_below (S := fun _ => False) (bthen HB1.out (balloc w' _))) (fun _ _ h => h)) ⟨w'.heap.size, 0, none⟩ 1 1 [.string ⟨s.toArray⟩] rfl rfl (fun i u hi => by rw [addr_add, Nat.zero_add]; exact cell_of (heap_new w' _) (by simpa using hi)) (by intro u hu; simp at hu; subst hu; rfl) (by unfold maxLen; omega) (by omega) (by have := HB1.out.size; simp; omega) ?_; intro v' w1 ho hgr _; obtain ⟨l0, l0f, l0l⟩ := cells1 (pos_grown HR.out HB1.out hgr); have l0z := l0f 0; have HO := Lib.hid ho; have HGR := Lib.hid hgr; clear ho hgr)))
            go_roundw
            case rel => exact ⟨_, _, read_step HR.out HB1.out HW.out HO.out HGR.out (by omega)⟩
            case measure =>
              rw [box_of HR.out.pos, box_of (read_step HR.out HB1.out HW.out HO.out HGR.out (by omega)).pos]
              omega
          | false =>
            have hrecs := HR.out.on.done (by rw [HW.out])
            have HRC := Lib.hid hrecs
            clear hrecs
            obtain ⟨k0, _, _⟩ := cells1 (stays HR.out.box HB1.out)
            obtain ⟨_, _, _, k3, _, kf, _⟩ := (HR.out.log.below HB1.out).cells
            have kf3 := kf 3
            go_wp2_with fail
            obtain ⟨WA, hWA⟩ : ∃ WA, w'.setCell ⟨W9.heap.size + 1, 3, none⟩ (.int .i64 (pre.length : Nat)) = WA := ⟨_, rfl⟩
            obtain ⟨bA, pA, lA, xA, rA⟩ := read_end HR.out HB1.out hWA
            rw [hWA]
            have BA := Lib.hid bA
            have PA := Lib.hid pA
            have LA := Lib.hid lA
            have XA := Lib.hid xA
            have RA := Lib.hid rA
            have BWA := Lib.hid (bthen PB.out bA)
            have DA := Lib.hid (HD.out.below BWA.out)
            have hsz := PB.out.size
            have hsz1 := B2.out.size
            clear hWA bA pA lA xA rA k0 k3 kf kf3 HR HB1
            refine (face_any (W9.heap.size + 1) c 96 _ WA { f := false, g := A, n := pre.length, dead := false } { f := false, g := A, n := pre.length, dead := false } (own3 c rb (W9.heap.size + 1)) (Wal.cuts d false p').2 (OnDisk c d (Wal.cuts d false p').1 m rb) (enters_of Tryz.func96 (by kernel_rfl) rfl) LA.out rfl (own3_lt LA.out DA.out) (fun W hb => ?_)).mono ?_
            · have hDW := DA.out.below hb
              have z0 := stays (stays P0.out BA.out) hb
              have z1 := stays (stays P1.out BA.out) hb
              have z2 := stays (stays P2.out BA.out) hb
              have zq := stays (stays PQ.out BA.out) hb
              have zn := stays (stays PN.out BA.out) hb
              have zp := stays PA.out hb
              have zx := stays XA.out hb
              exact (open1_false (W9.heap.size + 1) c W9.heap.size w2.heap.size (w2.heap.size + 1) (W9.heap.size + 1 + 1) w.heap.size (w2.heap.size + 1 + 1) q p' W _ d m rb ⟨(cells1 zp).1, (cells1 z0).1, (cells1 z1).1, (cells1 zx).1, (cells1 zn).1, (cells1 z2).1, by rw [HF0.out]; exact cell_of zq HC0.out, by rw [HF1.out]; exact cell_of zq HC1.out⟩
                ⟨not_own zp (by decide) (by decide) hDW, not_own z0 (by decide) (by decide) hDW, not_own z1 (by decide) (by decide) hDW, not_own zx (by decide) (by decide) hDW, not_own zn (by decide) (by decide) hDW, not_own z2 (by decide) (by decide) hDW, not_own zq (by decide) (by decide) hDW⟩ (LA.out.below hb) hDW).mono fun e W' ⟨he, hw⟩ => ⟨he, hw.closure⟩
            rintro e w1 ⟨rfl, W, W1, hfl⟩
            have HWK := Lib.hid (Worked.face hfl (heap_lt LA.out))
            obtain ⟨hre, hcap⟩ := recs_kept (base := w.heap.size) (x := W9.heap.size + 1) RA.out DA.out (by omega) HWK.out.touch (by omega)
            have HRE := Lib.hid hre
            have hbx := (cells1 (worked_other HWK.out.touch DA.out XA.out (by decide) (by decide) (by omega))).1
            clear hfl hre
            by_cases hr0 : (Wal.cuts d false p').2 = 0
            · have HX : Hid (Wal.open_ d = (some ⟨{ f := false, g := A, n := pre.length, dead := false }, sa, pre⟩, (Wal.cuts d false p').1, 0)) := Lib.hid (by unfold Wal.open_; rw [if_neg (by simp [HDD.out]), HBEST.out, HSH.out, HSR.out, HRC.out, if_neg hA0, if_neg (by simp [hr0])])
              rw [if_pos hr0]
              have HLW : Hid (LogAt w1 (W9.heap.size + 1) c { f := false, g := A, n := pre.length, dead := false }) := Lib.hid (by simpa [faceL, hr0] using HWK.out.log)
              go_wp2_with fail
              go_region
              go_wp2_with fail
              refine bodyPost_ret (results_tmp4 rfl _ _ _) rfl ?_
              rw [HX.out]
              exact ⟨_, _, _, rfl, (fun o ho => by cases ho; exact ⟨rfl, HRE.out.below ((Below.refl _ _).drew), _, rfl, by omega, HLW.out.below ((Below.refl _ _).drew)⟩), (fun h => by cases h), open_worked HWK.out BWA.out (by omega) ((Below.refl _ _).drew)⟩
            · have HX : Hid (Wal.open_ d = (none, (Wal.cuts d false p').1, 2)) := Lib.hid (by unfold Wal.open_; rw [if_neg (by simp [HDD.out]), HBEST.out, HSH.out, HSR.out, HRC.out, if_neg hA0, if_pos hr0])
              rw [if_neg hr0]
              go_wp2_with fail
              refine bodyPost_ret (results_tmp4 rfl _ _ _) rfl ?_
              rw [HX.out]
              exact ⟨_, _, _, rfl, (fun _ h => by cases h), fun _ => ⟨rfl, rfl, rfl⟩, open_worked HWK.out BWA.out (by omega) (Below.refl _ _)⟩
end Go.Proofs.YtpjpknndfhablaaGreat
namespace Go.Proofs.YtpjpknndfhablaaGreat
open Go.RowKit

theorem Two.cells {w : World} {g : Nat} {s t : List UInt8} (h : Two w g s t) : w.cell? ⟨g, 0, none⟩ = some (.string ⟨s.toArray⟩) ∧ w.cell? ⟨g, 1, none⟩ = some (.string ⟨t.toArray⟩) ∧ g < w.heap.size := by
  obtain ⟨cur, hg, h0, h1⟩ := h
  exact ⟨cell_of hg h0, cell_of hg h1, heap_lt hg⟩
theorem Two.below {w w' : World} {g : Nat} {s t : List UInt8} (h : Two w g s t) (hb : Below w.heap.size w w') : Two w' g s t := by
  obtain ⟨cur, hg, h0, h1⟩ := h
  exact ⟨cur, stays hg hb, h0, h1⟩
theorem Two.touch {S : Nat → Prop} {w w' : World} {g : Nat} {s t : List UInt8} (h : Two w g s t) (hb : Touch S w w') (hS : ¬ S g) : Two w' g s t := by
  obtain ⟨cur, hg, h0, h1⟩ := h
  exact ⟨cur, (hb.block g (heap_lt hg) hS).trans hg, h0, h1⟩

set_option maxHeartbeats 1000000 in
theorem rfiles_any (b : Nat) (w : World) (d : DS) (us : Value) (h : RefU w b d us) (hok : d.Ok) :
    Calls Tryz.prog 18 #[.pointer (some ⟨b, 0, none⟩)] w fun e w' => ∃ g, e = .returned (.slice (some ⟨g, 0, none⟩) 2 2) ∧ w.heap.size ≤ g ∧ Two w' g (d.file false) (d.file true) ∧ Below w.heap.size w w' := by
  obtain ⟨c0, c1, c2, c3, c4, c5, cf, hlt⟩ := h.cells
  obtain ⟨ao, cap, rfl, hr, hcell⟩ := h.slice
  have H := Lib.hid h
  have hul := hok.u_len
  clear h hcell c0 c1 c3 c4 c5 cf
  go_enter Tryz.func18, Tryz.ntmps18
  go_wp2_with fail
  refine (rafter_any b w d _ d.u.length H.out hok (by omega)).mono ?_
  rintro e w1 ⟨g, rfl, hg, ht, hb⟩
  have HT := Lib.hid ht
  have HB := Lib.hid hb
  have HG := Lib.hid hg
  clear ht hb hg
  go_wp2
  go_ret
  exact ⟨g, rfl, HG.out, by have := HT.out; simpa [DS.left_all] using this, HB.out⟩

set_option maxHeartbeats 1000000 in
theorem rdie_any (b : Nat) (w : World) (d : DS) (us : Value) (k : Int) (h : RefU w b d us) (hok : d.Ok) (h1 : k ≤ 9223372036854775807) :
    Calls Tryz.prog 132 #[.pointer (some ⟨b, 0, none⟩), .int .i64 k] w fun e w' => e = .returned (.tuple #[]) ∧ RefU w' b (d.die k.toNat) (.slice none 0 0) ∧ Touch (· = b) w w' := by
  have H := Lib.hid h
  clear h
  go_enter Tryz.func132, Tryz.ntmps132
  go_wp2_with fail
  refine (rafter_any b w d us k H.out hok h1).mono ?_
  rintro e w1 ⟨g, rfl, hg, ht, hb⟩
  have h1 := H.out.below hb
  obtain ⟨c0, c1, c2, c3, c4, c5, cf, hlt⟩ := h1.cells
  obtain ⟨x0, x1, xl⟩ := ht.cells
  have hne : b < g := Nat.lt_of_lt_of_le H.out.lt hg
  have H1 := Lib.hid h1
  have HB := Lib.hid hb
  clear h1 hb ht hg
  go_wp2
  go_end0
  refine ⟨rfl, ⟨?_, ?_⟩, ?_⟩
  · rw [heap_set _ (heap_set _ (heap_set _ (heap_set _ (heap_set _ H1.out.blk))))]; simp [refBlock, DS.die]
  · exact World.ownsRow_nil _ _ _ _
  · refine Touch.setCell (Touch.setCell (Touch.setCell (Touch.setCell (Touch.setCell (Touch.of_below HB.out) _ ?_) _ ?_) _ ?_) _ ?_) _ ?_
    all_goals exact fun _ => rfl

set_option maxHeartbeats 1000000 in
theorem rcrash_any (b : Nat) (w : World) (d : DS) (ub : Option Nat) (k : Int) (h : RefAt w b d ub) (hk : k ≤ 9223372036854775807) :
    Calls Tryz.prog 80 #[.pointer (some ⟨b, 0, none⟩), .int .i64 k] w fun e w' => e = .returned (.int .i64 (d.crash k).2) ∧
      ∃ ub', RefAt w' b (d.crash k).1 ub' ∧ Newer w ub ub' ∧ Touch (· = b) w w' := by
  have hok' := h.1.crash k
  obtain ⟨hok, us, h, rfl⟩ := h
  obtain ⟨c0, c1, c2, c3, c4, c5, cf, hlt⟩ := h.cells
  have H := Lib.hid h
  clear h c0 c1 c2
  cases hd : d.dead
  · rw [hd] at c5
    by_cases h0 : k < 0
    · have HX : Hid (d.crash k = (d, 1)) := by unfold DS.crash; rw [if_neg (by simp [hd]), if_pos h0]; exact rfl
      clear hd
      go_enter Tryz.func80, Tryz.ntmps80
      go_wp2
      go_ret
      exact ⟨ret_int (by rw [HX.out]), us.ownBlock, by rw [HX.out]; exact ⟨hok, us, H.out, rfl⟩, Newer.refl _ _, Touch.refl _ _⟩
    · have HX : Hid (d.crash k = (d.die k.toNat, 0)) := by unfold DS.crash; rw [if_neg (by simp [hd]), if_neg h0]; exact rfl
      have hk0 : 0 ≤ k := by omega
      clear hd h0
      go_enter Tryz.func80, Tryz.ntmps80
      go_wp2_with fail
      refine (rdie_any b w d us k H.out hok hk).mono ?_
      rintro e w1 ⟨rfl, hr, ht⟩
      have HR := Lib.hid hr
      have HT := Lib.hid ht
      clear hr ht
      go_wp2
      go_ret
      refine ⟨ret_int (by rw [HX.out]), none, ?_, Newer.none _ _, HT.out⟩
      rw [HX.out] at hok' ⊢
      exact ⟨hok', _, HR.out, rfl⟩
  · rw [hd] at c5
    have HX : Hid (d.crash k = (d, 2)) := by unfold DS.crash; rw [if_pos hd]; exact rfl
    clear hd
    go_enter Tryz.func80, Tryz.ntmps80
    go_wp2
    go_ret
    exact ⟨ret_int (by rw [HX.out]), us.ownBlock, by rw [HX.out]; exact ⟨hok, us, H.out, rfl⟩, Newer.refl _ _, Touch.refl _ _⟩

set_option maxHeartbeats 1000000 in
theorem rsync_any (b : Nat) (w : World) (d : DS) (ub : Option Nat) (h : RefAt w b d ub) :
    Calls Tryz.prog 93 #[.pointer (some ⟨b, 0, none⟩)] w fun e w' => e = .returned (.int .i64 d.sync.2) ∧
      ∃ ub', RefAt w' b d.sync.1 ub' ∧ Newer w ub ub' ∧ Touch (· = b) w w' := by
  have hok' := h.1.sync
  obtain ⟨hok, us, h, rfl⟩ := h
  obtain ⟨c0, c1, c2, c3, c4, c5, cf, hlt⟩ := h.cells
  have H := Lib.hid h
  clear h c0 c1 c2 c3 c4
  cases hd : d.dead
  · rw [hd] at c5
    go_enter Tryz.func93, Tryz.ntmps93
    cases hg : d.goes
    · have HX : Hid (d.sync = (d.tick.saved, 0)) := by unfold DS.sync; rw [if_neg (by simp [hd]), if_neg (by simp [hg])]; exact rfl
      clear hd
      go_wp2_with fail
      refine (rgoes_any b w d us H.out hok).mono ?_
      rintro e w1 ⟨rfl, hr, ht⟩
      rw [hg]
      have HR := Lib.hid hr
      have HT := Lib.hid ht
      clear hr ht hg
      go_wp2_with fail
      refine (rfiles_any b w1 d.tick us HR.out hok.tick).mono ?_
      rintro e w2 ⟨g, rfl, hg, ht, hb⟩
      have h2 := HR.out.below hb
      obtain ⟨c0, c1, c2, c3, c4, c5, cf, hlt⟩ := h2.cells
      obtain ⟨x0, x1, xl⟩ := ht.cells
      have hne : b < g := Nat.lt_of_lt_of_le HR.out.lt hg
      have H2 := Lib.hid h2
      have HB := Lib.hid hb
      clear h2 hb c3 c4 ht hg
      go_wp2
      go_ret
      refine ⟨ret_int (by rw [HX.out]), none, ?_, Newer.none _ _, ?_⟩
      · rw [HX.out] at hok' ⊢
        refine ⟨hok', .slice none 0 0, ⟨?_, World.ownsRow_nil _ _ _ _⟩, rfl⟩
        rw [heap_set _ (heap_set _ (heap_set _ H2.out.blk))]; simp [refBlock, DS.saved]
      · refine Touch.setCell (Touch.setCell (Touch.setCell (Touch.trans HT.out (Touch.of_below (S := fun _ => False) HB.out) (fun _ _ h => h.elim)) _ ?_) _ ?_) _ ?_
        all_goals exact fun _ => rfl
    · have HX : Hid (d.sync = (d.tick.die d.keep, 2)) := by unfold DS.sync; rw [if_neg (by simp [hd]), if_pos hg]; exact rfl
      have hkp := hok.keep
      clear hd
      go_wp2_with fail
      refine (rgoes_any b w d us H.out hok).mono ?_
      rintro e w1 ⟨rfl, hr, ht⟩
      rw [hg]
      obtain ⟨c0, c1, c2, c3, c4, c5, cf, hlt⟩ := hr.cells
      have HR := Lib.hid hr
      have HT := Lib.hid ht
      clear hr ht hg c0 c1 c2 c3
      go_wp2_with fail
      refine (rdie_any b w1 d.tick us d.keep HR.out hok.tick (by omega)).mono ?_
      rintro e w2 ⟨rfl, hr2, ht2⟩
      have HR2 := Lib.hid hr2
      have HT2 := Lib.hid ht2
      clear hr2 ht2 c4 c5 cf
      go_wp2
      go_ret
      refine ⟨ret_int (by rw [HX.out]), none, ?_, Newer.none _ _, Touch.trans HT.out HT2.out (fun k _ h => h)⟩
      rw [HX.out] at hok' ⊢
      exact ⟨hok', _, HR2.out, rfl⟩
  · rw [hd] at c5
    have HX : Hid (d.sync = (d, 2)) := by unfold DS.sync; rw [if_pos hd]; exact rfl
    clear hd
    go_enter Tryz.func93, Tryz.ntmps93
    go_wp2
    go_ret
    exact ⟨ret_int (by rw [HX.out]), us.ownBlock, by rw [HX.out]; exact ⟨hok, us, H.out, rfl⟩, Newer.refl _ _, Touch.refl _ _⟩
end Go.Proofs.YtpjpknndfhablaaGreat
namespace Go.Proofs.YtpjpknndfhablaaGreat
open Go.RowKit

set_option maxHeartbeats 2000000 in
theorem rcut_any (b : Nat) (w : World) (d : DS) (ub : Option Nat) (f n : Int) (h : RefAt w b d ub) :
    Calls Tryz.prog 104 #[.pointer (some ⟨b, 0, none⟩), .int .i64 f, .int .i64 n] w fun e w' => e = .returned (.int .i64 (d.cut f n).2) ∧
      ∃ ub', RefAt w' b (d.cut f n).1 ub' ∧ Newer w ub ub' ∧ Touch (· = b) w w' := by
  have hok' := h.1.cut f n
  obtain ⟨hok, us, h, rfl⟩ := h
  obtain ⟨c0, c1, c2, c3, c4, c5, cf, hlt⟩ := h.cells
  have H := Lib.hid h
  clear h c0 c1 c2 c3 c4
  cases hd : d.dead
  · rw [hd] at c5
    by_cases hf : f = 0 ∨ f = 1
    · obtain ⟨q, rfl⟩ := DS.fi_of hf
      have hz : d.sizeI (DS.fi q) = (d.size q : Int) := by simp [DS.sizeI, DS.fileNo_of]
      have HZ := Lib.hid hz
      have hbl := hok.base_len' q
      have hu := hok.u_len
      have hofl : (DS.of q d.u).length ≤ d.size q := by rw [DS.size, DS.file, List.length_append]; omega
      have hsz : d.size q = (d.base q).length + (DS.of q d.u).length := by rw [DS.size, DS.file, List.length_append]
      have HSZ := Lib.hid hsz
      have hof : (DS.of q d.u ≠ []) ↔ 0 < (DS.of q d.u).length := List.length_pos_iff.symm
      clear hf hz hsz
      by_cases hc : n < 0 ∨ n > d.size q ∨ DS.of q d.u ≠ []
      · have HX : Hid (d.cut (DS.fi q) n = (d, 92)) := by unfold DS.cut; rw [if_neg (by simp [hd]), DS.fileNo_of]; simp only []; rw [if_pos hc]; exact rfl
        rw [hof] at hc
        have hc' : n < 0 ∨ (0 ≤ n ∧ (d.size q : Int) < n) ∨ (0 ≤ n ∧ n ≤ d.size q ∧ (0 : Int) < ((DS.of q d.u).length : Int)) := by omega
        clear hd hc hof
        cases q
        · simp only [DS.fi, Bool.false_eq_true, if_false] at HX HZ ⊢
          have HX' := Lib.hid HX
          have HZ' := Lib.hid HZ
          clear HX HZ
          rcases hc' with hc | ⟨hc0, hc⟩ | ⟨hc0, hc1, hc⟩
          all_goals go_enter Tryz.func104, Tryz.ntmps104
          all_goals go_wp2_with (first
            | (go_at_call 89; go_must (refine (rsize_any b w d us _ H.out hok).mono ?_; rw [HZ'.out.out]; rintro e w' ⟨rfl, rfl⟩))
            | (go_at_call 142; go_must (refine (unsafe_any b w d us false H.out hok).mono ?_; rintro e w' ⟨rfl, rfl⟩)))
          all_goals go_ret
          all_goals exact ⟨ret_int (by rw [HX'.out.out]), us.ownBlock, by rw [HX'.out.out]; exact ⟨hok, us, H.out, rfl⟩, Newer.refl _ _, Touch.refl _ _⟩
        · simp only [DS.fi, if_true] at HX HZ ⊢
          have HX' := Lib.hid HX
          have HZ' := Lib.hid HZ
          clear HX HZ
          rcases hc' with hc | ⟨hc0, hc⟩ | ⟨hc0, hc1, hc⟩
          all_goals go_enter Tryz.func104, Tryz.ntmps104
          all_goals go_wp2_with (first
            | (go_at_call 89; go_must (refine (rsize_any b w d us _ H.out hok).mono ?_; rw [HZ'.out.out]; rintro e w' ⟨rfl, rfl⟩))
            | (go_at_call 142; go_must (refine (unsafe_any b w d us true H.out hok).mono ?_; rintro e w' ⟨rfl, rfl⟩)))
          all_goals go_ret
          all_goals exact ⟨ret_int (by rw [HX'.out.out]), us.ownBlock, by rw [HX'.out.out]; exact ⟨hok, us, H.out, rfl⟩, Newer.refl _ _, Touch.refl _ _⟩
      · have hof' : DS.of q d.u = [] := by
          by_cases h : DS.of q d.u = []
          · exact h
          · exact absurd (Or.inr (Or.inr h)) hc
        have HOF : Hid (((DS.of q d.u).length : Int) = 0) := by rw [hof']; exact rfl
        have hn0 : 0 ≤ n := by omega
        have hns : n ≤ d.size q := by omega
        have hn1 : n ≤ (d.base q).length := by
          have : d.size q = (d.base q).length := by rw [DS.size, DS.file, hof', List.append_nil]
          omega
        have hkp := hok.keep
        have HC := Lib.hid hc
        have HD := Lib.hid hd
        clear hd hc hof hof' hofl
        cases q
        · simp only [DS.fi, Bool.false_eq_true, if_false] at HZ HC hok' ⊢
          have HZ' := Lib.hid HZ
          clear HZ
          cases hg : d.goes
          · have HX : Hid (d.cut 0 n = (d.tick.short false n.toNat, 0)) := by
              have : DS.fileNo 0 = some false := rfl
              unfold DS.cut; rw [if_neg (by simp [HD.out]), this]; simp only []; rw [if_neg HC.out, if_neg (by simp [hg])]; exact rfl
            have hn1' : n ≤ (d.tick.a.length : Int) := hn1
            have HG := Lib.hid hg
            clear hg
            go_enter Tryz.func104, Tryz.ntmps104
            go_wp2_with (first
              | (go_at_call 89; go_must (refine (rsize_any b w d us _ H.out hok).mono ?_; rw [HZ'.out.out]; rintro e w' ⟨rfl, rfl⟩))
              | (go_at_call 142; go_must (refine (unsafe_any b w d us false H.out hok).mono ?_; rw [HOF.out]; rintro e w' ⟨rfl, rfl⟩))
              | (go_at_call 143; go_must (refine (rgoes_any b w d us H.out hok).mono ?_; rw [HG.out]; rintro e w5 ⟨rfl, hr5, ht5⟩; have HR5 := Lib.hid hr5; have HT5 := Lib.hid ht5; obtain ⟨c0', c1', c2', c3', c4', c5'', cf', hlt'⟩ := hr5.cells; clear hr5 ht5 c2' c3' c4' c5'')))
            go_ret
            refine ⟨ret_int (by rw [HX.out]), us.ownBlock, ?_, Newer.refl _ _, HT5.out.setCell _ (fun _ => rfl)⟩
            rw [HX.out] at hok' ⊢
            refine ⟨hok', us, ⟨?_, ?_⟩, rfl⟩
            · rw [heap_set _ HR5.out.blk, bytes_extract]; simp [refBlock, DS.short]
            · exact own_touch HR5.out.own ((Touch.refl (· = b) w5).setCell _ (fun _ => rfl)) (fun k hk => fun e => HR5.out.own_block (by rw [hk, e]))
          · have HX : Hid (d.cut 0 n = (d.tick.die d.keep, 2)) := by
              have : DS.fileNo 0 = some false := rfl
              unfold DS.cut; rw [if_neg (by simp [HD.out]), this]; simp only []; rw [if_neg HC.out, if_pos hg]; exact rfl
            have HG := Lib.hid hg
            clear hg
            go_enter Tryz.func104, Tryz.ntmps104
            go_wp2_with (first
              | (go_at_call 89; go_must (refine (rsize_any b w d us _ H.out hok).mono ?_; rw [HZ'.out.out]; rintro e w' ⟨rfl, rfl⟩))
              | (go_at_call 142; go_must (refine (unsafe_any b w d us false H.out hok).mono ?_; rw [HOF.out]; rintro e w' ⟨rfl, rfl⟩))
              | (go_at_call 143; go_must (refine (rgoes_any b w d us H.out hok).mono ?_; rw [HG.out]; rintro e w5 ⟨rfl, hr5, ht5⟩; have HR5 := Lib.hid hr5; have HT5 := Lib.hid ht5; obtain ⟨_, _, _, _, c4', _, _, hlt'⟩ := hr5.cells; have x4' : w5.cell? ⟨b, 4, none⟩ = some (.int .i64 d.keep) := c4'; clear c4' hr5 ht5))
              | (go_at_call 132; go_must (refine (rdie_any b w5 d.tick us d.keep HR5.out hok.tick (by omega)).mono ?_; rintro e w2 ⟨rfl, hr2, ht2⟩; have HR2 := Lib.hid hr2; have HT2 := Lib.hid ht2; clear hr2 ht2)))
            go_ret
            refine ⟨ret_int (by rw [HX.out]), none, ?_, Newer.none _ _, Touch.trans HT5.out HT2.out (fun k _ h => h)⟩
            rw [HX.out] at hok' ⊢
            exact ⟨hok', _, HR2.out, rfl⟩
        · simp only [DS.fi, if_true] at HZ HC hok' ⊢
          have HZ' := Lib.hid HZ
          clear HZ
          cases hg : d.goes
          · have HX : Hid (d.cut 1 n = (d.tick.short true n.toNat, 0)) := by
              have : DS.fileNo 1 = some true := rfl
              unfold DS.cut; rw [if_neg (by simp [HD.out]), this]; simp only []; rw [if_neg HC.out, if_neg (by simp [hg])]; exact rfl
            have hn1' : n ≤ (d.tick.b.length : Int) := hn1
            have HG := Lib.hid hg
            clear hg
            go_enter Tryz.func104, Tryz.ntmps104
            go_wp2_with (first
              | (go_at_call 89; go_must (refine (rsize_any b w d us _ H.out hok).mono ?_; rw [HZ'.out.out]; rintro e w' ⟨rfl, rfl⟩))
              | (go_at_call 142; go_must (refine (unsafe_any b w d us true H.out hok).mono ?_; rw [HOF.out]; rintro e w' ⟨rfl, rfl⟩))
              | (go_at_call 143; go_must (refine (rgoes_any b w d us H.out hok).mono ?_; rw [HG.out]; rintro e w5 ⟨rfl, hr5, ht5⟩; have HR5 := Lib.hid hr5; have HT5 := Lib.hid ht5; obtain ⟨c0', c1', c2', c3', c4', c5'', cf', hlt'⟩ := hr5.cells; clear hr5 ht5 c2' c3' c4' c5'')))
            go_ret
            refine ⟨ret_int (by rw [HX.out]), us.ownBlock, ?_, Newer.refl _ _, HT5.out.setCell _ (fun _ => rfl)⟩
            rw [HX.out] at hok' ⊢
            refine ⟨hok', us, ⟨?_, ?_⟩, rfl⟩
            · rw [heap_set _ HR5.out.blk, bytes_extract]; simp [refBlock, DS.short]
            · exact own_touch HR5.out.own ((Touch.refl (· = b) w5).setCell _ (fun _ => rfl)) (fun k hk => fun e => HR5.out.own_block (by rw [hk, e]))
          · have HX : Hid (d.cut 1 n = (d.tick.die d.keep, 2)) := by
              have : DS.fileNo 1 = some true := rfl
              unfold DS.cut; rw [if_neg (by simp [HD.out]), this]; simp only []; rw [if_neg HC.out, if_pos hg]; exact rfl
            have HG := Lib.hid hg
            clear hg
            go_enter Tryz.func104, Tryz.ntmps104
            go_wp2_with (first
              | (go_at_call 89; go_must (refine (rsize_any b w d us _ H.out hok).mono ?_; rw [HZ'.out.out]; rintro e w' ⟨rfl, rfl⟩))
              | (go_at_call 142; go_must (refine (unsafe_any b w d us true H.out hok).mono ?_; rw [HOF.out]; rintro e w' ⟨rfl, rfl⟩))
              | (go_at_call 143; go_must (refine (rgoes_any b w d us H.out hok).mono ?_; rw [HG.out]; rintro e w5 ⟨rfl, hr5, ht5⟩; have HR5 := Lib.hid hr5; have HT5 := Lib.hid ht5; obtain ⟨_, _, _, _, c4', _, _, hlt'⟩ := hr5.cells; have x4' : w5.cell? ⟨b, 4, none⟩ = some (.int .i64 d.keep) := c4'; clear c4' hr5 ht5))
              | (go_at_call 132; go_must (refine (rdie_any b w5 d.tick us d.keep HR5.out hok.tick (by omega)).mono ?_; rintro e w2 ⟨rfl, hr2, ht2⟩; have HR2 := Lib.hid hr2; have HT2 := Lib.hid ht2; clear hr2 ht2)))
            go_ret
            refine ⟨ret_int (by rw [HX.out]), none, ?_, Newer.none _ _, Touch.trans HT5.out HT2.out (fun k _ h => h)⟩
            rw [HX.out] at hok' ⊢
            exact ⟨hok', _, HR2.out, rfl⟩
    · have hf' : (f != 0) = true ∧ (f != 1) = true := by constructor <;> (rw [bne_iff_ne]; omega)
      have h2 : (f == 0) = false ∧ (f == 1) = false := by constructor <;> (rw [beq_eq_false_iff_ne]; omega)
      obtain ⟨h0, h1⟩ := hf'
      obtain ⟨h2, h3⟩ := h2
      have HX : Hid (d.cut f n = (d, 90)) := by unfold DS.cut; rw [if_neg (by simp [hd]), DS.fileNo_none hf]; exact rfl
      clear hf hd
      go_enter Tryz.func104, Tryz.ntmps104
      go_wp2
      go_ret
      exact ⟨ret_int (by rw [HX.out]), us.ownBlock, by rw [HX.out]; exact ⟨hok, us, H.out, rfl⟩, Newer.refl _ _, Touch.refl _ _⟩
  · rw [hd] at c5
    have HX : Hid (d.cut f n = (d, 2)) := by unfold DS.cut; rw [if_pos hd]; exact rfl
    clear hd
    go_enter Tryz.func104, Tryz.ntmps104
    go_wp2
    go_ret
    exact ⟨ret_int (by rw [HX.out]), us.ownBlock, by rw [HX.out]; exact ⟨hok, us, H.out, rfl⟩, Newer.refl _ _, Touch.refl _ _⟩
end Go.Proofs.YtpjpknndfhablaaGreat
namespace Go.Proofs.YtpjpknndfhablaaGreat
open Go.RowKit

set_option maxHeartbeats 1000000 in
theorem rnew_any (w : World) (ao : Option Addr) (cap : Nat) (l : List (List UInt8)) (h : Texts w ao l) :
    Calls Tryz.prog 8 #[.slice ao l.length cap] w fun e w' => Below w.heap.size w w' ∧ 
      ((DS.made l).1 = none ∧ e = .returned (.tuple #[.pointer none, .int .i64 (DS.made l).2]) ∨
      ∃ d c, (DS.made l).1 = some d ∧ e = .returned (.tuple #[.pointer (some ⟨c, 0, none⟩), .int .i64 0]) ∧ w.heap.size ≤ c ∧ RefAt w' c d none) := by
  have hlen := h.len
  by_cases h2 : l.length = 2
  · obtain ⟨s, t, rfl⟩ : ∃ s t, l = [s, t] := by
      match l, h2 with
      | [s, t], _ => exact ⟨s, t, rfl⟩
    obtain ⟨b, off, rfl, cs⟩ := h.cell 0 s rfl
    obtain ⟨b', off', hbo, ct⟩ := h.cell 1 t rfl
    simp only [Option.some.injEq, Addr.mk.injEq, and_true] at hbo
    obtain ⟨rfl, rfl⟩ := hbo
    have hlt := World.block_lt_of_cell? _ _ cs
    have hlt' : b < w.heap.size := hlt
    clear h hlen h2 hlt
    simp only [Nat.add_zero] at cs
    by_cases hs : s.length ≤ 1048576
    · by_cases ht : t.length ≤ 1048576
      · have HX : Hid (DS.made [s, t] = (some { a := s, b := t }, 0)) := by simp [DS.made, hs, ht, Hid]
        have hok : DS.Ok { a := s, b := t } := ⟨by simpa [DS.size, DS.file, DS.base, DS.of] using hs, by simpa [DS.size, DS.file, DS.base, DS.of] using ht, by simp, by simp⟩
        go_enter Tryz.func8, Tryz.ntmps8
        go_wp2
        go_region_held3 (fun w' => w'.cell? ⟨b, off, none⟩ = some (.string ⟨s.toArray⟩) ∧ w'.cell? ⟨b, off + 1, none⟩ = some (.string ⟨t.toArray⟩)) (first | exact ⟨cs, ct⟩ | exact ⟨cell_later (bthen (Below.refl _ w).drew (balloc _ _)) cs, cell_later (bthen (Below.refl _ w).drew (balloc _ _)) ct⟩) (fail)
        go_wp2
        go_ret2
        refine ⟨?_, .inr ⟨{ a := s, b := t }, w.heap.size, by rw [HX.out], rfl, Nat.le_refl _, hok, .slice none 0 0, ⟨heap_new w _, World.ownsRow_nil _ _ _ _⟩, rfl⟩⟩
        first
          | go_grown
          | exact (balloc w _).drew
      · have HX : Hid (DS.made [s, t] = (none, 91)) := by simp [DS.made, ht, Hid]
        go_enter Tryz.func8, Tryz.ntmps8
        go_wp2
        go_ret2
        exact ⟨Below.refl _ _, .inl ⟨congrArg Prod.fst HX.out, ret_two rfl (val_int (congrArg Prod.snd HX.out).symm)⟩⟩
    · have HX : Hid (DS.made [s, t] = (none, 91)) := by simp [DS.made, hs, Hid]
      go_enter Tryz.func8, Tryz.ntmps8
      go_wp2
      go_ret2
      exact ⟨Below.refl _ _, .inl ⟨congrArg Prod.fst HX.out, ret_two rfl (val_int (congrArg Prod.snd HX.out).symm)⟩⟩
  · have HX : Hid (DS.made l = (none, 90)) := by
      unfold DS.made
      match l, h2 with
      | [], _ => exact rfl
      | [_], _ => exact rfl
      | [_, _], h2 => exact absurd rfl h2
      | _ :: _ :: _ :: _, _ => exact rfl
    have hb : ((l.length : Int) == 2) = false := by simp; omega
    have hb' : ((l.length : Int) != 2) = true := by simp; omega
    clear h
    go_enter Tryz.func8, Tryz.ntmps8
    go_wp2
    go_ret2
    exact ⟨Below.refl _ _, .inl ⟨congrArg Prod.fst HX.out, ret_two rfl (val_int (congrArg Prod.snd HX.out).symm)⟩⟩

set_option maxHeartbeats 1000000 in
theorem same_any (w : World) (ao bo : Option Addr) (ca cb : Nat) (l m : List (List UInt8)) (h : Texts w ao l) (k : Texts w bo m) :
    Calls Tryz.prog 16 #[.slice ao l.length ca, .slice bo m.length cb] w fun e w' => e = .returned (.bool (decide (l = m))) ∧ Below w.heap.size w w' := by
  have hl := h.len
  have hm := k.len
  by_cases hlm : l.length = m.length
  · have HLM := Lib.hid hlm
    have hle : m.length ≤ l.length := by omega
    have hle' : l.length ≤ m.length := by omega
    have hb : ((l.length : Int) == (m.length : Int)) = true := by simp; omega
    have hb' : ((l.length : Int) != (m.length : Int)) = false := by simp; omega
    have HA := Lib.hid h
    have HK := Lib.hid k
    clear hlm h k
    go_enter Tryz.func16, Tryz.ntmps16
    go_wp2
    clear hb hb'
    go_loopw [5] (fun i wr => ∃ j : Nat, i = .int .i64 j ∧ j ≤ l.length ∧ l.take j = m.take j ∧ Below w.heap.size w wr) (fun i _ => l.length - (intOf i).toNat)
    case atStart => exact ⟨0, rfl, by omega, by simp, Below.refl _ _⟩
    case round =>
      obtain ⟨j, rfl, hj, htk, hbl⟩ := hrel
      have HT := Lib.hid htk
      have HB := Lib.hid hbl
      clear htk hbl
      by_cases hlt : j < l.length
      · have hlt' : j < m.length := by omega
        obtain ⟨b, off, rfl, cs⟩ := HA.out.cell j l[j] (List.getElem?_eq_getElem hlt)
        obtain ⟨b', off', rfl, ct⟩ := HK.out.cell j m[j] (List.getElem?_eq_getElem hlt')
        have HS : Hid (l.take (j + 1) = l.take j ++ [l[j]]) := List.take_succ_eq_append_getElem hlt
        have HS' : Hid (m.take (j + 1) = m.take j ++ [m[j]]) := List.take_succ_eq_append_getElem hlt'
        have HE : Hid (l[j] ≠ m[j] → l ≠ m) := fun h e => h (by subst e; rfl)
        have cs' := cell_later HB.out cs
        have ct' := cell_later HB.out ct
        generalize l[j] = s at cs' HS HE
        generalize m[j] = t at ct' HS' HE
        clear cs ct
        by_cases he : s = t
        · subst he
          go_wp2
          go_quiet (fail)
          go_wp2
          go_roundw
          case rel =>
            refine ⟨j + 1, by go_num, by omega, by rw [HS.out, HS'.out, HT.out], ?_⟩
            exact ((HB.out).trans ((below_drewN (Below.refl _ _) _).mono HB.out.size))
          case measure => simp [intOf]; omega
        · have hst : (s == t) = false := by simp [he]
          have HX : Hid (decide (l = m) = false) := by simp [HE.out he, Hid]
          clear he
          go_wp2
          go_quiet (fail)
          go_wp2
          go_ret
          exact ⟨ret_bool (by rw [HX.out]), (HB.out).trans ((below_drewN (Below.refl _ _) _).mono HB.out.size)⟩
      · have HX : Hid (decide (l = m) = true) := by
          have e1 : l.take j = l := List.take_of_length_le (by omega)
          have e2 : m.take j = m := List.take_of_length_le (by omega)
          have := HT.out
          rw [e1, e2] at this
          simp [this, Hid]
        go_wp2
        go_ret
        exact ⟨ret_bool (by rw [HX.out]), HB.out⟩
  · have HX : Hid (decide (l = m) = false) := by
      have : ¬ l = m := fun e => hlm (by rw [e])
      simp [this, Hid]
    have hb : ((l.length : Int) == (m.length : Int)) = false := by simp; omega
    have hb' : ((l.length : Int) != (m.length : Int)) = true := by simp; omega
    clear h k hlm
    go_enter Tryz.func16, Tryz.ntmps16
    go_wp2
    go_ret
    exact ⟨ret_bool (by rw [HX.out]), Below.refl _ _⟩
end Go.Proofs.YtpjpknndfhablaaGreat
