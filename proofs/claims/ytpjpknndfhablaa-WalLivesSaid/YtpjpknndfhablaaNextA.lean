/- Walk of the law's next: the state behind a call. -/
import Derived.Test.YtpjpknndfhablaaNextW
import Derived.Laws.Rows
import Derived.Laws.ResultCell
namespace Go.Proofs.Ytpjpknndfhablaa
open Go.RowKit
/-- The state behind a call; is all safe then? -/
def nextS (x : StV) (k : Int) (s : List UInt8) : StV × Bool := if k = 0 then ((x.1, x.2 ++ [s]), false) else if k = 1 then (x, true) else ((s, []), true)
structure NextLeft (w : World) (x : StV) (b : Bool) (e : Ending) (w' : World) : Prop where
  out : ∃ v, e = .returned (.tuple #[.agg #[.string ⟨x.1.toArray⟩, v], .bool b]) ∧ Row w' v x.2
  old : Below w.heap.size w w'
theorem Try.stSize : (Try.prog.info? 79).map (·.size) = some 2 := by kernel_rfl
theorem next_results {tmps : Array Value} {w : World} {g : Nat} {a b c : Value} {fr : Nat × Nat} (hp : tmps.getD 4 undef = .pointer (some ⟨g, 0, none⟩)) (hc : tmps.getD 5 undef = c) (hg : w.heap[g]? = some (.cells #[a, b] 79 fr)) :
    (results Try.f86 tmps).run Try.prog w = .ok (.tuple #[.agg #[a, b], c]) w := by
  subst hc
  rw [results_cell_tmp (p := 4) (u := 5) (ty := 79) rfl, hp]
  simp [asAddr, Result.andThen, run_loadVar_row w g 79 79 #[a, b] fr _ hg Try.underlying79 rfl Try.stSize]
set_option maxHeartbeats 2000000 in
set_option maxRecDepth 100000 in
theorem next_sync (w : World) (x : StV) (v : Value) (on a b : Int) (s : List UInt8) (hv : Row w v x.2) :
    Calls Try.prog 86 #[.agg #[.string ⟨x.1.toArray⟩, v], .agg #[.int .i64 on, .int .i64 1, .int .i64 a, .int .i64 b, .string ⟨s.toArray⟩]] w (NextLeft w x true) := by
  have HV := Lib.hid hv
  obtain ⟨gv, cv, _, rfl, _⟩ := hv
  go_enter Try.func86, Try.ntmps86
  go_wp2
  have hb := bthen (balloc w (.cells #[.string ⟨x.1.toArray⟩, .slice (some ⟨gv, 0, none⟩) x.2.length cv] 79)) (bthen (balloc _ (.cells #[.int .i64 on, .int .i64 1, .int .i64 a, .int .i64 b, .string ⟨s.toArray⟩] 65)) (balloc _ (.cells #[.string ⟨x.1.toArray⟩, .slice (some ⟨gv, 0, none⟩) x.2.length cv] 79)))
  refine bodyPost_ret (next_results rfl rfl (g := w.heap.size + 1 + 1) (by have := heap_new ((w.alloc (.cells #[.string ⟨x.1.toArray⟩, .slice (some ⟨gv, 0, none⟩) x.2.length cv] 79)).alloc (.cells #[.int .i64 on, .int .i64 1, .int .i64 a, .int .i64 b, .string ⟨s.toArray⟩] 65)) (.cells #[.string ⟨x.1.toArray⟩, .slice (some ⟨gv, 0, none⟩) x.2.length cv] 79); simpa using this)) rfl ?_
  exact ⟨⟨_, rfl, HV.out.below hb⟩, hb⟩
theorem boxes3 {w : World} (A B C : Obj) {W : World} (h : ((w.alloc A).alloc B).alloc C = W) : W.heap[w.heap.size]? = some A ∧ W.heap[w.heap.size + 1]? = some B ∧ W.heap[w.heap.size + 1 + 1]? = some C ∧ Below w.heap.size w W := by
  subst h
  have n0 := heap_new w A
  have b0 := balloc w A
  have z0 : (w.alloc A).heap.size = w.heap.size + 1 := by simp
  generalize w.alloc A = wa at n0 b0 z0 ⊢
  have n1 := heap_new wa B
  have b1 := balloc wa B
  have z1 : (wa.alloc B).heap.size = w.heap.size + 1 + 1 := by simp [z0]
  generalize wa.alloc B = wb at n1 b1 z1 ⊢
  have n2 := heap_new wb C
  have b2 := balloc wb C
  rw [z0] at n1
  rw [z1] at n2
  exact ⟨stays n0 (bthen b1 b2), stays n1 b2, n2, bthen b0 (bthen b1 b2)⟩
set_option maxHeartbeats 2000000 in
set_option maxRecDepth 100000 in
theorem next_other (w : World) (x : StV) (v : Value) (on k a b : Int) (s : List UInt8) (hv : Row w v x.2) (h0 : (k == 0) = false) (h1 : (k == 1) = false) :
    Calls Try.prog 86 #[.agg #[.string ⟨x.1.toArray⟩, v], .agg #[.int .i64 on, .int .i64 k, .int .i64 a, .int .i64 b, .string ⟨s.toArray⟩]] w (NextLeft w (s, []) true) := by
  obtain ⟨gv, cv, _, rfl, _⟩ := hv
  go_enter Try.func86, Try.ntmps86
  go_wp2
  obtain ⟨W3, hW3⟩ : ∃ W, ((w.alloc (.cells #[.string ⟨x.1.toArray⟩, .slice (some ⟨gv, 0, none⟩) x.2.length cv] 79)).alloc (.cells #[.int .i64 on, .int .i64 k, .int .i64 a, .int .i64 b, .string ⟨s.toArray⟩] 65)).alloc (.cells #[.string ⟨s.toArray⟩, .slice (some ⟨w.heap.size + 1 + 1 + 1, 0, none⟩) 0 0] 79) = W := ⟨_, rfl⟩
  obtain ⟨_, _, n2, hb3⟩ := boxes3 _ _ _ hW3
  have hz : W3.heap.size = w.heap.size + 1 + 1 + 1 := by rw [← hW3]; simp
  have hr := row_empty W3
  rw [hz] at hr
  rw [hW3]
  have hbd := balloc W3 (.cells #[] 9)
  refine bodyPost_ret (next_results rfl rfl (g := w.heap.size + 1 + 1) (stays n2 hbd)) rfl ?_
  exact ⟨⟨_, rfl, hr⟩, bthen hb3 hbd⟩
theorem own_lo' {w : World} {base e size n : Nat} {v : Value} {xs : List Value} (h : w.ownsRow base e size v n xs) (k : Nat) (hk : v.ownBlock = some k) : base ≤ k := by
  rcases h.2 with ⟨hv, _⟩ | ⟨g, cap, cur, hv, hb, _⟩
  · rw [hv] at hk; cases hk
  · rw [hv] at hk
    have e1 : g = k := Option.some.inj hk
    subst e1
    exact hb
theorem own_lt' {w : World} {base e size n b m c : Nat} {xs : List Value} (h : w.ownsRow base e size (.slice (some ⟨b, 0, none⟩) m c) n xs) : b < w.heap.size := by
  rcases h.2 with ⟨hv, _⟩ | ⟨g, cap, cur, hv, hb, hg, _⟩
  · cases hv
  · cases hv
    exact heap_lt hg
theorem Row.news {w : World} {rs : List (List UInt8)} {g cap : Nat} (h : Row w (.slice (some ⟨g, 0, none⟩) rs.length cap) rs) : ∀ (j : Nat) (u : Value), (strs rs)[j]? = some u → w.cell? ((⟨g, 0, none⟩ : Addr).add j) = some u := by
  obtain ⟨g', cap', cur, hv, hg, hc⟩ := h
  cases hv
  intro j u hu
  simp only [strs, List.getElem?_map] at hu
  obtain ⟨s, hs, rfl⟩ := Option.map_eq_some_iff.1 hu
  rw [addr_add, Nat.zero_add]
  exact cell_of hg (hc j s hs)
theorem strs_one (rs : List (List UInt8)) : ∀ u ∈ strs rs, u.oneCell' = true := by
  intro u hu
  simp only [strs, List.mem_map] at hu
  obtain ⟨s, _, rfl⟩ := hu
  rfl
theorem own_snoc {w : World} {base : Nat} {v : Value} {rs : List (List UInt8)} {s : List UInt8} (h : w.ownsRow base 9 1 v (rs.length + 1) (strs rs ++ [.string ⟨s.toArray⟩])) : ∃ g c, v = .slice (some ⟨g, 0, none⟩) (rs.length + 1) c ∧ Row w (.slice (some ⟨g, 0, none⟩) (rs.length + 1) c) (rs ++ [s]) := by
  rcases h.2 with ⟨_, h0⟩ | ⟨g, cap, cur, hv, hb, hg, _⟩
  · omega
  · refine ⟨g, cap, hv, ?_⟩
    rw [hv] at h
    exact row_own (rs := rs ++ [s]) (by rw [show strs (rs ++ [s]) = strs rs ++ [.string ⟨s.toArray⟩] by simp [strs]]; exact h)
theorem set_two {W : World} {N : Nat} {a b u v : Value} {t : TypeId} (h : W.heap[N]? = some (.cells #[a, b] t (0, 0))) : ((W.setCell ⟨N, 0, none⟩ u).setCell ⟨N, 1, none⟩ v).heap[N]? = some (.cells #[u, v] t (0, 0)) := by
  have := heap_set (i := 1) v (heap_set (i := 0) u h)
  simpa using this
theorem cell_apart {w : World} {N b i : Nat} {u v x : Value} (h : w.cell? ⟨b, i, none⟩ = some x) (hne : b ≠ N) : ((w.setCell ⟨N, 0, none⟩ u).setCell ⟨N, 1, none⟩ v).cell? ⟨b, i, none⟩ = some x := by
  rw [World.cell?_setCell_other _ _ _ _ (by intro e; simp only [Addr.mk.injEq] at e; omega), World.cell?_setCell_other _ _ _ _ (by intro e; simp only [Addr.mk.injEq] at e; omega)]
  exact h
theorem next_end {w W : World} {N : Nat} (hb : Below w.heap.size w W) (hN : w.heap.size ≤ N) {a b u v : Value} (h : W.heap[N]? = some (.cells #[a, b] 79 (0, 0))) {rv : Value} {x : List UInt8} {rs : List (List UInt8)} (hrow : Row W rv rs) :
    NextLeft w (x, rs) false (.returned (.tuple #[.agg #[.string ⟨x.toArray⟩, rv], .bool false])) ((W.setCell ⟨N, 0, none⟩ u).setCell ⟨N, 1, none⟩ v) := by
  refine ⟨⟨rv, rfl, ?_⟩, (hb.setCell (p := ⟨N, 0, none⟩) hN _).setCell (p := ⟨N, 1, none⟩) hN _⟩
  have ht : Touch (· = N) W ((W.setCell ⟨N, 0, none⟩ u).setCell ⟨N, 1, none⟩ v) := ((Touch.refl (· = N) W).setCell (a := ⟨N, 0, none⟩) _ (fun _ => rfl)).setCell (a := ⟨N, 1, none⟩) _ (fun _ => rfl)
  exact hrow.keepsOff (.of_touch (ts := [79]) (by rintro k rfl; exact ⟨_, _, _, h, by simp⟩) ht) (by decide)
section
variable {P : Program} {Q : Exit → Act → World → Prop} {S : World → Prop} {l r1 r2 : List Oper}
/-- In a held region: one of two operations may come up. -/
theorem wpAnyH_twoL {i j : Nat} {o p : Oper} {fuel : Nat} {listed : Array Bool} {a : Act} {w : World} (hi : l.drop i = o :: r1) (hj : l.drop j = p :: r2) (hr : Region.ready .any l.toArray listed = [i, j])
    (h1 : ∀ K : Act → World → Prop, (∀ a w, S w → wpAnyH P .any l.toArray Q S fuel (listed.setIfInBounds i true) a w → K a w) → if Region.wanted o (yielded l.toArray a.tmps) = true then Oper.wp P o a w K Q else K (a.put o.dst undef) w)
    (h2 : ∀ K : Act → World → Prop, (∀ a w, S w → wpAnyH P .any l.toArray Q S fuel (listed.setIfInBounds j true) a w → K a w) → if Region.wanted p (yielded l.toArray a.tmps) = true then Oper.wp P p a w K Q else K (a.put p.dst undef) w) :
    wpAnyH P .any l.toArray Q S (fuel + 1) listed a w := by
  refine wpAnyH_all hr (by simp) (fun k hk => ?_)
  simp only [List.mem_cons, List.not_mem_nil, or_false] at hk
  rcases hk with rfl | rfl
  · exact wpOp_step (at_drop hi) (fun K hK => h1 K (fun a w hS hW => hK a w ⟨hS, hW⟩))
  · exact wpOp_step (at_drop hj) (fun K hK => h2 K (fun a w hS hW => hK a w ⟨hS, hW⟩))
end
set_option maxHeartbeats 4000000 in
set_option maxRecDepth 100000 in
theorem next_append (w : World) (x : StV) (v : Value) (on a b : Int) (s : List UInt8) (hv : Row w v x.2) (hlen : x.2.length ≤ 4000000000000) :
    Calls Try.prog 86 #[.agg #[.string ⟨x.1.toArray⟩, v], .agg #[.int .i64 on, .int .i64 0, .int .i64 a, .int .i64 b, .string ⟨s.toArray⟩]] w (NextLeft w (x.1, x.2 ++ [s]) false) := by
  have HV := Lib.hid hv
  obtain ⟨gv, cv, _, rfl, _⟩ := hv
  go_enter Try.func86, Try.ntmps86
  go_wp2_with fail
  obtain ⟨w3, hw3⟩ : ∃ W, ((w.alloc (.cells #[.string ⟨x.1.toArray⟩, .slice (some ⟨gv, 0, none⟩) x.2.length cv] 79)).alloc (.cells #[.int .i64 on, .int .i64 0, .int .i64 a, .int .i64 b, .string ⟨s.toArray⟩] 65)).alloc (.cells #[.string ⟨#[]⟩, .slice none 0 0] 79) = W := ⟨_, rfl⟩
  obtain ⟨n0, n1, n2, hb3⟩ := boxes3 _ _ _ hw3
  have HLO : Hid (w.heap.size ≤ w.heap.size + 1 + 1) := Lib.hid (by omega)
  obtain ⟨N0, hN0⟩ : ∃ N, w.heap.size = N := ⟨_, rfl⟩
  rw [hN0] at n0 n1 n2
  first | rw [hw3] | skip
  refine wp_region_heldL (S := fun w' => w'.cell? ⟨N0, 0, none⟩ = some (.string ⟨x.1.toArray⟩) ∧ w'.cell? ⟨N0, 1, none⟩ = some (.slice (some ⟨gv, 0, none⟩) x.2.length cv) ∧ w'.cell? ⟨N0 + 1, 4, none⟩ = some (.string ⟨s.toArray⟩)) (by kernel_rfl) ?_
  have hHN2 : w3.heap[N0 + 1 + 1]? = some (.cells #[.string ⟨#[]⟩, .slice none 0 0] 79 (0, 0)) := n2
  obtain ⟨W0, hW0⟩ : ∃ W, w3.drew = W := ⟨_, rfl⟩
  have HB0 : Hid (Below w.heap.size w W0) := Lib.hid (by rw [← hW0]; exact bthen hb3 (Below.refl _ _).drew)
  have hh : ∀ k : Nat, W0.heap[k]? = w3.heap[k]? := fun k => by rw [← hW0]; rfl
  have m0 := (hh N0).trans n0
  have m1 := (hh (N0 + 1)).trans n1
  have m2 := (hh (N0 + 1 + 1)).trans hHN2
  have HN2 := Lib.hid m2
  rw [hW0]
  obtain ⟨BB, hBB⟩ : ∃ B, W0.heap.size = B := ⟨_, rfl⟩
  have HSZ0 : Hid (BB ≤ W0.heap.size) := Lib.hid (by omega)
  have HBE := Lib.hid hBB
  have hlt2 := heap_lt m2
  rw [hBB] at hlt2
  clear hBB
  obtain ⟨c0, c1, _, _⟩ := cells2 m0
  have c4 : W0.cell? ⟨N0 + 1, 4, none⟩ = some (.string ⟨s.toArray⟩) := cell_of m1 rfl
  have HBB : Hid (∀ w' : World, Below W0.heap.size W0 w' → (w'.cell? ⟨N0, 0, none⟩ = some (.string ⟨x.1.toArray⟩) ∧ w'.cell? ⟨N0, 1, none⟩ = some (.slice (some ⟨gv, 0, none⟩) x.2.length cv) ∧ w'.cell? ⟨N0 + 1, 4, none⟩ = some (.string ⟨s.toArray⟩))) :=
    fun w' hb => ⟨cell_later hb c0, cell_later hb c1, cell_later hb c4⟩
  have HST : Hid (∀ (w' : World) (u v : Value), Below W0.heap.size W0 w' → (((w'.setCell ⟨N0 + 1 + 1, 0, none⟩ u).setCell ⟨N0 + 1 + 1, 1, none⟩ v).cell? ⟨N0, 0, none⟩ = some (.string ⟨x.1.toArray⟩) ∧ ((w'.setCell ⟨N0 + 1 + 1, 0, none⟩ u).setCell ⟨N0 + 1 + 1, 1, none⟩ v).cell? ⟨N0, 1, none⟩ = some (.slice (some ⟨gv, 0, none⟩) x.2.length cv) ∧ ((w'.setCell ⟨N0 + 1 + 1, 0, none⟩ u).setCell ⟨N0 + 1 + 1, 1, none⟩ v).cell? ⟨N0 + 1, 4, none⟩ = some (.string ⟨s.toArray⟩))) :=
    fun w' u v hb => ⟨cell_apart (cell_later hb c0) (by omega), cell_apart (cell_later hb c1) (by omega), cell_apart (cell_later hb c4) (by omega)⟩
  have hS0 := HBB.out W0 (Below.refl _ _)
  have HBL0 : Hid (Below W0.heap.size W0 W0) := Lib.hid (Below.refl _ _)
  clear hw3 hW0 n0 n1 n2 hb3 hHN2 m0 m1 m2 c0 c1 c4 hh
  refine wpAnyH_takeL (i := 0) (v := ?_) rfl (by kernel_rfl) (by kernel_rfl) (by kernel_rfl) (fun _ _ _ h => h) ?_ (by assumption) ?_; rotate_left; focus (first | (refine Or.inr ⟨by rfl, ?_⟩; with_reducible rfl) | (refine Or.inl ⟨by rfl, ?_⟩; (intro w hSw; (try dsimp only at hSw); go_simp); try with_reducible rfl))
  try simp only [Act.put, List.setIfInBounds_toArray, List.set_cons_zero, List.set_cons_succ]
  refine wpAnyH_takeL (i := 1) (v := ?_) rfl (by kernel_rfl) (by kernel_rfl) (by kernel_rfl) (fun _ _ _ h => h) ?_ (by assumption) ?_; rotate_left; focus (first | (refine Or.inr ⟨by rfl, ?_⟩; with_reducible rfl) | (refine Or.inl ⟨by rfl, ?_⟩; (intro w hSw; (try dsimp only at hSw); go_simp); try with_reducible rfl))
  try simp only [Act.put, List.setIfInBounds_toArray, List.set_cons_zero, List.set_cons_succ]
  refine wpAnyH_takeL (i := 3) (v := ?_) rfl (by kernel_rfl) (by kernel_rfl) (by kernel_rfl) (fun _ _ _ h => h) ?_ (by assumption) ?_; rotate_left; focus (first | (refine Or.inr ⟨by rfl, ?_⟩; with_reducible rfl) | (refine Or.inl ⟨by rfl, ?_⟩; (intro w hSw; (try dsimp only at hSw); go_simp); try with_reducible rfl))
  try simp only [Act.put, List.setIfInBounds_toArray, List.set_cons_zero, List.set_cons_succ]
  refine wpAnyH_takeL (i := 4) (v := ?_) rfl (by kernel_rfl) (by kernel_rfl) (by kernel_rfl) (fun _ _ _ h => h) ?_ (by assumption) ?_; rotate_left; focus (first | (refine Or.inr ⟨by rfl, ?_⟩; with_reducible rfl) | (refine Or.inl ⟨by rfl, ?_⟩; (intro w hSw; (try dsimp only at hSw); go_simp); try with_reducible rfl))
  try simp only [Act.put, List.setIfInBounds_toArray, List.set_cons_zero, List.set_cons_succ]
  refine wpAnyH_takeL (i := 6) (v := ?_) rfl (by kernel_rfl) (by kernel_rfl) (by kernel_rfl) (fun _ _ _ h => h) ?_ (by assumption) ?_; rotate_left; focus (first | (refine Or.inr ⟨by rfl, ?_⟩; with_reducible rfl) | (refine Or.inl ⟨by rfl, ?_⟩; (intro w hSw; (try dsimp only at hSw); go_simp); try with_reducible rfl))
  try simp only [Act.put, List.setIfInBounds_toArray, List.set_cons_zero, List.set_cons_succ]
  refine wpAnyH_takeL (i := 7) (v := ?_) rfl (by kernel_rfl) (by kernel_rfl) (by kernel_rfl) (fun _ _ _ h => h) ?_ (by assumption) ?_; rotate_left; focus (first | (refine Or.inr ⟨by rfl, ?_⟩; with_reducible rfl) | (refine Or.inl ⟨by rfl, ?_⟩; (intro w hSw; (try dsimp only at hSw); go_simp); try with_reducible rfl))
  try simp only [Act.put, List.setIfInBounds_toArray, List.set_cons_zero, List.set_cons_succ]
  refine wpAnyH_twoL (i := 2) (j := 8) rfl rfl (by kernel_rfl) ?_ ?_
  · intro K hK
    rw [if_pos (by rfl)]
    go_simp
    have b1 := balloc W0 (.cells #[] 9)
    have E12_1 : Hid ((W0.alloc (.cells #[] 9)).ownsRow BB 9 1 (.slice (some ⟨W0.heap.size, 0, none⟩) 0 0) 0 []) := Lib.hid ⟨rfl, .inr ⟨W0.heap.size, 0, #[], rfl, HSZ0.out, heap_new W0 _, Nat.le_refl _, by decide, rfl, rfl⟩⟩
    obtain ⟨b12, hb12⟩ : ∃ b, W0.heap.size = b := ⟨_, rfl⟩
    rw [hb12] at E12_1 ⊢
    obtain ⟨W1, hW1⟩ : ∃ W, W0.alloc (.cells #[] 9) = W := ⟨_, rfl⟩
    rw [hW1] at b1 E12_1 ⊢
    have HBL1 := Lib.hid (bthen HBL0.out b1)
    clear hW1
    refine hK _ _ (HBB.out _ HBL1.out) ?_
    clear hK K
    try simp only [Act.put, List.setIfInBounds_toArray, List.set_cons_zero, List.set_cons_succ]
    have HSZ1 := Lib.hid (Nat.le_trans HSZ0.out HBL1.out.size)
    refine wpAnyH_twoL (i := 5) (j := 8) rfl rfl (by kernel_rfl) ?_ ?_
    · intro K hK
      rw [if_pos (by rfl)]
      refine wp_append_own2 W1 (.tmp 12) (.tmp 14) 22 rfl BB 9 1 16 _ Try.stringInfo Try.underlying22 rfl (by decide) (.slice (some ⟨b12, 0, none⟩) 0 0) 0 [] rfl E12_1.out ⟨gv, 0, none⟩ x.2.length cv (strs x.2) rfl (by simp [strs]) ((HV.out.below (bthen HB0.out HBL1.out)).news) (strs_one _) (by unfold maxLen; omega) (by omega) (Nat.le_trans HSZ0.out HBL1.out.size) ?_
      intro v15 W2 ho hg _
      have V15_2 : Hid (W2.ownsRow BB 9 1 v15 x.2.length (strs x.2)) := Lib.hid (by rw [Nat.zero_add, List.nil_append] at ho; exact ho)
      have ht := touch_of_grown hg
      have HBL2 : Hid (Below W0.heap.size W0 W2) := Lib.hid (HBL1.out.trans (ht.below HBL1.out.size (fun k hk e => by have := own_lo' E12_1.out k e; have := HBE.out; omega)))
      clear ho hg ht
      refine hK _ _ (HBB.out _ HBL2.out) ?_
      clear hK K
      try simp only [Act.put, List.setIfInBounds_toArray, List.set_cons_zero, List.set_cons_succ]
      have HSZ2 := Lib.hid (Nat.le_trans HSZ0.out HBL2.out.size)
      refine wpAnyH_oneL (i := 8) rfl (by kernel_rfl) ?_
      intro K hK
      rw [if_pos (by rfl)]
      go_simp
      have b3 := balloc W2 (.cells #[.string ⟨s.toArray⟩] 9)
      have X18_3 := Lib.hid (heap_new W2 (.cells #[.string ⟨s.toArray⟩] 9))
      obtain ⟨b18, hb18⟩ : ∃ b, W2.heap.size = b := ⟨_, rfl⟩
      rw [hb18] at X18_3 ⊢
      obtain ⟨W3, hW3⟩ : ∃ W, W2.alloc (.cells #[.string ⟨s.toArray⟩] 9) = W := ⟨_, rfl⟩
      rw [hW3] at b3 X18_3 ⊢
      have V15_3 := Lib.hid (KeepsOff.own (ts := []) (.below b3) V15_2.out (by simp))
      have HBL3 := Lib.hid (bthen HBL2.out b3)
      clear hW3
      refine hK _ _ (HBB.out _ HBL3.out) ?_
      clear hK K
      try simp only [Act.put, List.setIfInBounds_toArray, List.set_cons_zero, List.set_cons_succ]
      have HSZ3 := Lib.hid (Nat.le_trans HSZ0.out HBL3.out.size)
      refine wpAnyH_oneL (i := 9) rfl (by kernel_rfl) ?_
      intro K hK
      rw [if_pos (by rfl)]
      refine wp_append_own2 W3 (.tmp 15) (.tmp 18) 22 rfl BB 9 1 16 _ Try.stringInfo Try.underlying22 rfl (by decide) v15 x.2.length (strs x.2) rfl V15_3.out ⟨b18, 0, none⟩ 1 1 [.string ⟨s.toArray⟩] rfl rfl (fun i u hi => by rw [addr_add, Nat.zero_add]; exact cell_of X18_3.out (by simpa using hi)) (by intro u hu; simp at hu; subst hu; rfl) (by unfold maxLen; omega) (by omega) HSZ3.out ?_
      intro v19 W4 ho hg _
      obtain ⟨g19, c19, rfl, hrow⟩ := own_snoc ho
      have HROW := Lib.hid hrow
      have HBL4 : Hid (Below W0.heap.size W0 W4) := Lib.hid (HBL3.out.trans ((touch_of_grown hg).below HBL3.out.size (fun k hk e => by have := own_lo' V15_3.out k e; have := HBE.out; omega)))
      clear ho hg hrow
      refine hK _ _ (HBB.out _ HBL4.out) ?_
      clear hK K
      try simp only [Act.put, List.setIfInBounds_toArray, List.set_cons_zero, List.set_cons_succ]
      refine wpAnyH_oneL (i := 10) rfl (by kernel_rfl) ?_
      intro K hK
      rw [if_pos (by rfl)]
      go_simp
      refine hK _ _ (HBB.out _ HBL4.out) ?_
      clear hK K
      try simp only [Act.put, List.setIfInBounds_toArray, List.set_cons_zero, List.set_cons_succ]
      have N2 := stays HN2.out HBL4.out
      obtain ⟨z0, z1, zf, _⟩ := cells2 N2
      have zf0 := zf 0
      have zf1 := zf 1
      clear zf
      refine wpAnyH_oneL (i := 11) rfl (by kernel_rfl) ?_
      intro K hK
      rw [if_pos (by rfl)]
      go_simp
      refine hK _ _ (HST.out _ _ _ HBL4.out) ?_
      clear hK K z0 z1 zf0 zf1
      try simp only [Act.put, List.setIfInBounds_toArray, List.set_cons_zero, List.set_cons_succ]
      refine wpAnyH_oneL (i := 12) rfl (by kernel_rfl) ?_
      intro K hK
      rw [if_pos (by rfl)]
      go_simp
      refine hK _ _ (HST.out _ _ _ HBL4.out) ?_
      clear hK K
      try simp only [Act.put, List.setIfInBounds_toArray, List.set_cons_zero, List.set_cons_succ]
      refine wpAnyH_done (by kernel_rfl) ?_ _
      go_wp2
      refine bodyPost_ret (next_results rfl rfl (g := N0 + 1 + 1) (set_two N2)) rfl ?_
      exact next_end (bthen HB0.out HBL4.out) (by omega) N2 HROW.out
    · intro K hK
      rw [if_pos (by rfl)]
      go_simp
      have b2 := balloc W1 (.cells #[.string ⟨s.toArray⟩] 9)
      have X18_2 := Lib.hid (heap_new W1 (.cells #[.string ⟨s.toArray⟩] 9))
      obtain ⟨b18, hb18⟩ : ∃ b, W1.heap.size = b := ⟨_, rfl⟩
      rw [hb18] at X18_2 ⊢
      have hne18 : ¬ b18 = b12 := by have := own_lt' E12_1.out; omega
      obtain ⟨W2, hW2⟩ : ∃ W, W1.alloc (.cells #[.string ⟨s.toArray⟩] 9) = W := ⟨_, rfl⟩
      rw [hW2] at b2 X18_2 ⊢
      have E12_2 := Lib.hid (KeepsOff.own (ts := []) (.below b2) E12_1.out (by simp))
      have HBL2 := Lib.hid (bthen HBL1.out b2)
      clear hW2
      refine hK _ _ (HBB.out _ HBL2.out) ?_
      clear hK K
      try simp only [Act.put, List.setIfInBounds_toArray, List.set_cons_zero, List.set_cons_succ]
      have HSZ2 := Lib.hid (Nat.le_trans HSZ0.out HBL2.out.size)
      refine wpAnyH_oneL (i := 5) rfl (by kernel_rfl) ?_
      intro K hK
      rw [if_pos (by rfl)]
      refine wp_append_own2 W2 (.tmp 12) (.tmp 14) 22 rfl BB 9 1 16 _ Try.stringInfo Try.underlying22 rfl (by decide) (.slice (some ⟨b12, 0, none⟩) 0 0) 0 [] rfl E12_2.out ⟨gv, 0, none⟩ x.2.length cv (strs x.2) rfl (by simp [strs]) ((HV.out.below (bthen HB0.out HBL2.out)).news) (strs_one _) (by unfold maxLen; omega) (by omega) (Nat.le_trans HSZ0.out HBL2.out.size) ?_
      intro v15 W3 ho hg _
      have V15_3 : Hid (W3.ownsRow BB 9 1 v15 x.2.length (strs x.2)) := Lib.hid (by rw [Nat.zero_add, List.nil_append] at ho; exact ho)
      have ht := touch_of_grown hg
      have X18_3 := Lib.hid ((ht.block b18 (heap_lt X18_2.out) (fun e => hne18 (Option.some.inj e).symm)).trans X18_2.out)
      have HBL3 : Hid (Below W0.heap.size W0 W3) := Lib.hid (HBL2.out.trans (ht.below HBL2.out.size (fun k hk e => by have := own_lo' E12_2.out k e; have := HBE.out; omega)))
      clear ho hg ht
      refine hK _ _ (HBB.out _ HBL3.out) ?_
      clear hK K
      try simp only [Act.put, List.setIfInBounds_toArray, List.set_cons_zero, List.set_cons_succ]
      have HSZ3 := Lib.hid (Nat.le_trans HSZ0.out HBL3.out.size)
      refine wpAnyH_oneL (i := 9) rfl (by kernel_rfl) ?_
      intro K hK
      rw [if_pos (by rfl)]
      refine wp_append_own2 W3 (.tmp 15) (.tmp 18) 22 rfl BB 9 1 16 _ Try.stringInfo Try.underlying22 rfl (by decide) v15 x.2.length (strs x.2) rfl V15_3.out ⟨b18, 0, none⟩ 1 1 [.string ⟨s.toArray⟩] rfl rfl (fun i u hi => by rw [addr_add, Nat.zero_add]; exact cell_of X18_3.out (by simpa using hi)) (by intro u hu; simp at hu; subst hu; rfl) (by unfold maxLen; omega) (by omega) HSZ3.out ?_
      intro v19 W4 ho hg _
      obtain ⟨g19, c19, rfl, hrow⟩ := own_snoc ho
      have HROW := Lib.hid hrow
      have HBL4 : Hid (Below W0.heap.size W0 W4) := Lib.hid (HBL3.out.trans ((touch_of_grown hg).below HBL3.out.size (fun k hk e => by have := own_lo' V15_3.out k e; have := HBE.out; omega)))
      clear ho hg hrow
      refine hK _ _ (HBB.out _ HBL4.out) ?_
      clear hK K
      try simp only [Act.put, List.setIfInBounds_toArray, List.set_cons_zero, List.set_cons_succ]
      refine wpAnyH_oneL (i := 10) rfl (by kernel_rfl) ?_
      intro K hK
      rw [if_pos (by rfl)]
      go_simp
      refine hK _ _ (HBB.out _ HBL4.out) ?_
      clear hK K
      try simp only [Act.put, List.setIfInBounds_toArray, List.set_cons_zero, List.set_cons_succ]
      have N2 := stays HN2.out HBL4.out
      obtain ⟨z0, z1, zf, _⟩ := cells2 N2
      have zf0 := zf 0
      have zf1 := zf 1
      clear zf
      refine wpAnyH_oneL (i := 11) rfl (by kernel_rfl) ?_
      intro K hK
      rw [if_pos (by rfl)]
      go_simp
      refine hK _ _ (HST.out _ _ _ HBL4.out) ?_
      clear hK K z0 z1 zf0 zf1
      try simp only [Act.put, List.setIfInBounds_toArray, List.set_cons_zero, List.set_cons_succ]
      refine wpAnyH_oneL (i := 12) rfl (by kernel_rfl) ?_
      intro K hK
      rw [if_pos (by rfl)]
      go_simp
      refine hK _ _ (HST.out _ _ _ HBL4.out) ?_
      clear hK K
      try simp only [Act.put, List.setIfInBounds_toArray, List.set_cons_zero, List.set_cons_succ]
      refine wpAnyH_done (by kernel_rfl) ?_ _
      go_wp2
      refine bodyPost_ret (next_results rfl rfl (g := N0 + 1 + 1) (set_two N2)) rfl ?_
      exact next_end (bthen HB0.out HBL4.out) (by omega) N2 HROW.out
  · intro K hK
    rw [if_pos (by rfl)]
    go_simp
    have b1 := balloc W0 (.cells #[.string ⟨s.toArray⟩] 9)
    have X18_1 := Lib.hid (heap_new W0 (.cells #[.string ⟨s.toArray⟩] 9))
    obtain ⟨b18, hb18⟩ : ∃ b, W0.heap.size = b := ⟨_, rfl⟩
    rw [hb18] at X18_1 ⊢
    obtain ⟨W1, hW1⟩ : ∃ W, W0.alloc (.cells #[.string ⟨s.toArray⟩] 9) = W := ⟨_, rfl⟩
    rw [hW1] at b1 X18_1 ⊢
    have HBL1 := Lib.hid (bthen HBL0.out b1)
    clear hW1
    refine hK _ _ (HBB.out _ HBL1.out) ?_
    clear hK K
    try simp only [Act.put, List.setIfInBounds_toArray, List.set_cons_zero, List.set_cons_succ]
    have HSZ1 := Lib.hid (Nat.le_trans HSZ0.out HBL1.out.size)
    refine wpAnyH_oneL (i := 2) rfl (by kernel_rfl) ?_
    intro K hK
    rw [if_pos (by rfl)]
    go_simp
    have b2 := balloc W1 (.cells #[] 9)
    have E12_2 : Hid ((W1.alloc (.cells #[] 9)).ownsRow BB 9 1 (.slice (some ⟨W1.heap.size, 0, none⟩) 0 0) 0 []) := Lib.hid ⟨rfl, .inr ⟨W1.heap.size, 0, #[], rfl, HSZ1.out, heap_new W1 _, Nat.le_refl _, by decide, rfl, rfl⟩⟩
    obtain ⟨b12, hb12⟩ : ∃ b, W1.heap.size = b := ⟨_, rfl⟩
    rw [hb12] at E12_2 ⊢
    have hne18 : ¬ b18 = b12 := by have := heap_lt X18_1.out; omega
    obtain ⟨W2, hW2⟩ : ∃ W, W1.alloc (.cells #[] 9) = W := ⟨_, rfl⟩
    rw [hW2] at b2 E12_2 ⊢
    have X18_2 := Lib.hid (stays X18_1.out b2)
    have HBL2 := Lib.hid (bthen HBL1.out b2)
    clear hW2
    refine hK _ _ (HBB.out _ HBL2.out) ?_
    clear hK K
    try simp only [Act.put, List.setIfInBounds_toArray, List.set_cons_zero, List.set_cons_succ]
    have HSZ2 := Lib.hid (Nat.le_trans HSZ0.out HBL2.out.size)
    refine wpAnyH_oneL (i := 5) rfl (by kernel_rfl) ?_
    intro K hK
    rw [if_pos (by rfl)]
    refine wp_append_own2 W2 (.tmp 12) (.tmp 14) 22 rfl BB 9 1 16 _ Try.stringInfo Try.underlying22 rfl (by decide) (.slice (some ⟨b12, 0, none⟩) 0 0) 0 [] rfl E12_2.out ⟨gv, 0, none⟩ x.2.length cv (strs x.2) rfl (by simp [strs]) ((HV.out.below (bthen HB0.out HBL2.out)).news) (strs_one _) (by unfold maxLen; omega) (by omega) (Nat.le_trans HSZ0.out HBL2.out.size) ?_
    intro v15 W3 ho hg _
    have V15_3 : Hid (W3.ownsRow BB 9 1 v15 x.2.length (strs x.2)) := Lib.hid (by rw [Nat.zero_add, List.nil_append] at ho; exact ho)
    have ht := touch_of_grown hg
    have X18_3 := Lib.hid ((ht.block b18 (heap_lt X18_2.out) (fun e => hne18 (Option.some.inj e).symm)).trans X18_2.out)
    have HBL3 : Hid (Below W0.heap.size W0 W3) := Lib.hid (HBL2.out.trans (ht.below HBL2.out.size (fun k hk e => by have := own_lo' E12_2.out k e; have := HBE.out; omega)))
    clear ho hg ht
    refine hK _ _ (HBB.out _ HBL3.out) ?_
    clear hK K
    try simp only [Act.put, List.setIfInBounds_toArray, List.set_cons_zero, List.set_cons_succ]
    have HSZ3 := Lib.hid (Nat.le_trans HSZ0.out HBL3.out.size)
    refine wpAnyH_oneL (i := 9) rfl (by kernel_rfl) ?_
    intro K hK
    rw [if_pos (by rfl)]
    refine wp_append_own2 W3 (.tmp 15) (.tmp 18) 22 rfl BB 9 1 16 _ Try.stringInfo Try.underlying22 rfl (by decide) v15 x.2.length (strs x.2) rfl V15_3.out ⟨b18, 0, none⟩ 1 1 [.string ⟨s.toArray⟩] rfl rfl (fun i u hi => by rw [addr_add, Nat.zero_add]; exact cell_of X18_3.out (by simpa using hi)) (by intro u hu; simp at hu; subst hu; rfl) (by unfold maxLen; omega) (by omega) HSZ3.out ?_
    intro v19 W4 ho hg _
    obtain ⟨g19, c19, rfl, hrow⟩ := own_snoc ho
    have HROW := Lib.hid hrow
    have HBL4 : Hid (Below W0.heap.size W0 W4) := Lib.hid (HBL3.out.trans ((touch_of_grown hg).below HBL3.out.size (fun k hk e => by have := own_lo' V15_3.out k e; have := HBE.out; omega)))
    clear ho hg hrow
    refine hK _ _ (HBB.out _ HBL4.out) ?_
    clear hK K
    try simp only [Act.put, List.setIfInBounds_toArray, List.set_cons_zero, List.set_cons_succ]
    refine wpAnyH_oneL (i := 10) rfl (by kernel_rfl) ?_
    intro K hK
    rw [if_pos (by rfl)]
    go_simp
    refine hK _ _ (HBB.out _ HBL4.out) ?_
    clear hK K
    try simp only [Act.put, List.setIfInBounds_toArray, List.set_cons_zero, List.set_cons_succ]
    have N2 := stays HN2.out HBL4.out
    obtain ⟨z0, z1, zf, _⟩ := cells2 N2
    have zf0 := zf 0
    have zf1 := zf 1
    clear zf
    refine wpAnyH_oneL (i := 11) rfl (by kernel_rfl) ?_
    intro K hK
    rw [if_pos (by rfl)]
    go_simp
    refine hK _ _ (HST.out _ _ _ HBL4.out) ?_
    clear hK K z0 z1 zf0 zf1
    try simp only [Act.put, List.setIfInBounds_toArray, List.set_cons_zero, List.set_cons_succ]
    refine wpAnyH_oneL (i := 12) rfl (by kernel_rfl) ?_
    intro K hK
    rw [if_pos (by rfl)]
    go_simp
    refine hK _ _ (HST.out _ _ _ HBL4.out) ?_
    clear hK K
    try simp only [Act.put, List.setIfInBounds_toArray, List.set_cons_zero, List.set_cons_succ]
    refine wpAnyH_done (by kernel_rfl) ?_ _
    go_wp2
    refine bodyPost_ret (next_results rfl rfl (g := N0 + 1 + 1) (set_two N2)) rfl ?_
    exact next_end (bthen HB0.out HBL4.out) (by omega) N2 HROW.out
end Go.Proofs.Ytpjpknndfhablaa
