/- A region that draws its order and ends in an operation that waits for all others (x.f = append(x.f, ..)): a load may be taken first although that last operation writes its cell. Made after the library's own law on held regions. Walks of the disk's methods that hold closures: Read, Append, Cut. -/
import Derived.Deep.RegionHeld3
import Derived.StillTail
import Derived.RangeFuncBox
import Derived.StillTailTactics
import Derived.Test.YtpjpknndfhablaaGreatK1
namespace Go.Proofs.YtpjpknndfhablaaGreat
open Go.RowKit
section
variable {P : Program} {ops : Array Oper} {Q : Exit → Act → World → Prop} {S : World → Prop}

/-- Whatever order is picked from here on, and S holds behind every operation below n. -/
def wpAnyG (P : Program) (ops : Array Oper) (Q : Exit → Act → World → Prop) (S : World → Prop) (n : Nat) : Nat → Array Bool → Act → World → Prop
  | 0, listed, a, w => Region.ready .any ops listed = [] ∧ Q .normal a w
  | fuel + 1, listed, a, w =>
    (Region.ready .any ops listed = [] → Q .normal a w) ∧
    ∀ i ∈ Region.ready .any ops listed, wpOp P ops Q i (fun a' w' => (i < n → S w') ∧ wpAnyG P ops Q S n fuel (listed.setIfInBounds i true) a' w') a w

theorem wpAny_of_G {n : Nat} : ∀ (fuel : Nat) (listed : Array Bool) (a : Act) (w : World), wpAnyG P ops Q S n fuel listed a w → wpAny P .any ops Q fuel listed a w
  | 0, _, _, _, h => h
  | fuel + 1, _, _, _, h => ⟨h.1, fun i hi => wpOp_mono (fun a' w' h' => wpAny_of_G fuel _ a' w' h'.2) (h.2 i hi)⟩

theorem wpAnyG_first {n i : Nat} {oi : Oper} {v : Value} (hi : ops[i]? = some oi) (hsel : ∀ (j : Nat) (o : Oper) cs b, ops[j]? = some o → o.op ≠ .select cs b)
    (hs : Region.sinkB .any ops n = true) (hc : Region.chainB .any ops n = true) (hn : n < ops.size) (hin : i < n)
    (hQ : ∀ c a w, Q (.panic c) (a.put oi.dst v) w → Q (.panic c) a w) :
    ∀ (fuel : Nat) (listed : Array Bool) (a : Act) (w : World), HeadInv .any ops n listed →
      (∀ j oj, ops[j]? = some oj → j ≠ i → listed.getD j true = false → (∀ e ∈ oj.after, Region.binds .any e = true → e.on ≠ i) → oi.apart ops oj = true) →
      i ∈ Region.ready .any ops listed → YieldsIf P ops S oi v a → S w →
      wpAnyG P ops Q S n fuel (listed.setIfInBounds i true) (a.put oi.dst v) w → wpAnyG P ops Q S n (fuel + 1) listed a w := by
  intro fuel
  induction fuel with
  | zero =>
    intro listed a w _ _ hr hy hS H
    refine ⟨fun h => (by rw [h] at hr; cases hr), fun j hj => ?_⟩
    by_cases hji : j = i
    · subst hji; exact hy.wpOp hi hS ⟨fun _ => hS, H⟩
    · have := ready_mono hj hji
      rw [H.1] at this
      cases this
  | succ fuel ih =>
    intro listed a w inv hfree hr hy hS H
    have hun := (mem_ready.1 hr).1
    refine ⟨fun h => (by rw [h] at hr; cases hr), fun j hj => ?_⟩
    have hjn : j < n := by
      rcases Nat.lt_or_ge j n with h | h
      · exact h
      · exact absurd hj (tail_waits hs hc hn inv _ i rfl hin hun j h)
    by_cases hji : j = i
    · subst hji; exact hy.wpOp hi hS ⟨fun _ => hS, H⟩
    · have h1 := H.2 j (ready_mono hj hji)
      obtain ⟨hjun, oj, hoj, hall⟩ := mem_ready.1 hj
      have hnot : ∀ e ∈ oj.after, Region.binds .any e = true → e.on ≠ i := fun e he hb heq => by
        have h1 := hall e he hb
        rw [heq, getD_both hun] at h1
        cases h1
      have h2 := wpOp_putIf hoj (hfree j oj hoj hji hjun hnot) (fun cs b => hsel i oi cs b hi) (fun cs b => hsel j oj cs b hoj) hQ hy h1
      have hfree' : ∀ k ok, ops[k]? = some ok → k ≠ i → (listed.setIfInBounds j true).getD k true = false →
          (∀ e ∈ ok.after, Region.binds .any e = true → e.on ≠ i) → oi.apart ops ok = true := fun k ok hk hki hun hno => by
        refine hfree k ok hk hki ?_ hno
        by_cases hjk : j = k
        · subst hjk; exact hjun
        · rw [getD_set_ne true hjk] at hun; exact hun
      refine wpOp_mono (fun a' w' h3 => ⟨fun _ => h3.2.1 hjn, ih (listed.setIfInBounds j true) a' w' (inv.set hj hjn) hfree' (ready_mono hr (Ne.symm hji)) h3.1 (h3.2.1 hjn) ?_⟩) h2
      rw [Array.setIfInBounds_comm _ _ hji]
      exact h3.2.2

/-- The closed facts on a region that a beginning asks. -/
def headB (ops : Array Oper) (n : Nat) : Bool := Region.noSelect ops && Region.sinkB .any ops n && Region.chainB .any ops n && decide (n < ops.size)

/-- A state on the way: which operations are done, and that what is done is closed. -/
def wpOn (P : Program) (ops : Array Oper) (Q : Exit → Act → World → Prop) (S : World → Prop) (n fuel : Nat) (listed : Array Bool) (a : Act) (w : World) : Prop :=
  headB ops n = true → HeadInv .any ops n listed → wpAnyG P ops Q S n fuel listed a w

theorem wpOn_take {n i : Nat} {oi : Oper} {v : Value} {fuel : Nat} {listed : Array Bool} {a : Act} {w : World} (hi : ops[i]? = some oi)
    (hf : Region.free .any ops listed i = true) (hr : (Region.ready .any ops listed).contains i = true) (hin : i < n)
    (hQ : ∀ c a w, Q (.panic c) (a.put oi.dst v) w → Q (.panic c) a w) (hy : YieldsIf P ops S oi v a) (hS : S w)
    (h : wpOn P ops Q S n fuel (listed.setIfInBounds i true) (a.put oi.dst v) w) : wpOn P ops Q S n (fuel + 1) listed a w := fun hB inv => by
  have hB' := hB
  simp only [headB, Bool.and_eq_true, decide_eq_true_eq] at hB
  obtain ⟨⟨⟨hsel, hs⟩, hc⟩, hn⟩ := hB
  have hr' : i ∈ Region.ready .any ops listed := by simpa using hr
  exact wpAnyG_first hi (Region.noSelect_spec hsel) hs hc hn hin hQ fuel listed a w inv (Region.free_spec hi hf) hr' hy hS (h hB' (inv.set hr' hin))

theorem wpOn_one {n i : Nat} {o : Oper} {fuel : Nat} {listed : Array Bool} {a : Act} {w : World} (ho : ops[i]? = some o) (hr : Region.ready .any ops listed = [i]) (hin : i < n)
    (h : ∀ K : Act → World → Prop, (∀ a w, S w → wpOn P ops Q S n fuel (listed.setIfInBounds i true) a w → K a w) → if Region.wanted o (yielded ops a.tmps) = true then Oper.wp P o a w K Q else K (a.put o.dst undef) w) :
    wpOn P ops Q S n (fuel + 1) listed a w := fun hB inv => by
  refine ⟨fun h0 => (by rw [h0] at hr; cases hr), fun j hj => ?_⟩
  have hj' := hj
  rw [hr] at hj
  have : j = i := by simpa using hj
  subst this
  exact wpOp_step ho (fun K hK => h K (fun a w hS hW => hK a w ⟨fun _ => hS, hW hB (inv.set hj' hin)⟩))

theorem wpOn_last {n i : Nat} {o : Oper} {listed : Array Bool} {a : Act} {w : World} (ho : ops[i]? = some o) (hr : Region.ready .any ops listed = [i]) (hd : Region.ready .any ops (listed.setIfInBounds i true) = []) (hin : i = n)
    (h : ∀ K : Act → World → Prop, (∀ a w, Q .normal a w → K a w) → if Region.wanted o (yielded ops a.tmps) = true then Oper.wp P o a w K Q else K (a.put o.dst undef) w) :
    wpOn P ops Q S n 1 listed a w := fun _ _ => by
  refine ⟨fun h0 => (by rw [h0] at hr; cases hr), fun j hj => ?_⟩
  rw [hr] at hj
  have : j = i := by simpa using hj
  subst this
  exact wpOp_step ho (fun K hK => h K (fun a w hQ => hK a w ⟨fun h => absurd h (by omega), hd, hQ⟩))

/-- In a held region: the one operation that may come up. -/
theorem wpAnyH_one {i : Nat} {o : Oper} {fuel : Nat} {listed : Array Bool} {a : Act} {w : World} (ho : ops[i]? = some o) (hr : Region.ready .any ops listed = [i])
    (h : ∀ K : Act → World → Prop, (∀ a w, S w → wpAnyH P .any ops Q S fuel (listed.setIfInBounds i true) a w → K a w) → if Region.wanted o (yielded ops a.tmps) = true then Oper.wp P o a w K Q else K (a.put o.dst undef) w) :
    wpAnyH P .any ops Q S (fuel + 1) listed a w := by
  refine wpAnyH_all hr (by simp) (fun j hj => ?_)
  have : j = i := by simpa using hj
  subst this
  exact wpOp_step ho (fun K hK => h K (fun a w hS hW => hK a w ⟨hS, hW⟩))

theorem wp_region_on (n : Nat) {id : Nat} {a : Act} {w : World} (hm : P.follows .mixedOrders = true) (hB : headB ops n = true)
    (h : wpOn P ops Q S n ops.size (Array.replicate ops.size false) a w.drew) : (Code.region id ops true).wp P Q a w := by
  refine wp_region_any hm (wpAny_of_G _ _ _ _ (h hB ⟨by simp, fun j oj _ hl => (by rw [getD_replicate_false] at hl; cases hl), fun t _ ht => getD_in (by simpa using ht) (getD_replicate_false _ _)⟩))
theorem at_drop {l : List Oper} {i : Nat} {oi : Oper} {rest : List Oper} (hi : l.drop i = oi :: rest) : l.toArray[i]? = some oi := by
  have h := List.getElem?_drop (xs := l) (i := i) (j := 0)
  rw [hi] at h
  simpa using h.symm
section
variable {l rest : List Oper}
/-- The moves once more over a list written out: so that an operation is met as it stands there. -/
theorem wpAnyH_takeL {i : Nat} {oi : Oper} {v : Value} {fuel : Nat} {listed : Array Bool} {a : Act} {w : World} (hi : l.drop i = oi :: rest)
    (hs : Region.noSelect l.toArray = true) (hf : Region.free .any l.toArray listed i = true) (hr : (Region.ready .any l.toArray listed).contains i = true)
    (hQ : ∀ c a w, Q (.panic c) (a.put oi.dst v) w → Q (.panic c) a w) (hy : YieldsIf P l.toArray S oi v a) (hS : S w)
    (h : wpAnyH P .any l.toArray Q S fuel (listed.setIfInBounds i true) (a.put oi.dst v) w) : wpAnyH P .any l.toArray Q S (fuel + 1) listed a w :=
  wpAnyH_take (at_drop hi) hs hf hr hQ hy hS h
theorem wpOn_takeL {n i : Nat} {oi : Oper} {v : Value} {fuel : Nat} {listed : Array Bool} {a : Act} {w : World} (hi : l.drop i = oi :: rest)
    (hf : Region.free .any l.toArray listed i = true) (hr : (Region.ready .any l.toArray listed).contains i = true) (hin : i < n)
    (hQ : ∀ c a w, Q (.panic c) (a.put oi.dst v) w → Q (.panic c) a w) (hy : YieldsIf P l.toArray S oi v a) (hS : S w)
    (h : wpOn P l.toArray Q S n fuel (listed.setIfInBounds i true) (a.put oi.dst v) w) : wpOn P l.toArray Q S n (fuel + 1) listed a w :=
  wpOn_take (at_drop hi) hf hr hin hQ hy hS h
theorem wpAnyH_oneL {i : Nat} {o : Oper} {fuel : Nat} {listed : Array Bool} {a : Act} {w : World} (ho : l.drop i = o :: rest) (hr : Region.ready .any l.toArray listed = [i])
    (h : ∀ K : Act → World → Prop, (∀ a w, S w → wpAnyH P .any l.toArray Q S fuel (listed.setIfInBounds i true) a w → K a w) → if Region.wanted o (yielded l.toArray a.tmps) = true then Oper.wp P o a w K Q else K (a.put o.dst undef) w) :
    wpAnyH P .any l.toArray Q S (fuel + 1) listed a w := wpAnyH_one (at_drop ho) hr h
theorem wpOn_oneL {n i : Nat} {o : Oper} {fuel : Nat} {listed : Array Bool} {a : Act} {w : World} (ho : l.drop i = o :: rest) (hr : Region.ready .any l.toArray listed = [i]) (hin : i < n)
    (h : ∀ K : Act → World → Prop, (∀ a w, S w → wpOn P l.toArray Q S n fuel (listed.setIfInBounds i true) a w → K a w) → if Region.wanted o (yielded l.toArray a.tmps) = true then Oper.wp P o a w K Q else K (a.put o.dst undef) w) :
    wpOn P l.toArray Q S n (fuel + 1) listed a w := wpOn_one (at_drop ho) hr hin h
theorem wpOn_lastL {n i : Nat} {o : Oper} {listed : Array Bool} {a : Act} {w : World} (ho : l.drop i = o :: rest) (hr : Region.ready .any l.toArray listed = [i]) (hd : Region.ready .any l.toArray (listed.setIfInBounds i true) = []) (hin : i = n)
    (h : ∀ K : Act → World → Prop, (∀ a w, Q .normal a w → K a w) → if Region.wanted o (yielded l.toArray a.tmps) = true then Oper.wp P o a w K Q else K (a.put o.dst undef) w) :
    wpOn P l.toArray Q S n 1 listed a w := wpOn_last (at_drop ho) hr hd hin h
theorem wpOp_stepL {i : Nat} {o : Oper} {K : Act → World → Prop} {a : Act} {w : World} (ho : l.drop i = o :: rest)
    (h : ∀ K' : Act → World → Prop, (∀ a w, K a w → K' a w) → if Region.wanted o (yielded l.toArray a.tmps) = true then Oper.wp P o a w K' Q else K' (a.put o.dst undef) w) : wpOp P l.toArray Q i K a w := wpOp_step (at_drop ho) h
theorem wp_region_onL (n : Nat) {id : Nat} {a : Act} {w : World} (hm : P.follows .mixedOrders = true) (hB : headB l.toArray n = true)
    (h : wpOn P l.toArray Q S n l.length (Array.replicate l.length false) a w.drew) : (Code.region id l.toArray true).wp P Q a w :=
  wp_region_on n hm hB (by simpa using h)
theorem wp_region_heldL {id : Nat} {a : Act} {w : World} (hm : P.follows .mixedOrders = true)
    (h : wpAnyH P .any l.toArray Q S l.length (Array.replicate l.length false) a w.drew) : (Code.region id l.toArray true).wp P Q a w :=
  wp_region_held hm (by simpa using h)
end
end
end Go.Proofs.YtpjpknndfhablaaGreat
namespace Go.Proofs.YtpjpknndfhablaaGreat
open Go.RowKit

set_option maxHeartbeats 1000000 in
theorem append1_any (b ps pd pf : Nat) (w : World) (d : DS) (rs : Value) (r : List (Bool × List UInt8)) (f : Bool) (s : List UInt8) (h : DiskRows w b d rs r) (hok : d.Ok) (_hs : s.length ≤ 9223372036854775807)
    (h0 : w.cell? ⟨ps, 0, none⟩ = some (.string ⟨s.toArray⟩)) (h1 : w.cell? ⟨pd, 0, none⟩ = some (.pointer (some ⟨b, 0, none⟩))) (h2 : w.cell? ⟨pf, 0, none⟩ = some (.int .i64 (DS.fi f))) :
    Calls Tryz.prog 160 #[.pointer (some ⟨ps, 0, none⟩), .pointer (some ⟨pd, 0, none⟩), .pointer (some ⟨pf, 0, none⟩)] w fun e w' =>
      e = .returned (.int .i64 (if d.size f + s.length > 1048576 then 91 else 0)) ∧ Below w.heap.size w w' := by
  have H := Lib.hid h
  have hb := hok.base_len' f
  obtain ⟨z, hz⟩ : ∃ z : Nat, d.sizeI (DS.fi f) = z := ⟨d.size f, by simp [DS.sizeI, DS.fileNo_of]⟩
  have hz' : d.size f = z := by simp [DS.sizeI, DS.fileNo_of] at hz; omega
  rw [hz'] at hb ⊢
  have HZ := Lib.hid hz
  have HB : Hid (∀ w' : World, Below w.heap.size w w' → (Below w.heap.size w w' ∧ w'.cell? ⟨ps, 0, none⟩ = some (.string ⟨s.toArray⟩) ∧ w'.cell? ⟨pd, 0, none⟩ = some (.pointer (some ⟨b, 0, none⟩)) ∧ w'.cell? ⟨pf, 0, none⟩ = some (.int .i64 (DS.fi f)))) :=
    fun w' hb => ⟨hb, cell_later hb h0, cell_later hb h1, cell_later hb h2⟩
  clear h hz hz'
  have hwrap : IntKind.i64.wrap (1048576 - (z : Int)) = 1048576 - (z : Int) := IntWalk.i64_in _ (by omega)
  go_enter Tryz.func160, Tryz.ntmps160
  go_wp2
  go_region_held3 (fun w' => Below w.heap.size w w' ∧ w'.cell? ⟨ps, 0, none⟩ = some (.string ⟨s.toArray⟩) ∧ w'.cell? ⟨pd, 0, none⟩ = some (.pointer (some ⟨b, 0, none⟩)) ∧ w'.cell? ⟨pf, 0, none⟩ = some (.int .i64 (DS.fi f)))
    (first | exact HB.out _ (Below.refl _ _).drew | exact HB.out _ (bthen (by assumption : Below w.heap.size w _ ∧ _).1 (by assumption)))
    (first | (go_at_call 85; refine (size_any b _ d rs r (DS.fi f) (H.out.below (by assumption : Below w.heap.size w _ ∧ _).1) hok).mono ?_; rw [HZ.out]; rintro e w' ⟨rfl, hb⟩))
  clear hwrap
  by_cases hc : z + s.length > 1048576
  all_goals go_wp2
  all_goals go_ret
  all_goals exact ⟨ret_int (by simp), (by assumption : Below w.heap.size w _ ∧ _).1⟩

theorem Tryz.laidInfo : (Tryz.prog.info? 106).map (fun i => (i.zero, i.size, i.bytes)) = some (some (.agg #[.int .i64 0, .string ⟨#[]⟩]), 2, 24) := by kernel_rfl

/-- 'refused' hands on what a closure without ways says: used at each of its three calls in place. -/
theorem cells_box3 {w : World} {x y z : Value} {t u v : TypeId} : ∃ w3 : World, w3 = ((w.alloc (.cells #[x] t)).alloc (.cells #[y] u)).alloc (.cells #[z] v) ∧ Below w.heap.size w w3 ∧
    w3.heap[w.heap.size]? = some (.cells #[x] t (0, 0)) ∧ w3.heap[w.heap.size + 1]? = some (.cells #[y] u (0, 0)) ∧ w3.heap[w.heap.size + 1 + 1]? = some (.cells #[z] v (0, 0)) := by
  refine ⟨_, rfl, bthen (bthen (balloc _ _) (balloc _ _)) (balloc _ _), ?_, ?_, ?_⟩
  · exact stays (stays (heap_new w _) (balloc _ _)) (balloc _ _)
  · have := heap_new (w.alloc (.cells #[x] t)) (.cells #[y] u)
    rw [World.size_alloc] at this
    exact stays this (balloc _ _)
  · have := heap_new ((w.alloc (.cells #[x] t)).alloc (.cells #[y] u)) (.cells #[z] v)
    rwa [World.size_alloc, World.size_alloc] at this

set_option maxHeartbeats 1000000 in
theorem append_anyN (b : Nat) (w : World) (d : DS) (m : Nat) (rb : Option Nat) (f : Int) (s : List UInt8) (h : DiskAt w b d m rb) (hs : s.length ≤ 9223372036854775807) (hm : m < 5000000000000) :
    Calls Tryz.prog 126 #[.pointer (some ⟨b, 0, none⟩), .int .i64 f, .string ⟨s.toArray⟩] w fun e w' => e = .returned (.int .i64 (d.append f s).2) ∧
      ∃ rb', DiskAt w' b (d.append f s).1 (m + 1) rb' ∧ Newer w rb rb' ∧ Touch (own2 b rb) w w' ∧ ((d.append f s).1.dead = true → d.dead = false → rb' = none) := by
  have hok' := h.1.append f s
  obtain ⟨hok, rs, r, h, hrm, rfl⟩ := h
  obtain ⟨c0, c1, c2, c3, c4, c5, cf, hlt⟩ := h.cells
  have H := Lib.hid h
  clear h c0 c1 c2 c3 c4
  cases hd : d.dead
  · rw [hd] at c5
    have HD9 := Lib.hid hd
    by_cases hf : f = 0 ∨ f = 1
    · obtain ⟨q, rfl⟩ := DS.fi_of hf
      have hq : 0 ≤ DS.fi q ∧ DS.fi q < 2 := by cases q <;> decide
      obtain ⟨hq0, hq1⟩ := hq
      clear hf
      by_cases hc : d.size q + s.length > 1048576
      · have HX : Hid (d.append (DS.fi q) s = (d, 91)) := by unfold DS.append; rw [if_neg (by simp [hd]), DS.fileNo_of]; simp only []; rw [if_pos hc]; exact rfl
        have HC := Lib.hid hc
        clear hd hc
        go_enter Tryz.func126, Tryz.ntmps126
        go_wp2_with fail
        obtain ⟨w3, hw3, hb3, n0, n1, n2⟩ := cells_box3 (w := w) (x := .pointer (some ⟨b, 0, none⟩)) (y := .int .i64 (DS.fi q)) (z := .string ⟨s.toArray⟩) (t := 23) (u := 3) (v := 9)
        rw [← hw3]
        clear hw3
        obtain ⟨d0, e0, l0⟩ := cells1 n0
        obtain ⟨d1, e1, l1⟩ := cells1 n1
        obtain ⟨d2, e2, l2⟩ := cells1 n2
        have c5' := cell_later hb3 c5
        clear c5 cf
        have H3 := Lib.hid (H.out.below hb3)
        have HB3 := Lib.hid hb3
        clear hb3
        go_in
        go_wp2_with (first | (go_at_call 160; refine (append1_any b _ _ _ w3 d rs r q s H3.out hok hs d2 d0 d1).mono ?_; rw [if_pos HC.out]; rintro e w4 ⟨rfl, hb4⟩; have HB4 := Lib.hid hb4; clear hb4) | go_in)
        go_ret
        have hb := bthen HB3.out HB4.out
        exact ⟨ret_int (by rw [HX.out]), rs.ownBlock, by rw [HX.out]; exact ⟨hok, rs, r, H.out.below hb, by omega, rfl⟩, Newer.refl _ _, Touch.of_below hb, fun h1 h2 => by first | (cases h2; done) | (rw [HX.out] at h1; have h3 : d.dead = true := h1; rw [HD9.out] at h3; cases h3)⟩
      · have hkp := hok.keep
        have hul := hok.u_len
        have HC := Lib.hid hc
        have HD := Lib.hid hd
        cases hg : d.goes
        all_goals have HG := Lib.hid hg
        all_goals clear hd hc hg
        all_goals go_enter Tryz.func126, Tryz.ntmps126
        all_goals
          skip
          go_wp2_with fail
          obtain ⟨w3, hw3, hb3, n0, n1, n2⟩ := cells_box3 (w := w) (x := .pointer (some ⟨b, 0, none⟩)) (y := .int .i64 (DS.fi q)) (z := .string ⟨s.toArray⟩) (t := 23) (u := 3) (v := 9)
          rw [← hw3]
          clear hw3
          obtain ⟨d0, e0, l0⟩ := cells1 n0
          obtain ⟨d1, e1, l1⟩ := cells1 n1
          obtain ⟨d2, e2, l2⟩ := cells1 n2
          have c5' := cell_later hb3 c5
          clear c5 cf
          have H3 := Lib.hid (H.out.below hb3)
          have HB3 := Lib.hid hb3
          clear hb3
          go_in
          have N0 := Lib.hid n0
          have N1 := Lib.hid n1
          have N2 := Lib.hid n2
          clear n0 n1 n2
          go_wp2_with (first
            | (go_at_call 160; go_must (refine (append1_any b _ _ _ w3 d rs r q s H3.out hok hs d2 d0 d1).mono ?_; rw [if_neg HC.out]; rintro e w4 ⟨rfl, hb4⟩; have d0' := cell_later hb4 d0; have H4 := Lib.hid (H3.out.below hb4); have HB4 := Lib.hid hb4; have hs4 := hb4.size; clear hb4))
            | (go_at_call 150; go_must (refine (goes_any b _ d rs r H4.out hok).mono ?_; rw [HG.out]; rintro e w5 ⟨rfl, hr5, ht5⟩; have HR5 := Lib.hid hr5; have HT5 := Lib.hid ht5; obtain ⟨d0', e0', l0'⟩ := cells1 ((ht5.block _ (by omega) (by omega)).trans (stays N0.out HB4.out)); obtain ⟨d1', e1', l1'⟩ := cells1 ((ht5.block _ (by omega) (by omega)).trans (stays N1.out HB4.out)); obtain ⟨d2', e2', l2'⟩ := cells1 ((ht5.block _ (by omega) (by omega)).trans (stays N2.out HB4.out)); obtain ⟨c0', c1', c2', c3', c4', c5'', cf', hlt'⟩ := hr5.cells; clear hr5 ht5))
            | go_in)
        all_goals
          have hrl : ∀ k, rs.ownBlock = some k → k < w.heap.size := fun k hk => (H.out.own.lt k hk).2
          have HRL := Lib.hid hrl
          clear hrl d0 d1 d2 e0 e1 e2 c5'
          refine wp_region_onL (S := fun w' => w'.cell? ⟨w.heap.size, 0, none⟩ = some (.pointer (some ⟨b, 0, none⟩)) ∧ w'.cell? ⟨w.heap.size + 1, 0, none⟩ = some (.int .i64 (DS.fi q)) ∧ w'.cell? ⟨w.heap.size + 1 + 1, 0, none⟩ = some (.string ⟨s.toArray⟩) ∧ w'.cell? ⟨b, 2, none⟩ = some rs) 12 (by kernel_rfl) (by kernel_rfl) ?_
          have hS0 : w5.drew.cell? ⟨w.heap.size, 0, none⟩ = some (.pointer (some ⟨b, 0, none⟩)) ∧ w5.drew.cell? ⟨w.heap.size + 1, 0, none⟩ = some (.int .i64 (DS.fi q)) ∧ w5.drew.cell? ⟨w.heap.size + 1 + 1, 0, none⟩ = some (.string ⟨s.toArray⟩) ∧ w5.drew.cell? ⟨b, 2, none⟩ = some rs := ⟨d0', d1', d2', c2'⟩
          refine wpOn_takeL (i := 0) (v := ?_) rfl (by kernel_rfl) (by kernel_rfl) (by decide) (fun _ _ _ h => h) (Or.inl ⟨by rfl, ?_⟩) (by assumption) ?_; rotate_left; focus ((intro w hSw; (try dsimp only at hSw); go_simp); try with_reducible rfl)
          simp only [Act.put, List.setIfInBounds_toArray, List.set_cons_zero, List.set_cons_succ]
          refine wpOn_takeL (i := 1) (v := ?_) rfl (by kernel_rfl) (by kernel_rfl) (by decide) (fun _ _ _ h => h) (Or.inl ⟨by rfl, ?_⟩) (by assumption) ?_; rotate_left; focus ((intro w hSw; (try dsimp only at hSw); go_simp); try with_reducible rfl)
          simp only [Act.put, List.setIfInBounds_toArray, List.set_cons_zero, List.set_cons_succ]
          refine wpOn_takeL (i := 2) (v := ?_) rfl (by kernel_rfl) (by kernel_rfl) (by decide) (fun _ _ _ h => h) (Or.inl ⟨by rfl, ?_⟩) (by assumption) ?_; rotate_left; focus ((intro w hSw; (try dsimp only at hSw); go_simp); try with_reducible rfl)
          simp only [Act.put, List.setIfInBounds_toArray, List.set_cons_zero, List.set_cons_succ]
          refine wpOn_takeL (i := 3) (v := ?_) rfl (by kernel_rfl) (by kernel_rfl) (by decide) (fun _ _ _ h => h) (Or.inl ⟨by rfl, ?_⟩) (by assumption) ?_; rotate_left; focus ((intro w hSw; (try dsimp only at hSw); go_simp); try with_reducible rfl)
          simp only [Act.put, List.setIfInBounds_toArray, List.set_cons_zero, List.set_cons_succ]
          refine wpOn_takeL (i := 4) (v := ?_) rfl (by kernel_rfl) (by kernel_rfl) (by decide) (fun _ _ _ h => h) (Or.inl ⟨by rfl, ?_⟩) (by assumption) ?_; rotate_left; focus ((intro w hSw; (try dsimp only at hSw); go_simp); try with_reducible rfl)
          simp only [Act.put, List.setIfInBounds_toArray, List.set_cons_zero, List.set_cons_succ]
          refine wpOn_takeL (i := 5) (v := ?_) rfl (by kernel_rfl) (by kernel_rfl) (by decide) (fun _ _ _ h => h) (Or.inl ⟨by rfl, ?_⟩) (by assumption) ?_; rotate_left; focus ((intro w hSw; (try dsimp only at hSw); go_simp); try with_reducible rfl)
          simp only [Act.put, List.setIfInBounds_toArray, List.set_cons_zero, List.set_cons_succ]
          refine wpOn_takeL (i := 6) (v := ?_) rfl (by kernel_rfl) (by kernel_rfl) (by decide) (fun _ _ _ h => h) (Or.inl ⟨by rfl, ?_⟩) (by assumption) ?_; rotate_left; focus ((intro w hSw; (try dsimp only at hSw); go_simp); try with_reducible rfl)
          simp only [Act.put, List.setIfInBounds_toArray, List.set_cons_zero, List.set_cons_succ]
          refine wpOn_takeL (i := 7) (v := ?_) rfl (by kernel_rfl) (by kernel_rfl) (by decide) (fun _ _ _ h => h) (Or.inl ⟨by rfl, ?_⟩) (by assumption) ?_; rotate_left; focus ((intro w hSw; (try dsimp only at hSw); go_simp); try with_reducible rfl)
          simp only [Act.put, List.setIfInBounds_toArray, List.set_cons_zero, List.set_cons_succ]
          refine wpOn_oneL (i := 8) rfl (by kernel_rfl) (by decide) ?_
          intro K hK
          rw [if_pos (by rfl)]
          go_simp
          have hb6 : Below w5.heap.size w5 (w5.alloc (.cells #[.int .i64 (DS.fi q), .string ⟨s.toArray⟩] 106)).drew := (balloc _ _).drew
          refine hK _ _ ⟨cell_later hb6 d0', cell_later hb6 d1', cell_later hb6 d2', cell_later hb6 c2'⟩ ?_
          clear hK K
          refine wpOn_oneL (i := 9) rfl (by kernel_rfl) (by decide) ?_
          intro K hK
          rw [if_pos (by rfl)]
          refine wp_append_own2 _ (.tmp 22) (.tmp 26) 87 rfl 0 106 2 24 _ Tryz.laidInfo Tryz.underlying87 rfl (by decide) rs r.length (rowCells r) rfl (own_touch HR5.out.own (Touch.of_below (S := fun _ => False) hb6) (fun _ _ h => h)) ⟨w5.heap.size, 0, none⟩ 1 1 [.int .i64 (DS.fi q), .string ⟨s.toArray⟩] rfl rfl ?_ ?_ (by unfold maxLen; omega) (by omega) (by omega) ?_
          · intro j u hj
            have hnew := heap_new w5 (.cells #[.int .i64 (DS.fi q), .string ⟨s.toArray⟩] 106)
            match j, hj with
            | 0, hj => simp at hj; subst hj; exact cell_of hnew rfl
            | 1, hj => simp at hj; subst hj; exact cell_of hnew rfl
          · intro u hu; simp at hu; rcases hu with rfl | rfl <;> rfl
          intro v' w6 hown6 hgrow6 hblk6
          have hsz6 := hgrow6.size
          have hne : ∀ k, w.heap.size ≤ k → some k ≠ rs.ownBlock := fun k hk e => by have := HRL.out k e.symm; omega
          have hneb : some b ≠ rs.ownBlock := fun e => H.out.rows_block e.symm
          have d0'' := hgrow6.cell (cell_later hb6 d0') (hne _ (by simp))
          have d1'' := hgrow6.cell (cell_later hb6 d1') (hne _ (by simp <;> omega))
          have d2'' := hgrow6.cell (cell_later hb6 d2') (hne _ (by simp <;> omega))
          have c2'' := hgrow6.cell (cell_later hb6 c2') hneb
          obtain ⟨g6, cap6, rfl⟩ := ownsRow_succ hown6
          have hS6 : _ ∧ _ ∧ _ ∧ _ := ⟨d0'', d1'', d2'', c2''⟩
          refine hK _ _ hS6 ?_
          clear hK K
          simp only [Act.put, List.setIfInBounds_toArray, List.set_cons_zero, List.set_cons_succ]
          refine wpOn_takeL (i := 10) (v := ?_) rfl (by kernel_rfl) (by kernel_rfl) (by decide) (fun _ _ _ h => h) (Or.inl ⟨by rfl, ?_⟩) (by assumption) ?_; rotate_left; focus ((intro w hSw; (try dsimp only at hSw); go_simp); try with_reducible rfl)
          simp only [Act.put, List.setIfInBounds_toArray, List.set_cons_zero, List.set_cons_succ]
          refine wpOn_takeL (i := 11) (v := ?_) rfl (by kernel_rfl) (by kernel_rfl) (by decide) (fun _ _ _ h => h) (Or.inl ⟨by rfl, ?_⟩) (by assumption) ?_; rotate_left; focus ((intro w hSw; (try dsimp only at hSw); go_simp); try with_reducible rfl)
          simp only [Act.put, List.setIfInBounds_toArray, List.set_cons_zero, List.set_cons_succ]
          refine wpOn_lastL (i := 12) rfl (by kernel_rfl) (by kernel_rfl) rfl ?_
          intro K hK
          rw [if_pos (by rfl)]
          have hbl6 := (hgrow6.block b (by simp; omega) hneb).trans (stays HR5.out.blk hb6)
          have cf6 := free_of hbl6
          have HBL := Lib.hid hbl6
          have HG6 := Lib.hid hgrow6
          have HO6 := Lib.hid hown6
          clear hbl6 hgrow6 hown6
          go_simp
          refine hK _ _ ?_
          clear hK K hS6
          have hgb : g6 ≠ b := fun e => by
            rcases hblk6 with h | h
            · exact hneb (by rw [← e]; exact h)
            · have := HB4.out.size; have := HB3.out.size; have := HT5.out.size; simp [Value.ownBlock] at h; omega
          have h7 := heap_set (i := 2) (.slice (some ⟨g6, 0, none⟩) (r.length + 1) cap6) HBL.out
          have hr7 : DiskRows (w6.setCell ⟨b, 2, none⟩ (.slice (some ⟨g6, 0, none⟩) (r.length + 1) cap6)) b (d.tick.lay q s) (.slice (some ⟨g6, 0, none⟩) (r.length + 1) cap6) (r ++ [(q, s)]) := by
            refine ⟨?_, ?_, ?_⟩
            · rw [h7]; simp [diskBlock, DS.lay, DS.tick]
            · have := own_touch HO6.out ((Touch.refl (· = b) w6).setCell (a := ⟨b, 2, none⟩) (.slice (some ⟨g6, 0, none⟩) (r.length + 1) cap6) (fun _ => rfl)) (fun k hk => by simp [Value.ownBlock] at hk; omega)
              rw [rowCells_append]; simpa [rowCells] using this
            · rw [DS.flat_append, DS.flat_one, H.out.u]; rfl
          have ht7 : Touch (own2 b rs.ownBlock) w (w6.setCell ⟨b, 2, none⟩ (.slice (some ⟨g6, 0, none⟩) (r.length + 1) cap6)) := by
            refine Touch.setCell ?_ _ (fun _ => .inl rfl)
            refine Touch.trans (Touch.trans (Touch.trans (Touch.of_below (bthen HB3.out HB4.out)) HT5.out (fun k _ h => .inl h)) (Touch.of_below (S := fun _ => False) hb6) (fun _ _ h => h.elim)) (touch_of_grown HG6.out) (fun k _ h => .inr h)
          have hn7 : Newer w rs.ownBlock (some g6) := fun k hk => by
            rcases hblk6 with h | h
            · exact .inl (h.symm.trans hk)
            · right; have := HB4.out.size; have := HB3.out.size; have := HT5.out.size; simp [Value.ownBlock] at h hk; omega
          have H7 := Lib.hid hr7
          have HT7 := Lib.hid ht7
          have HN7 := Lib.hid hn7
          clear hr7 ht7 hn7 h7 hblk6 hgb
          go_wp2
        · have HX : Hid (d.append (DS.fi q) s = (d.tick.lay q s, 0)) := by
            unfold DS.append; rw [if_neg (by simp [HD.out]), DS.fileNo_of]; simp only []; rw [if_neg HC.out, if_neg (by simp [HG.out])]; exact rfl
          go_ret
          refine ⟨ret_int (by rw [HX.out]), some g6, ?_, HN7.out, HT7.out, fun h1 h2 => by first | (cases h2; done) | (rw [HX.out] at h1; have h3 : d.dead = true := h1; rw [HD9.out] at h3; cases h3)⟩
          rw [HX.out] at hok' ⊢
          exact ⟨hok', _, _, H7.out, by simp <;> omega, rfl⟩
        · have HX : Hid (d.append (DS.fi q) s = ((d.tick.lay q s).die d.keep, 2)) := by
            unfold DS.append; rw [if_neg (by simp [HD.out]), DS.fileNo_of]; simp only []; rw [if_neg HC.out, if_pos HG.out]; exact rfl
          have hok7 : (d.tick.lay q s).Ok := hok.tick.lay q s (by rw [DS.size_tick]; have := HC.out; omega)
          obtain ⟨_, _, _, _, x4, _, _, _⟩ := H7.out.cells
          have x0 : (w6.setCell ⟨b, 2, none⟩ (.slice (some ⟨g6, 0, none⟩) (r.length + 1) cap6)).cell? ⟨w.heap.size, 0, none⟩ = some (.pointer (some ⟨b, 0, none⟩)) := by
            rw [World.cell?_setCell_other _ _ _ _ (by simp <;> omega)]; exact d0''
          have x4' : (w6.setCell ⟨b, 2, none⟩ (.slice (some ⟨g6, 0, none⟩) (r.length + 1) cap6)).cell? ⟨b, 4, none⟩ = some (.int .i64 d.keep) := x4
          clear x4
          obtain ⟨w7, hw7⟩ : ∃ w7, w7 = (w6.setCell ⟨b, 2, none⟩ (.slice (some ⟨g6, 0, none⟩) (r.length + 1) cap6)) := ⟨_, rfl⟩
          rw [← hw7] at x0 x4' H7 HT7 ⊢
          clear hw7
          go_region_held3 (fun w' => w'.cell? ⟨w.heap.size, 0, none⟩ = some (.pointer (some ⟨b, 0, none⟩)) ∧ w'.cell? ⟨b, 4, none⟩ = some (.int .i64 d.keep))
            (first | exact ⟨x0, x4'⟩ | exact ⟨by assumption, by assumption⟩)
            (first | (go_at_call 70; refine (dies_any b _ _ _ _ d.keep H7.out.drew hok7 (by omega) (by omega)).mono ?_; rintro e w8 ⟨rfl, hr8, ht8⟩; have y0 := (World.cell?_of_block (w := w7) (a := ⟨w.heap.size, 0, none⟩) (ht8.block w.heap.size (World.block_lt_of_cell? w7 _ x0) (by omega))).trans x0; obtain ⟨_, _, _, _, y4, _, _, _⟩ := hr8.cells; have y4' : w8.cell? ⟨b, 4, none⟩ = some (.int .i64 d.keep) := y4; clear y4; have HR8 := Lib.hid hr8; have HT8 := Lib.hid ht8; clear hr8 ht8))
          go_wp2
          go_ret
          refine ⟨ret_int (by rw [HX.out]), none, ?_, Newer.none _ _, Touch.trans HT7.out.drew HT8.out (fun k _ h => .inl h), fun _ _ => rfl⟩
          rw [HX.out] at hok' ⊢
          exact ⟨hok', _, [], HR8.out, Nat.zero_le _, rfl⟩
    · have hf' : f < 0 ∨ 2 ≤ f := by omega
      have HX : Hid (d.append f s = (d, 90)) := by unfold DS.append; rw [if_neg (by simp [hd]), DS.fileNo_none hf]; exact rfl
      clear hf hd
      rcases hf' with hf | hf
      all_goals go_enter Tryz.func126, Tryz.ntmps126
      all_goals go_wp2_with fail
      all_goals
        obtain ⟨w3, hw3, hb3, n0, n1, n2⟩ := cells_box3 (w := w) (x := .pointer (some ⟨b, 0, none⟩)) (y := .int .i64 f) (z := .string ⟨s.toArray⟩) (t := 23) (u := 3) (v := 9)
        rw [← hw3]
        clear hw3
        obtain ⟨d0, e0, l0⟩ := cells1 n0
        obtain ⟨d1, e1, l1⟩ := cells1 n1
        obtain ⟨d2, e2, l2⟩ := cells1 n2
        have c5' := cell_later hb3 c5
        clear c5 cf
        have H3 := Lib.hid (H.out.below hb3)
        have HB3 := Lib.hid hb3
        clear hb3
        go_in
        go_wp2_with go_in
        go_ret
        have hb := HB3.out
        exact ⟨ret_int (by rw [HX.out]), rs.ownBlock, by rw [HX.out]; exact ⟨hok, rs, r, H.out.below hb, by omega, rfl⟩, Newer.refl _ _, Touch.of_below hb, fun h1 h2 => by first | (cases h2; done) | (rw [HX.out] at h1; have h3 : d.dead = true := h1; rw [HD9.out] at h3; cases h3)⟩
  · rw [hd] at c5
    have HD9 := Lib.hid hd
    have HX : Hid (d.append f s = (d, 2)) := by unfold DS.append; rw [if_pos hd]; exact rfl
    clear hd
    go_enter Tryz.func126, Tryz.ntmps126
    go_wp2_with fail
    obtain ⟨w3, hw3, hb3, n0, n1, n2⟩ := cells_box3 (w := w) (x := .pointer (some ⟨b, 0, none⟩)) (y := .int .i64 f) (z := .string ⟨s.toArray⟩) (t := 23) (u := 3) (v := 9)
    rw [← hw3]
    clear hw3
    obtain ⟨d0, e0, l0⟩ := cells1 n0
    obtain ⟨d1, e1, l1⟩ := cells1 n1
    obtain ⟨d2, e2, l2⟩ := cells1 n2
    have c5' := cell_later hb3 c5
    clear c5 cf
    have H3 := Lib.hid (H.out.below hb3)
    have HB3 := Lib.hid hb3
    clear hb3
    go_in
    go_wp2_with go_in
    go_ret
    have hb := HB3.out
    exact ⟨ret_int (by rw [HX.out]), rs.ownBlock, by rw [HX.out]; exact ⟨hok, rs, r, H.out.below hb, by omega, rfl⟩, Newer.refl _ _, Touch.of_below hb, fun h1 h2 => by first | (cases h2; done) | (rw [HX.out] at h1; have h3 : d.dead = true := h1; rw [HD9.out] at h3; cases h3)⟩
theorem append_any (b : Nat) (w : World) (d : DS) (m : Nat) (rb : Option Nat) (f : Int) (s : List UInt8) (h : DiskAt w b d m rb) (hs : s.length ≤ 9223372036854775807) (hm : m < 5000000000000) :
    Calls Tryz.prog 126 #[.pointer (some ⟨b, 0, none⟩), .int .i64 f, .string ⟨s.toArray⟩] w fun e w' => e = .returned (.int .i64 (d.append f s).2) ∧
      ∃ rb', DiskAt w' b (d.append f s).1 (m + 1) rb' ∧ Newer w rb rb' ∧ Touch (own2 b rb) w w' :=
  (append_anyN b w d m rb f s h hs hm).mono fun _ _ ⟨he, rb', h1, h2, h3, _⟩ => ⟨he, rb', h1, h2, h3⟩
end Go.Proofs.YtpjpknndfhablaaGreat
