/- A region that draws its order and ends in an operation that waits for all others (x.f = append(x.f, ..)): a load may be taken first although that last operation writes its cell. Made after the library's own law on held regions. Walks of the disk's methods that hold closures: Read, Append, Cut. Walks of the disk's Cut and Read. Walks of the disk's methods that hand back slices: Files, After, Clone; New; Read. Walks of the disk's Clone, New, Read. -/
import Derived.Deep.RegionHeld3
import Derived.StillTail
import Derived.RangeFuncBox
import Derived.StillTailTactics
import Derived.BigQuiet
import Derived.LoopN
import Derived.Test.YtpjpknndfhablaaGreatK1
namespace Go.Proofs.YtpjpknndfhablaaGreat
open Go.RowKit
section
variable {P : Program} {ops : Array Oper} {Q : Exit → Act → World → Prop} {S : World → Prop}

/-- Whatever order is picked from here on, and S holds behind every operation below n. -/
def wpAnyG (P : Program) (ops : Array Oper) (Q : Exit → Act → World → Prop) (S : World → Prop) (n : Nat) : Nat → Array Bool → Act → World → Prop
 | 0, listed, a, w => Region.ready .any ops listed = [] ∧ Q .normal a w
 | fuel + 1, listed, a, w =>
  (Region.ready .any ops listed = [] → Q .normal a w) ∧
  ∀ i ∈ Region.ready .any ops listed, wpOp P ops Q i (fun a' w' => (i < n → S w') ∧ wpAnyG P ops Q S n fuel (listed.setIfInBounds i true) a' w') a w

theorem wpAny_of_G {n : Nat} : ∀ (fuel : Nat) (listed : Array Bool) (a : Act) (w : World), wpAnyG P ops Q S n fuel listed a w → wpAny P .any ops Q fuel listed a w
 | 0, _, _, _, h => h
 | fuel + 1, _, _, _, h => ⟨h.1, fun i hi => wpOp_mono (fun a' w' h' => wpAny_of_G fuel _ a' w' h'.2) (h.2 i hi)⟩

theorem wpAnyG_first {n i : Nat} {oi : Oper} {v : Value} (hi : ops[i]? = some oi) (hsel : ∀ (j : Nat) (o : Oper) cs b, ops[j]? = some o → o.op ≠ .select cs b)
  (hs : Region.sinkB .any ops n = true) (hc : Region.chainB .any ops n = true) (hn : n < ops.size) (hin : i < n)
  (hQ : ∀ c a w, Q (.panic c) (a.put oi.dst v) w → Q (.panic c) a w) :
  ∀ (fuel : Nat) (listed : Array Bool) (a : Act) (w : World), HeadInv .any ops n listed →
   (∀ j oj, ops[j]? = some oj → j ≠ i → listed.getD j true = false → (∀ e ∈ oj.after, Region.binds .any e = true → e.on ≠ i) → oi.apart ops oj = true) →
   i ∈ Region.ready .any ops listed → YieldsIf P ops S oi v a → S w →
   wpAnyG P ops Q S n fuel (listed.setIfInBounds i true) (a.put oi.dst v) w → wpAnyG P ops Q S n (fuel + 1) listed a w := by
 intro fuel
 induction fuel with
 | zero =>
  intro listed a w _ _ hr hy hS H
  refine ⟨fun h => (by rw [h] at hr; cases hr), fun j hj => ?_⟩
  by_cases hji : j = i
  ·subst hji; exact hy.wpOp hi hS ⟨fun _ => hS, H⟩
  ·have := ready_mono hj hji
   rw [H.1] at this
   cases this
 | succ fuel ih =>
  intro listed a w inv hfree hr hy hS H
  have hun := (mem_ready.1 hr).1
  refine ⟨fun h => (by rw [h] at hr; cases hr), fun j hj => ?_⟩
  have hjn : j < n := by
   rcases Nat.lt_or_ge j n with h | h
   ·exact h
   ·exact absurd hj (tail_waits hs hc hn inv _ i rfl hin hun j h)
  by_cases hji : j = i
  ·subst hji; exact hy.wpOp hi hS ⟨fun _ => hS, H⟩
  ·have h1 := H.2 j (ready_mono hj hji)
   obtain ⟨hjun, oj, hoj, hall⟩ := mem_ready.1 hj
   have hnot : ∀ e ∈ oj.after, Region.binds .any e = true → e.on ≠ i := fun e he hb heq => by
    have h1 := hall e he hb
    rw [heq, getD_both hun] at h1
    cases h1
   have h2 := wpOp_putIf hoj (hfree j oj hoj hji hjun hnot) (fun cs b => hsel i oi cs b hi) (fun cs b => hsel j oj cs b hoj) hQ hy h1
   have hfree' : ∀ k ok, ops[k]? = some ok → k ≠ i → (listed.setIfInBounds j true).getD k true = false →
     (∀ e ∈ ok.after, Region.binds .any e = true → e.on ≠ i) → oi.apart ops ok = true := fun k ok hk hki hun hno => by
    refine hfree k ok hk hki ?_ hno
    by_cases hjk : j = k
    ·subst hjk; exact hjun
    ·rw [getD_set_ne true hjk] at hun; exact hun
   refine wpOp_mono (fun a' w' h3 => ⟨fun _ => h3.2.1 hjn, ih (listed.setIfInBounds j true) a' w' (inv.set hj hjn) hfree' (ready_mono hr (Ne.symm hji)) h3.1 (h3.2.1 hjn) ?_⟩) h2
   rw [Array.setIfInBounds_comm _ _ hji]
   exact h3.2.2

/-- The closed facts on a region that a beginning asks. -/
def headB (ops : Array Oper) (n : Nat) : Bool := Region.noSelect ops && Region.sinkB .any ops n && Region.chainB .any ops n && decide (n < ops.size)

/-- A state on the way: which operations are done, and that what is done is closed. -/
def wpOn (P : Program) (ops : Array Oper) (Q : Exit → Act → World → Prop) (S : World → Prop) (n fuel : Nat) (listed : Array Bool) (a : Act) (w : World) : Prop :=
 headB ops n = true → HeadInv .any ops n listed → wpAnyG P ops Q S n fuel listed a w

theorem wpOn_take {n i : Nat} {oi : Oper} {v : Value} {fuel : Nat} {listed : Array Bool} {a : Act} {w : World} (hi : ops[i]? = some oi)
  (hf : Region.free .any ops listed i = true) (hr : (Region.ready .any ops listed).contains i = true) (hin : i < n)
  (hQ : ∀ c a w, Q (.panic c) (a.put oi.dst v) w → Q (.panic c) a w) (hy : YieldsIf P ops S oi v a) (hS : S w)
  (h : wpOn P ops Q S n fuel (listed.setIfInBounds i true) (a.put oi.dst v) w) : wpOn P ops Q S n (fuel + 1) listed a w := fun hB inv => by
 have hB' := hB
 simp only [headB, Bool.and_eq_true, decide_eq_true_eq] at hB
 obtain ⟨⟨⟨hsel, hs⟩, hc⟩, hn⟩ := hB
 have hr' : i ∈ Region.ready .any ops listed := by simpa using hr
 exact wpAnyG_first hi (Region.noSelect_spec hsel) hs hc hn hin hQ fuel listed a w inv (Region.free_spec hi hf) hr' hy hS (h hB' (inv.set hr' hin))

theorem wpOn_one {n i : Nat} {o : Oper} {fuel : Nat} {listed : Array Bool} {a : Act} {w : World} (ho : ops[i]? = some o) (hr : Region.ready .any ops listed = [i]) (hin : i < n)
  (h : ∀ K : Act → World → Prop, (∀ a w, S w → wpOn P ops Q S n fuel (listed.setIfInBounds i true) a w → K a w) → if Region.wanted o (yielded ops a.tmps) = true then Oper.wp P o a w K Q else K (a.put o.dst undef) w) :
  wpOn P ops Q S n (fuel + 1) listed a w := fun hB inv => by
 refine ⟨fun h0 => (by rw [h0] at hr; cases hr), fun j hj => ?_⟩
 have hj' := hj
 rw [hr] at hj
 have : j = i := by simpa using hj
 subst this
 exact wpOp_step ho (fun K hK => h K (fun a w hS hW => hK a w ⟨fun _ => hS, hW hB (inv.set hj' hin)⟩))

theorem wpOn_last {n i : Nat} {o : Oper} {listed : Array Bool} {a : Act} {w : World} (ho : ops[i]? = some o) (hr : Region.ready .any ops listed = [i]) (hd : Region.ready .any ops (listed.setIfInBounds i true) = []) (hin : i = n)
  (h : ∀ K : Act → World → Prop, (∀ a w, Q .normal a w → K a w) → if Region.wanted o (yielded ops a.tmps) = true then Oper.wp P o a w K Q else K (a.put o.dst undef) w) :
  wpOn P ops Q S n 1 listed a w := fun _ _ => by
 refine ⟨fun h0 => (by rw [h0] at hr; cases hr), fun j hj => ?_⟩
 rw [hr] at hj
 have : j = i := by simpa using hj
 subst this
 exact wpOp_step ho (fun K hK => h K (fun a w hQ => hK a w ⟨fun h => absurd h (by omega), hd, hQ⟩))

/-- In a held region: the one operation that may come up. -/
theorem wpAnyH_one {i : Nat} {o : Oper} {fuel : Nat} {listed : Array Bool} {a : Act} {w : World} (ho : ops[i]? = some o) (hr : Region.ready .any ops listed = [i])
  (h : ∀ K : Act → World → Prop, (∀ a w, S w → wpAnyH P .any ops Q S fuel (listed.setIfInBounds i true) a w → K a w) → if Region.wanted o (yielded ops a.tmps) = true then Oper.wp P o a w K Q else K (a.put o.dst undef) w) :
  wpAnyH P .any ops Q S (fuel + 1) listed a w := by
 refine wpAnyH_all hr (by simp) (fun j hj => ?_)
 have : j = i := by simpa using hj
 subst this
 exact wpOp_step ho (fun K hK => h K (fun a w hS hW => hK a w ⟨hS, hW⟩))

theorem wp_region_on (n : Nat) {id : Nat} {a : Act} {w : World} (hm : P.follows .mixedOrders = true) (hB : headB ops n = true)
  (h : wpOn P ops Q S n ops.size (Array.replicate ops.size false) a w.drew) : (Code.region id ops true).wp P Q a w := by
 refine wp_region_any hm (wpAny_of_G _ _ _ _ (h hB ⟨by simp, fun j oj _ hl => (by rw [getD_replicate_false] at hl; cases hl), fun t _ ht => getD_in (by simpa using ht) (getD_replicate_false _ _)⟩))
theorem at_drop {l : List Oper} {i : Nat} {oi : Oper} {rest : List Oper} (hi : l.drop i = oi :: rest) : l.toArray[i]? = some oi := by
 have h := List.getElem?_drop (xs := l) (i := i) (j := 0)
 rw [hi] at h
 simpa using h.symm
section
variable {l rest : List Oper}
/-- The moves once more over a list written out: so that an operation is met as it stands there. -/
theorem wpAnyH_takeL {i : Nat} {oi : Oper} {v : Value} {fuel : Nat} {listed : Array Bool} {a : Act} {w : World} (hi : l.drop i = oi :: rest)
  (hs : Region.noSelect l.toArray = true) (hf : Region.free .any l.toArray listed i = true) (hr : (Region.ready .any l.toArray listed).contains i = true)
  (hQ : ∀ c a w, Q (.panic c) (a.put oi.dst v) w → Q (.panic c) a w) (hy : YieldsIf P l.toArray S oi v a) (hS : S w)
  (h : wpAnyH P .any l.toArray Q S fuel (listed.setIfInBounds i true) (a.put oi.dst v) w) : wpAnyH P .any l.toArray Q S (fuel + 1) listed a w :=
 wpAnyH_take (at_drop hi) hs hf hr hQ hy hS h
/-- A plan of takes: which operations are taken next, in this order. -/
def Planned (_ : List Nat) (p : Prop) : Prop := p
theorem planned (is : List Nat) {p : Prop} (h : Planned is p) : p := h
theorem planned_take {is : List Nat} {i : Nat} {oi : Oper} {v : Value} {fuel : Nat} {listed : Array Bool} {a : Act} {w : World} (hi : l.drop i = oi :: rest)
  (hs : Region.noSelect l.toArray = true) (hf : Region.free .any l.toArray listed i = true) (hr : (Region.ready .any l.toArray listed).contains i = true)
  (hQ : ∀ c a w, Q (.panic c) (a.put oi.dst v) w → Q (.panic c) a w) (hy : YieldsIf P l.toArray S oi v a) (hS : S w)
  (h : Planned is (wpAnyH P .any l.toArray Q S fuel (listed.setIfInBounds i true) (a.put oi.dst v) w)) : Planned (i :: is) (wpAnyH P .any l.toArray Q S (fuel + 1) listed a w) :=
 wpAnyH_takeL hi hs hf hr hQ hy hS h
theorem planned_end {p : Prop} (h : p) : Planned [] p := h
theorem wpOn_takeL {n i : Nat} {oi : Oper} {v : Value} {fuel : Nat} {listed : Array Bool} {a : Act} {w : World} (hi : l.drop i = oi :: rest)
  (hf : Region.free .any l.toArray listed i = true) (hr : (Region.ready .any l.toArray listed).contains i = true) (hin : i < n)
  (hQ : ∀ c a w, Q (.panic c) (a.put oi.dst v) w → Q (.panic c) a w) (hy : YieldsIf P l.toArray S oi v a) (hS : S w)
  (h : wpOn P l.toArray Q S n fuel (listed.setIfInBounds i true) (a.put oi.dst v) w) : wpOn P l.toArray Q S n (fuel + 1) listed a w :=
 wpOn_take (at_drop hi) hf hr hin hQ hy hS h
theorem wpAnyH_oneL {i : Nat} {o : Oper} {fuel : Nat} {listed : Array Bool} {a : Act} {w : World} (ho : l.drop i = o :: rest) (hr : Region.ready .any l.toArray listed = [i])
  (h : ∀ K : Act → World → Prop, (∀ a w, S w → wpAnyH P .any l.toArray Q S fuel (listed.setIfInBounds i true) a w → K a w) → if Region.wanted o (yielded l.toArray a.tmps) = true then Oper.wp P o a w K Q else K (a.put o.dst undef) w) :
  wpAnyH P .any l.toArray Q S (fuel + 1) listed a w := wpAnyH_one (at_drop ho) hr h
theorem wpOn_oneL {n i : Nat} {o : Oper} {fuel : Nat} {listed : Array Bool} {a : Act} {w : World} (ho : l.drop i = o :: rest) (hr : Region.ready .any l.toArray listed = [i]) (hin : i < n)
  (h : ∀ K : Act → World → Prop, (∀ a w, S w → wpOn P l.toArray Q S n fuel (listed.setIfInBounds i true) a w → K a w) → if Region.wanted o (yielded l.toArray a.tmps) = true then Oper.wp P o a w K Q else K (a.put o.dst undef) w) :
  wpOn P l.toArray Q S n (fuel + 1) listed a w := wpOn_one (at_drop ho) hr hin h
theorem wpOn_lastL {n i : Nat} {o : Oper} {listed : Array Bool} {a : Act} {w : World} (ho : l.drop i = o :: rest) (hr : Region.ready .any l.toArray listed = [i]) (hd : Region.ready .any l.toArray (listed.setIfInBounds i true) = []) (hin : i = n)
  (h : ∀ K : Act → World → Prop, (∀ a w, Q .normal a w → K a w) → if Region.wanted o (yielded l.toArray a.tmps) = true then Oper.wp P o a w K Q else K (a.put o.dst undef) w) :
  wpOn P l.toArray Q S n 1 listed a w := wpOn_last (at_drop ho) hr hd hin h
theorem wpOp_stepL {i : Nat} {o : Oper} {K : Act → World → Prop} {a : Act} {w : World} (ho : l.drop i = o :: rest)
  (h : ∀ K' : Act → World → Prop, (∀ a w, K a w → K' a w) → if Region.wanted o (yielded l.toArray a.tmps) = true then Oper.wp P o a w K' Q else K' (a.put o.dst undef) w) : wpOp P l.toArray Q i K a w := wpOp_step (at_drop ho) h
theorem wp_region_onL (n : Nat) {id : Nat} {a : Act} {w : World} (hm : P.follows .mixedOrders = true) (hB : headB l.toArray n = true)
  (h : wpOn P l.toArray Q S n l.length (Array.replicate l.length false) a w.drew) : (Code.region id l.toArray true).wp P Q a w :=
 wp_region_on n hm hB (by simpa using h)
theorem wp_region_heldL {id : Nat} {a : Act} {w : World} (hm : P.follows .mixedOrders = true)
  (h : wpAnyH P .any l.toArray Q S l.length (Array.replicate l.length false) a w.drew) : (Code.region id l.toArray true).wp P Q a w :=
 wp_region_held hm (by simpa using h)
end
end
end Go.Proofs.YtpjpknndfhablaaGreat
namespace Go.Proofs.YtpjpknndfhablaaGreat
open Go.RowKit

set_option maxHeartbeats 1000000 in
theorem append1_any (b ps pd pf : Nat) (w : World) (d : DS) (rs : Value) (r : List (Bool × List UInt8)) (f : Bool) (s : List UInt8) (h : DiskRows w b d rs r) (hok : d.Ok) (_hs : s.length ≤ 9223372036854775807)
  (h0 : w.cell? ⟨ps, 0, none⟩ = some (.string ⟨s.toArray⟩)) (h1 : w.cell? ⟨pd, 0, none⟩ = some (.pointer (some ⟨b, 0, none⟩))) (h2 : w.cell? ⟨pf, 0, none⟩ = some (.int .i64 (DS.fi f))) :
  Calls Tryz.prog 160 #[.pointer (some ⟨ps, 0, none⟩), .pointer (some ⟨pd, 0, none⟩), .pointer (some ⟨pf, 0, none⟩)] w fun e w' =>
   e = .returned (.int .i64 (if d.size f + s.length > 1048576 then 91 else 0)) ∧ Below w.heap.size w w' := by
 have H := Lib.hid h
 have hb := hok.base_len' f
 obtain ⟨z, hz⟩ : ∃ z : Nat, d.sizeI (DS.fi f) = z := ⟨d.size f, by simp [DS.sizeI, DS.fileNo_of]⟩
 have hz' : d.size f = z := by simp [DS.sizeI, DS.fileNo_of] at hz; omega
 rw [hz'] at hb ⊢
 have HZ := Lib.hid hz
 have HB : Hid (∀ w' : World, Below w.heap.size w w' → (Below w.heap.size w w' ∧ w'.cell? ⟨ps, 0, none⟩ = some (.string ⟨s.toArray⟩) ∧ w'.cell? ⟨pd, 0, none⟩ = some (.pointer (some ⟨b, 0, none⟩)) ∧ w'.cell? ⟨pf, 0, none⟩ = some (.int .i64 (DS.fi f)))) :=
  fun w' hb => ⟨hb, cell_later hb h0, cell_later hb h1, cell_later hb h2⟩
 clear h hz hz'
 have hwrap : IntKind.i64.wrap (1048576 - (z : Int)) = 1048576 - (z : Int) := IntWalk.i64_in _ (by omega)
 go_enter Tryz.func160, Tryz.ntmps160
 go_wp2
 go_region_held3 (fun w' => Below w.heap.size w w' ∧ w'.cell? ⟨ps, 0, none⟩ = some (.string ⟨s.toArray⟩) ∧ w'.cell? ⟨pd, 0, none⟩ = some (.pointer (some ⟨b, 0, none⟩)) ∧ w'.cell? ⟨pf, 0, none⟩ = some (.int .i64 (DS.fi f)))
  (first | exact HB.out _ (Below.refl _ _).drew | exact HB.out _ (bthen (by assumption : Below w.heap.size w _ ∧ _).1 (by assumption)))
  (first | (go_at_call 85; refine (size_any b _ d rs r (DS.fi f) (H.out.below (by assumption : Below w.heap.size w _ ∧ _).1) hok).mono ?_; rw [HZ.out]; rintro e w' ⟨rfl, hb⟩))
 clear hwrap
 by_cases hc : z + s.length > 1048576
 all_goals go_wp2
 all_goals go_ret
 all_goals exact ⟨ret_int (by simp), (by assumption : Below w.heap.size w _ ∧ _).1⟩

theorem Tryz.laidInfo : (Tryz.prog.info? 106).map (fun i => (i.zero, i.size, i.bytes)) = some (some (.agg #[.int .i64 0, .string ⟨#[]⟩]), 2, 24) := by kernel_rfl

/-- 'refused' hands on what a closure without ways says: used at each of its three calls in place. -/
theorem cells_box3 {w : World} {x y z : Value} {t u v : TypeId} : ∃ w3 : World, w3 = ((w.alloc (.cells #[x] t)).alloc (.cells #[y] u)).alloc (.cells #[z] v) ∧ Below w.heap.size w w3 ∧
  w3.heap[w.heap.size]? = some (.cells #[x] t (0, 0)) ∧ w3.heap[w.heap.size + 1]? = some (.cells #[y] u (0, 0)) ∧ w3.heap[w.heap.size + 1 + 1]? = some (.cells #[z] v (0, 0)) := by
 refine ⟨_, rfl, bthen (bthen (balloc _ _) (balloc _ _)) (balloc _ _), ?_, ?_, ?_⟩
 ·exact stays (stays (heap_new w _) (balloc _ _)) (balloc _ _)
 ·have := heap_new (w.alloc (.cells #[x] t)) (.cells #[y] u)
  rw [World.size_alloc] at this
  exact stays this (balloc _ _)
 ·have := heap_new ((w.alloc (.cells #[x] t)).alloc (.cells #[y] u)) (.cells #[z] v)
  rwa [World.size_alloc, World.size_alloc] at this

set_option maxHeartbeats 1000000 in
theorem append_anyN (b : Nat) (w : World) (d : DS) (m : Nat) (rb : Option Nat) (f : Int) (s : List UInt8) (h : DiskAt w b d m rb) (hs : s.length ≤ 9223372036854775807) (hm : m < 5000000000000) :
  Calls Tryz.prog 126 #[.pointer (some ⟨b, 0, none⟩), .int .i64 f, .string ⟨s.toArray⟩] w fun e w' => e = .returned (.int .i64 (d.append f s).2) ∧
   ∃ rb', DiskAt w' b (d.append f s).1 (m + 1) rb' ∧ Newer w rb rb' ∧ Touch (own2 b rb) w w' ∧ ((d.append f s).1.dead = true → d.dead = false → rb' = none) := by
 have hok' := h.1.append f s
 obtain ⟨hok, rs, r, h, hrm, rfl⟩ := h
 obtain ⟨c0, c1, c2, c3, c4, c5, cf, hlt⟩ := h.cells
 have H := Lib.hid h
 clear h c0 c1 c2 c3 c4
 cases hd : d.dead
 ·rw [hd] at c5
  have HD9 := Lib.hid hd
  by_cases hf : f = 0 ∨ f = 1
  ·obtain ⟨q, rfl⟩ := DS.fi_of hf
   have hq : 0 ≤ DS.fi q ∧ DS.fi q < 2 := by cases q <;> decide
   obtain ⟨hq0, hq1⟩ := hq
   clear hf
   by_cases hc : d.size q + s.length > 1048576
   ·have HX : Hid (d.append (DS.fi q) s = (d, 91)) := by unfold DS.append; rw [if_neg (by simp [hd]), DS.fileNo_of]; simp only []; rw [if_pos hc]; exact rfl
    have HC := Lib.hid hc
    clear hd hc
    go_enter Tryz.func126, Tryz.ntmps126
    go_wp2_with fail
    obtain ⟨w3, hw3, hb3, n0, n1, n2⟩ := cells_box3 (w := w) (x := .pointer (some ⟨b, 0, none⟩)) (y := .int .i64 (DS.fi q)) (z := .string ⟨s.toArray⟩) (t := 23) (u := 3) (v := 9)
    rw [← hw3]
    clear hw3
    obtain ⟨d0, e0, l0⟩ := cells1 n0
    obtain ⟨d1, e1, l1⟩ := cells1 n1
    obtain ⟨d2, e2, l2⟩ := cells1 n2
    have c5' := cell_later hb3 c5
    clear c5 cf
    have H3 := Lib.hid (H.out.below hb3)
    have HB3 := Lib.hid hb3
    clear hb3
    go_in
    go_wp2_with (first | (go_at_call 160; refine (append1_any b _ _ _ w3 d rs r q s H3.out hok hs d2 d0 d1).mono ?_; rw [if_pos HC.out]; rintro e w4 ⟨rfl, hb4⟩; have HB4 := Lib.hid hb4; clear hb4) | go_in)
    go_ret
    have hb := bthen HB3.out HB4.out
    exact ⟨ret_int (by rw [HX.out]), rs.ownBlock, by rw [HX.out]; exact ⟨hok, rs, r, H.out.below hb, by omega, rfl⟩, Newer.refl _ _, Touch.of_below hb, fun h1 h2 => by first | (cases h2; done) | (rw [HX.out] at h1; have h3 : d.dead = true := h1; rw [HD9.out] at h3; cases h3)⟩
   ·have hkp := hok.keep
    have hul := hok.u_len
    have HC := Lib.hid hc
    have HD := Lib.hid hd
    cases hg : d.goes
    all_goals have HG := Lib.hid hg
    all_goals clear hd hc hg
    all_goals go_enter Tryz.func126, Tryz.ntmps126
    all_goals
     skip
     go_wp2_with fail
     obtain ⟨w3, hw3, hb3, n0, n1, n2⟩ := cells_box3 (w := w) (x := .pointer (some ⟨b, 0, none⟩)) (y := .int .i64 (DS.fi q)) (z := .string ⟨s.toArray⟩) (t := 23) (u := 3) (v := 9)
     rw [← hw3]
     clear hw3
     obtain ⟨d0, e0, l0⟩ := cells1 n0
     obtain ⟨d1, e1, l1⟩ := cells1 n1
     obtain ⟨d2, e2, l2⟩ := cells1 n2
     have c5' := cell_later hb3 c5
     clear c5 cf
     have H3 := Lib.hid (H.out.below hb3)
     have HB3 := Lib.hid hb3
     clear hb3
     go_in
     have N0 := Lib.hid n0
     have N1 := Lib.hid n1
     have N2 := Lib.hid n2
     clear n0 n1 n2
     go_wp2_with (first
      | (go_at_call 160; go_must (refine (append1_any b _ _ _ w3 d rs r q s H3.out hok hs d2 d0 d1).mono ?_; rw [if_neg HC.out]; rintro e w4 ⟨rfl, hb4⟩; have d0' := cell_later hb4 d0; have H4 := Lib.hid (H3.out.below hb4); have HB4 := Lib.hid hb4; have hs4 := hb4.size; clear hb4))
      | (go_at_call 150; go_must (refine (goes_any b _ d rs r H4.out hok).mono ?_; rw [HG.out]; rintro e w5 ⟨rfl, hr5, ht5⟩; have HR5 := Lib.hid hr5; have HT5 := Lib.hid ht5; obtain ⟨d0', e0', l0'⟩ := cells1 ((ht5.block _ (by omega) (by omega)).trans (stays N0.out HB4.out)); obtain ⟨d1', e1', l1'⟩ := cells1 ((ht5.block _ (by omega) (by omega)).trans (stays N1.out HB4.out)); obtain ⟨d2', e2', l2'⟩ := cells1 ((ht5.block _ (by omega) (by omega)).trans (stays N2.out HB4.out)); obtain ⟨c0', c1', c2', c3', c4', c5'', cf', hlt'⟩ := hr5.cells; clear hr5 ht5))
      | go_in)
    all_goals
     have hrl : ∀ k, rs.ownBlock = some k → k < w.heap.size := fun k hk => (H.out.own.lt k hk).2
     have HRL := Lib.hid hrl
     clear hrl d0 d1 d2 e0 e1 e2 c5'
     refine wp_region_onL (S := fun w' => w'.cell? ⟨w.heap.size, 0, none⟩ = some (.pointer (some ⟨b, 0, none⟩)) ∧ w'.cell? ⟨w.heap.size + 1, 0, none⟩ = some (.int .i64 (DS.fi q)) ∧ w'.cell? ⟨w.heap.size + 1 + 1, 0, none⟩ = some (.string ⟨s.toArray⟩) ∧ w'.cell? ⟨b, 2, none⟩ = some rs) 12 (by kernel_rfl) (by kernel_rfl) ?_
     have hS0 : w5.drew.cell? ⟨w.heap.size, 0, none⟩ = some (.pointer (some ⟨b, 0, none⟩)) ∧ w5.drew.cell? ⟨w.heap.size + 1, 0, none⟩ = some (.int .i64 (DS.fi q)) ∧ w5.drew.cell? ⟨w.heap.size + 1 + 1, 0, none⟩ = some (.string ⟨s.toArray⟩) ∧ w5.drew.cell? ⟨b, 2, none⟩ = some rs := ⟨d0', d1', d2', c2'⟩
     refine wpOn_takeL (i := 0) (v := ?_) rfl (by kernel_rfl) (by kernel_rfl) (by decide) (fun _ _ _ h => h) (Or.inl ⟨by rfl, ?_⟩) (by assumption) ?_; rotate_left; focus ((intro w hSw; (try dsimp only at hSw); go_simp); try with_reducible rfl)
     simp only [Act.put, List.setIfInBounds_toArray, List.set_cons_zero, List.set_cons_succ]
     refine wpOn_takeL (i := 1) (v := ?_) rfl (by kernel_rfl) (by kernel_rfl) (by decide) (fun _ _ _ h => h) (Or.inl ⟨by rfl, ?_⟩) (by assumption) ?_; rotate_left; focus ((intro w hSw; (try dsimp only at hSw); go_simp); try with_reducible rfl)
     simp only [Act.put, List.setIfInBounds_toArray, List.set_cons_zero, List.set_cons_succ]
     refine wpOn_takeL (i := 2) (v := ?_) rfl (by kernel_rfl) (by kernel_rfl) (by decide) (fun _ _ _ h => h) (Or.inl ⟨by rfl, ?_⟩) (by assumption) ?_; rotate_left; focus ((intro w hSw; (try dsimp only at hSw); go_simp); try with_reducible rfl)
     simp only [Act.put, List.setIfInBounds_toArray, List.set_cons_zero, List.set_cons_succ]
     refine wpOn_takeL (i := 3) (v := ?_) rfl (by kernel_rfl) (by kernel_rfl) (by decide) (fun _ _ _ h => h) (Or.inl ⟨by rfl, ?_⟩) (by assumption) ?_; rotate_left; focus ((intro w hSw; (try dsimp only at hSw); go_simp); try with_reducible rfl)
     simp only [Act.put, List.setIfInBounds_toArray, List.set_cons_zero, List.set_cons_succ]
     refine wpOn_takeL (i := 4) (v := ?_) rfl (by kernel_rfl) (by kernel_rfl) (by decide) (fun _ _ _ h => h) (Or.inl ⟨by rfl, ?_⟩) (by assumption) ?_; rotate_left; focus ((intro w hSw; (try dsimp only at hSw); go_simp); try with_reducible rfl)
     simp only [Act.put, List.setIfInBounds_toArray, List.set_cons_zero, List.set_cons_succ]
     refine wpOn_takeL (i := 5) (v := ?_) rfl (by kernel_rfl) (by kernel_rfl) (by decide) (fun _ _ _ h => h) (Or.inl ⟨by rfl, ?_⟩) (by assumption) ?_; rotate_left; focus ((intro w hSw; (try dsimp only at hSw); go_simp); try with_reducible rfl)
     simp only [Act.put, List.setIfInBounds_toArray, List.set_cons_zero, List.set_cons_succ]
     refine wpOn_takeL (i := 6) (v := ?_) rfl (by kernel_rfl) (by kernel_rfl) (by decide) (fun _ _ _ h => h) (Or.inl ⟨by rfl, ?_⟩) (by assumption) ?_; rotate_left; focus ((intro w hSw; (try dsimp only at hSw); go_simp); try with_reducible rfl)
     simp only [Act.put, List.setIfInBounds_toArray, List.set_cons_zero, List.set_cons_succ]
     refine wpOn_takeL (i := 7) (v := ?_) rfl (by kernel_rfl) (by kernel_rfl) (by decide) (fun _ _ _ h => h) (Or.inl ⟨by rfl, ?_⟩) (by assumption) ?_; rotate_left; focus ((intro w hSw; (try dsimp only at hSw); go_simp); try with_reducible rfl)
     simp only [Act.put, List.setIfInBounds_toArray, List.set_cons_zero, List.set_cons_succ]
     refine wpOn_oneL (i := 8) rfl (by kernel_rfl) (by decide) ?_
     intro K hK
     rw [if_pos (by rfl)]
     go_simp
     have hb6 : Below w5.heap.size w5 (w5.alloc (.cells #[.int .i64 (DS.fi q), .string ⟨s.toArray⟩] 106)).drew := (balloc _ _).drew
     refine hK _ _ ⟨cell_later hb6 d0', cell_later hb6 d1', cell_later hb6 d2', cell_later hb6 c2'⟩ ?_
     clear hK K
     refine wpOn_oneL (i := 9) rfl (by kernel_rfl) (by decide) ?_
     intro K hK
     rw [if_pos (by rfl)]
     refine wp_append_own2 _ (.tmp 22) (.tmp 26) 87 rfl 0 106 2 24 _ Tryz.laidInfo Tryz.underlying87 rfl (by decide) rs r.length (rowCells r) rfl (own_touch HR5.out.own (Touch.of_below (S := fun _ => False) hb6) (fun _ _ h => h)) ⟨w5.heap.size, 0, none⟩ 1 1 [.int .i64 (DS.fi q), .string ⟨s.toArray⟩] rfl rfl ?_ ?_ (by unfold maxLen; omega) (by omega) (by omega) ?_
     ·intro j u hj
      have hnew := heap_new w5 (.cells #[.int .i64 (DS.fi q), .string ⟨s.toArray⟩] 106)
      match j, hj with
      | 0, hj => simp at hj; subst hj; exact cell_of hnew rfl
      | 1, hj => simp at hj; subst hj; exact cell_of hnew rfl
     ·intro u hu; simp at hu; rcases hu with rfl | rfl <;> rfl
     intro v' w6 hown6 hgrow6 hblk6
     have hsz6 := hgrow6.size
     have hne : ∀ k, w.heap.size ≤ k → some k ≠ rs.ownBlock := fun k hk e => by have := HRL.out k e.symm; omega
     have hneb : some b ≠ rs.ownBlock := fun e => H.out.rows_block e.symm
     have d0'' := hgrow6.cell (cell_later hb6 d0') (hne _ (by simp))
     have d1'' := hgrow6.cell (cell_later hb6 d1') (hne _ (by simp <;> omega))
     have d2'' := hgrow6.cell (cell_later hb6 d2') (hne _ (by simp <;> omega))
     have c2'' := hgrow6.cell (cell_later hb6 c2') hneb
     obtain ⟨g6, cap6, rfl⟩ := ownsRow_succ hown6
     have hS6 : _ ∧ _ ∧ _ ∧ _ := ⟨d0'', d1'', d2'', c2''⟩
     refine hK _ _ hS6 ?_
     clear hK K
     simp only [Act.put, List.setIfInBounds_toArray, List.set_cons_zero, List.set_cons_succ]
     refine wpOn_takeL (i := 10) (v := ?_) rfl (by kernel_rfl) (by kernel_rfl) (by decide) (fun _ _ _ h => h) (Or.inl ⟨by rfl, ?_⟩) (by assumption) ?_; rotate_left; focus ((intro w hSw; (try dsimp only at hSw); go_simp); try with_reducible rfl)
     simp only [Act.put, List.setIfInBounds_toArray, List.set_cons_zero, List.set_cons_succ]
     refine wpOn_takeL (i := 11) (v := ?_) rfl (by kernel_rfl) (by kernel_rfl) (by decide) (fun _ _ _ h => h) (Or.inl ⟨by rfl, ?_⟩) (by assumption) ?_; rotate_left; focus ((intro w hSw; (try dsimp only at hSw); go_simp); try with_reducible rfl)
     simp only [Act.put, List.setIfInBounds_toArray, List.set_cons_zero, List.set_cons_succ]
     refine wpOn_lastL (i := 12) rfl (by kernel_rfl) (by kernel_rfl) rfl ?_
     intro K hK
     rw [if_pos (by rfl)]
     have hbl6 := (hgrow6.block b (by simp; omega) hneb).trans (stays HR5.out.blk hb6)
     have cf6 := free_of hbl6
     have HBL := Lib.hid hbl6
     have HG6 := Lib.hid hgrow6
     have HO6 := Lib.hid hown6
     clear hbl6 hgrow6 hown6
     go_simp
     refine hK _ _ ?_
     clear hK K hS6
     have hgb : g6 ≠ b := fun e => by
      rcases hblk6 with h | h
      ·exact hneb (by rw [← e]; exact h)
      ·have := HB4.out.size; have := HB3.out.size; have := HT5.out.size; simp [Value.ownBlock] at h; omega
     have h7 := heap_set (i := 2) (.slice (some ⟨g6, 0, none⟩) (r.length + 1) cap6) HBL.out
     have hr7 : DiskRows (w6.setCell ⟨b, 2, none⟩ (.slice (some ⟨g6, 0, none⟩) (r.length + 1) cap6)) b (d.tick.lay q s) (.slice (some ⟨g6, 0, none⟩) (r.length + 1) cap6) (r ++ [(q, s)]) := by
      refine ⟨?_, ?_, ?_⟩
      ·rw [h7]; simp [diskBlock, DS.lay, DS.tick]
      ·have := own_touch HO6.out ((Touch.refl (· = b) w6).setCell (a := ⟨b, 2, none⟩) (.slice (some ⟨g6, 0, none⟩) (r.length + 1) cap6) (fun _ => rfl)) (fun k hk => by simp [Value.ownBlock] at hk; omega)
       rw [rowCells_append]; simpa [rowCells] using this
      ·rw [DS.flat_append, DS.flat_one, H.out.u]; rfl
     have ht7 : Touch (own2 b rs.ownBlock) w (w6.setCell ⟨b, 2, none⟩ (.slice (some ⟨g6, 0, none⟩) (r.length + 1) cap6)) := by
      refine Touch.setCell ?_ _ (fun _ => .inl rfl)
      refine Touch.trans (Touch.trans (Touch.trans (Touch.of_below (bthen HB3.out HB4.out)) HT5.out (fun k _ h => .inl h)) (Touch.of_below (S := fun _ => False) hb6) (fun _ _ h => h.elim)) (touch_of_grown HG6.out) (fun k _ h => .inr h)
     have hn7 : Newer w rs.ownBlock (some g6) := fun k hk => by
      rcases hblk6 with h | h
      ·exact .inl (h.symm.trans hk)
      ·right; have := HB4.out.size; have := HB3.out.size; have := HT5.out.size; simp [Value.ownBlock] at h hk; omega
     have H7 := Lib.hid hr7
     have HT7 := Lib.hid ht7
     have HN7 := Lib.hid hn7
     clear hr7 ht7 hn7 h7 hblk6 hgb
     go_wp2
    ·have HX : Hid (d.append (DS.fi q) s = (d.tick.lay q s, 0)) := by
      unfold DS.append; rw [if_neg (by simp [HD.out]), DS.fileNo_of]; simp only []; rw [if_neg HC.out, if_neg (by simp [HG.out])]; exact rfl
     go_ret
     refine ⟨ret_int (by rw [HX.out]), some g6, ?_, HN7.out, HT7.out, fun h1 h2 => by first | (cases h2; done) | (rw [HX.out] at h1; have h3 : d.dead = true := h1; rw [HD9.out] at h3; cases h3)⟩
     rw [HX.out] at hok' ⊢
     exact ⟨hok', _, _, H7.out, by simp <;> omega, rfl⟩
    ·have HX : Hid (d.append (DS.fi q) s = ((d.tick.lay q s).die d.keep, 2)) := by
      unfold DS.append; rw [if_neg (by simp [HD.out]), DS.fileNo_of]; simp only []; rw [if_neg HC.out, if_pos HG.out]; exact rfl
     have hok7 : (d.tick.lay q s).Ok := hok.tick.lay q s (by rw [DS.size_tick]; have := HC.out; omega)
     obtain ⟨_, _, _, _, x4, _, _, _⟩ := H7.out.cells
     have x0 : (w6.setCell ⟨b, 2, none⟩ (.slice (some ⟨g6, 0, none⟩) (r.length + 1) cap6)).cell? ⟨w.heap.size, 0, none⟩ = some (.pointer (some ⟨b, 0, none⟩)) := by
      rw [World.cell?_setCell_other _ _ _ _ (by simp <;> omega)]; exact d0''
     have x4' : (w6.setCell ⟨b, 2, none⟩ (.slice (some ⟨g6, 0, none⟩) (r.length + 1) cap6)).cell? ⟨b, 4, none⟩ = some (.int .i64 d.keep) := x4
     clear x4
     obtain ⟨w7, hw7⟩ : ∃ w7, w7 = (w6.setCell ⟨b, 2, none⟩ (.slice (some ⟨g6, 0, none⟩) (r.length + 1) cap6)) := ⟨_, rfl⟩
     rw [← hw7] at x0 x4' H7 HT7 ⊢
     clear hw7
     go_region_held3 (fun w' => w'.cell? ⟨w.heap.size, 0, none⟩ = some (.pointer (some ⟨b, 0, none⟩)) ∧ w'.cell? ⟨b, 4, none⟩ = some (.int .i64 d.keep))
      (first | exact ⟨x0, x4'⟩ | exact ⟨by assumption, by assumption⟩)
      (first | (go_at_call 70; refine (dies_any b _ _ _ _ d.keep H7.out.drew hok7 (by omega) (by omega)).mono ?_; rintro e w8 ⟨rfl, hr8, ht8⟩; have y0 := (World.cell?_of_block (w := w7) (a := ⟨w.heap.size, 0, none⟩) (ht8.block w.heap.size (World.block_lt_of_cell? w7 _ x0) (by omega))).trans x0; obtain ⟨_, _, _, _, y4, _, _, _⟩ := hr8.cells; have y4' : w8.cell? ⟨b, 4, none⟩ = some (.int .i64 d.keep) := y4; clear y4; have HR8 := Lib.hid hr8; have HT8 := Lib.hid ht8; clear hr8 ht8))
     go_wp2
     go_ret
     refine ⟨ret_int (by rw [HX.out]), none, ?_, Newer.none _ _, Touch.trans HT7.out.drew HT8.out (fun k _ h => .inl h), fun _ _ => rfl⟩
     rw [HX.out] at hok' ⊢
     exact ⟨hok', _, [], HR8.out, Nat.zero_le _, rfl⟩
  ·have hf' : f < 0 ∨ 2 ≤ f := by omega
   have HX : Hid (d.append f s = (d, 90)) := by unfold DS.append; rw [if_neg (by simp [hd]), DS.fileNo_none hf]; exact rfl
   clear hf hd
   rcases hf' with hf | hf
   all_goals go_enter Tryz.func126, Tryz.ntmps126
   all_goals go_wp2_with fail
   all_goals
    obtain ⟨w3, hw3, hb3, n0, n1, n2⟩ := cells_box3 (w := w) (x := .pointer (some ⟨b, 0, none⟩)) (y := .int .i64 f) (z := .string ⟨s.toArray⟩) (t := 23) (u := 3) (v := 9)
    rw [← hw3]
    clear hw3
    obtain ⟨d0, e0, l0⟩ := cells1 n0
    obtain ⟨d1, e1, l1⟩ := cells1 n1
    obtain ⟨d2, e2, l2⟩ := cells1 n2
    have c5' := cell_later hb3 c5
    clear c5 cf
    have H3 := Lib.hid (H.out.below hb3)
    have HB3 := Lib.hid hb3
    clear hb3
    go_in
    go_wp2_with go_in
    go_ret
    have hb := HB3.out
    exact ⟨ret_int (by rw [HX.out]), rs.ownBlock, by rw [HX.out]; exact ⟨hok, rs, r, H.out.below hb, by omega, rfl⟩, Newer.refl _ _, Touch.of_below hb, fun h1 h2 => by first | (cases h2; done) | (rw [HX.out] at h1; have h3 : d.dead = true := h1; rw [HD9.out] at h3; cases h3)⟩
 ·rw [hd] at c5
  have HD9 := Lib.hid hd
  have HX : Hid (d.append f s = (d, 2)) := by unfold DS.append; rw [if_pos hd]; exact rfl
  clear hd
  go_enter Tryz.func126, Tryz.ntmps126
  go_wp2_with fail
  obtain ⟨w3, hw3, hb3, n0, n1, n2⟩ := cells_box3 (w := w) (x := .pointer (some ⟨b, 0, none⟩)) (y := .int .i64 f) (z := .string ⟨s.toArray⟩) (t := 23) (u := 3) (v := 9)
  rw [← hw3]
  clear hw3
  obtain ⟨d0, e0, l0⟩ := cells1 n0
  obtain ⟨d1, e1, l1⟩ := cells1 n1
  obtain ⟨d2, e2, l2⟩ := cells1 n2
  have c5' := cell_later hb3 c5
  clear c5 cf
  have H3 := Lib.hid (H.out.below hb3)
  have HB3 := Lib.hid hb3
  clear hb3
  go_in
  go_wp2_with go_in
  go_ret
  have hb := HB3.out
  exact ⟨ret_int (by rw [HX.out]), rs.ownBlock, by rw [HX.out]; exact ⟨hok, rs, r, H.out.below hb, by omega, rfl⟩, Newer.refl _ _, Touch.of_below hb, fun h1 h2 => by first | (cases h2; done) | (rw [HX.out] at h1; have h3 : d.dead = true := h1; rw [HD9.out] at h3; cases h3)⟩
end Go.Proofs.YtpjpknndfhablaaGreat
namespace Go.Proofs.YtpjpknndfhablaaGreat
open Go.RowKit

set_option maxHeartbeats 1000000 in
theorem cut1_any (b pn pd pf : Nat) (w : World) (d : DS) (rs : Value) (r : List (Bool × List UInt8)) (f : Bool) (n : Int) (h : DiskRows w b d rs r) (hok : d.Ok)
  (h0 : w.cell? ⟨pn, 0, none⟩ = some (.int .i64 n)) (h1 : w.cell? ⟨pd, 0, none⟩ = some (.pointer (some ⟨b, 0, none⟩))) (h2 : w.cell? ⟨pf, 0, none⟩ = some (.int .i64 (DS.fi f))) :
  Calls Tryz.prog 149 #[.pointer (some ⟨pn, 0, none⟩), .pointer (some ⟨pd, 0, none⟩), .pointer (some ⟨pf, 0, none⟩)] w fun e w' =>
   e = .returned (.int .i64 (if n < 0 ∨ n > d.size f ∨ DS.of f d.u ≠ [] then 92 else 0)) ∧ Below w.heap.size w w' := by
 have H := Lib.hid h
 have hb := hok.base_len' f
 obtain ⟨z, hz⟩ : ∃ z : Nat, d.sizeI (DS.fi f) = z := ⟨d.size f, by simp [DS.sizeI, DS.fileNo_of]⟩
 have hz' : d.size f = z := by simp [DS.sizeI, DS.fileNo_of] at hz; omega
 have hbs : w.cell? ⟨b, f.toNat, none⟩ = some (.string ⟨(d.base f).toArray⟩) := by
  obtain ⟨c0, c1, _⟩ := h.cells
  cases f
  ·exact c0
  ·exact c1
 have hq : DS.fi f = (f.toNat : Int) := by cases f <;> rfl
 have hq2 : f.toNat < 2 := by cases f <;> decide
 have hu : (DS.of f d.u ≠ []) ↔ (d.base f).length < z := by
  rw [← hz', DS.size, DS.file, List.length_append, ← List.length_pos_iff]; omega
 have hbz : (d.base f).length ≤ z := by rw [← hz', DS.size, DS.file, List.length_append]; omega
 rw [hz'] at hb ⊢
 simp only [hu]
 clear hu
 have HZ := Lib.hid hz
 rw [hq] at h2 HZ
 generalize f.toNat = fn at hbs h2 hq2 HZ
 generalize d.base f = bs at hbs hbz ⊢
 have HB : Hid (∀ w' : World, Below w.heap.size w w' → (Below w.heap.size w w' ∧ w'.cell? ⟨pn, 0, none⟩ = some (.int .i64 n) ∧ w'.cell? ⟨pd, 0, none⟩ = some (.pointer (some ⟨b, 0, none⟩)) ∧ w'.cell? ⟨pf, 0, none⟩ = some (.int .i64 (fn : Int)) ∧ w'.cell? ⟨b, fn, none⟩ = some (.string ⟨bs.toArray⟩))) :=
  fun w' hb => ⟨hb, cell_later hb h0, cell_later hb h1, cell_later hb h2, cell_later hb hbs⟩
 clear h hz hz' hq
 have hq3 : (fn : Int) < 2 := by omega
 have hq4 : (0 : Int) ≤ fn := by omega
 go_enter Tryz.func149, Tryz.ntmps149
 go_wp2
 rcases (show n < 0 ∨ (0 ≤ n ∧ (z : Int) < n) ∨ (0 ≤ n ∧ n ≤ z ∧ bs.length < z) ∨ (0 ≤ n ∧ n ≤ z ∧ bs.length = z) from by omega) with hn | ⟨hn0, hn⟩ | ⟨hn0, hn, hl⟩ | ⟨hn0, hn, hl⟩
 ·have hd : decide (n < 0) = true := by simp [hn]
  refine wp_region_heldL (S := (fun w' => Below w.heap.size w w' ∧ w'.cell? ⟨pn, 0, none⟩ = some (.int .i64 n) ∧ w'.cell? ⟨pd, 0, none⟩ = some (.pointer (some ⟨b, 0, none⟩)) ∧ w'.cell? ⟨pf, 0, none⟩ = some (.int .i64 (fn : Int)) ∧ w'.cell? ⟨b, fn, none⟩ = some (.string ⟨bs.toArray⟩))) (by kernel_rfl) ?_
  have hS := HB.out _ (Below.refl w.heap.size w).drew
  refine planned [0, 1, 2, 3, 4, 5, 6, 7, 8, 9, 10, 11, 12, 13, 14, 15, 16, 17, 18, 19, 20, 21] ?_
  iterate 22 (refine planned_take (v := ?_) rfl (by kernel_rfl) (by kernel_rfl) (by kernel_rfl) (fun _ _ _ h => h) ?_ (by assumption) ?_; rotate_left; (focus (first | (refine Or.inr ⟨by rfl, ?_⟩; with_reducible rfl) | (refine Or.inl ⟨by rfl, ?_⟩; (intro w hSw; (try dsimp only at hSw); go_simp); try with_reducible rfl))); try simp only [Act.put, List.setIfInBounds_toArray, List.set_cons_zero, List.set_cons_succ])
  refine planned_end ?_
  refine wpAnyH_done (by kernel_rfl) ?_ _
  go_wp2
  go_ret
  exact ⟨ret_int (by first | rfl | rw [if_pos (Or.inl hn)]), hS.1⟩
 ·have hd : decide (n < 0) = false := by simp [hn0]
  have hd2 : decide ((z : Int) < n) = true := by simp [hn]
  refine wp_region_heldL (S := (fun w' => Below w.heap.size w w' ∧ w'.cell? ⟨pn, 0, none⟩ = some (.int .i64 n) ∧ w'.cell? ⟨pd, 0, none⟩ = some (.pointer (some ⟨b, 0, none⟩)) ∧ w'.cell? ⟨pf, 0, none⟩ = some (.int .i64 (fn : Int)) ∧ w'.cell? ⟨b, fn, none⟩ = some (.string ⟨bs.toArray⟩))) (by kernel_rfl) ?_
  have hS := HB.out _ (Below.refl w.heap.size w).drew
  refine planned [0, 1, 2, 3, 4, 5] ?_
  iterate 6 (refine planned_take (v := ?_) rfl (by kernel_rfl) (by kernel_rfl) (by kernel_rfl) (fun _ _ _ h => h) ?_ (by assumption) ?_; rotate_left; (focus (first | (refine Or.inr ⟨by rfl, ?_⟩; with_reducible rfl) | (refine Or.inl ⟨by rfl, ?_⟩; (intro w hSw; (try dsimp only at hSw); go_simp); try with_reducible rfl))); try simp only [Act.put, List.setIfInBounds_toArray, List.set_cons_zero, List.set_cons_succ])
  refine planned_end ?_
  refine wpAnyH_oneL (i := 6) rfl (by kernel_rfl) ?_
  intro K hK
  rw [if_pos (by rfl)]
  go_simp
  refine (size_any b _ d rs r fn (H.out.below hS.1) hok).mono ?_
  rw [HZ.out]
  rintro e w6 ⟨rfl, hb⟩
  have hS := HB.out _ (bthen hS.1 hb)
  clear hb
  refine hK _ _ hS ?_
  clear hK K
  try simp only [Act.put, List.setIfInBounds_toArray, List.set_cons_zero, List.set_cons_succ]
  refine planned [7, 8, 9, 10, 11, 12, 13, 14, 15, 16, 17, 18, 19, 20, 21] ?_
  iterate 15 (refine planned_take (v := ?_) rfl (by kernel_rfl) (by kernel_rfl) (by kernel_rfl) (fun _ _ _ h => h) ?_ (by assumption) ?_; rotate_left; (focus (first | (refine Or.inr ⟨by rfl, ?_⟩; with_reducible rfl) | (refine Or.inl ⟨by rfl, ?_⟩; (intro w hSw; (try dsimp only at hSw); go_simp); try with_reducible rfl))); try simp only [Act.put, List.setIfInBounds_toArray, List.set_cons_zero, List.set_cons_succ])
  refine planned_end ?_
  refine wpAnyH_done (by kernel_rfl) ?_ _
  go_wp2
  go_ret
  exact ⟨ret_int (by first | rfl | rw [if_pos (Or.inr (Or.inl hn))]), hS.1⟩
 ·have hd : decide (n < 0) = false := by simp [hn0]
  have hd2 : decide ((z : Int) < n) = false := by simp [hn]
  have hd3 : decide ((bs.length : Int) < z) = true := by simp [hl]
  refine wp_region_heldL (S := (fun w' => Below w.heap.size w w' ∧ w'.cell? ⟨pn, 0, none⟩ = some (.int .i64 n) ∧ w'.cell? ⟨pd, 0, none⟩ = some (.pointer (some ⟨b, 0, none⟩)) ∧ w'.cell? ⟨pf, 0, none⟩ = some (.int .i64 (fn : Int)) ∧ w'.cell? ⟨b, fn, none⟩ = some (.string ⟨bs.toArray⟩))) (by kernel_rfl) ?_
  have hS := HB.out _ (Below.refl w.heap.size w).drew
  refine planned [0, 1, 2, 3, 4, 5] ?_
  iterate 6 (refine planned_take (v := ?_) rfl (by kernel_rfl) (by kernel_rfl) (by kernel_rfl) (fun _ _ _ h => h) ?_ (by assumption) ?_; rotate_left; (focus (first | (refine Or.inr ⟨by rfl, ?_⟩; with_reducible rfl) | (refine Or.inl ⟨by rfl, ?_⟩; (intro w hSw; (try dsimp only at hSw); go_simp); try with_reducible rfl))); try simp only [Act.put, List.setIfInBounds_toArray, List.set_cons_zero, List.set_cons_succ])
  refine planned_end ?_
  refine wpAnyH_oneL (i := 6) rfl (by kernel_rfl) ?_
  intro K hK
  rw [if_pos (by rfl)]
  go_simp
  refine (size_any b _ d rs r fn (H.out.below hS.1) hok).mono ?_
  rw [HZ.out]
  rintro e w6 ⟨rfl, hb⟩
  have hS := HB.out _ (bthen hS.1 hb)
  clear hb
  refine hK _ _ hS ?_
  clear hK K
  try simp only [Act.put, List.setIfInBounds_toArray, List.set_cons_zero, List.set_cons_succ]
  refine planned [7, 8, 9, 10, 11, 13, 14, 15, 16, 17, 18, 19] ?_
  iterate 12 (refine planned_take (v := ?_) rfl (by kernel_rfl) (by kernel_rfl) (by kernel_rfl) (fun _ _ _ h => h) ?_ (by assumption) ?_; rotate_left; (focus (first | (refine Or.inr ⟨by rfl, ?_⟩; with_reducible rfl) | (refine Or.inl ⟨by rfl, ?_⟩; (intro w hSw; (try dsimp only at hSw); go_simp); try with_reducible rfl))); try simp only [Act.put, List.setIfInBounds_toArray, List.set_cons_zero, List.set_cons_succ])
  refine planned_end ?_
  refine wpAnyH_oneL (i := 12) rfl (by kernel_rfl) ?_
  intro K hK
  rw [if_pos (by rfl)]
  go_simp
  refine (size_any b _ d rs r fn (H.out.below hS.1) hok).mono ?_
  rw [HZ.out]
  rintro e w12 ⟨rfl, hb⟩
  have hS := HB.out _ (bthen hS.1 hb)
  clear hb
  refine hK _ _ hS ?_
  clear hK K
  try simp only [Act.put, List.setIfInBounds_toArray, List.set_cons_zero, List.set_cons_succ]
  refine planned [20, 21] ?_
  iterate 2 (refine planned_take (v := ?_) rfl (by kernel_rfl) (by kernel_rfl) (by kernel_rfl) (fun _ _ _ h => h) ?_ (by assumption) ?_; rotate_left; (focus (first | (refine Or.inr ⟨by rfl, ?_⟩; with_reducible rfl) | (refine Or.inl ⟨by rfl, ?_⟩; (intro w hSw; (try dsimp only at hSw); go_simp); try with_reducible rfl))); try simp only [Act.put, List.setIfInBounds_toArray, List.set_cons_zero, List.set_cons_succ])
  refine planned_end ?_
  refine wpAnyH_done (by kernel_rfl) ?_ _
  go_wp2
  go_ret
  exact ⟨ret_int (by first | rfl | rw [if_pos (Or.inr (Or.inr hl))]), hS.1⟩
 ·have hd : decide (n < 0) = false := by simp [hn0]
  have hd2 : decide ((z : Int) < n) = false := by simp [hn]
  have hd3 : decide ((bs.length : Int) < z) = false := by simp [hl]
  refine wp_region_heldL (S := (fun w' => Below w.heap.size w w' ∧ w'.cell? ⟨pn, 0, none⟩ = some (.int .i64 n) ∧ w'.cell? ⟨pd, 0, none⟩ = some (.pointer (some ⟨b, 0, none⟩)) ∧ w'.cell? ⟨pf, 0, none⟩ = some (.int .i64 (fn : Int)) ∧ w'.cell? ⟨b, fn, none⟩ = some (.string ⟨bs.toArray⟩))) (by kernel_rfl) ?_
  have hS := HB.out _ (Below.refl w.heap.size w).drew
  refine planned [0, 1, 2, 3, 4, 5] ?_
  iterate 6 (refine planned_take (v := ?_) rfl (by kernel_rfl) (by kernel_rfl) (by kernel_rfl) (fun _ _ _ h => h) ?_ (by assumption) ?_; rotate_left; (focus (first | (refine Or.inr ⟨by rfl, ?_⟩; with_reducible rfl) | (refine Or.inl ⟨by rfl, ?_⟩; (intro w hSw; (try dsimp only at hSw); go_simp); try with_reducible rfl))); try simp only [Act.put, List.setIfInBounds_toArray, List.set_cons_zero, List.set_cons_succ])
  refine planned_end ?_
  refine wpAnyH_oneL (i := 6) rfl (by kernel_rfl) ?_
  intro K hK
  rw [if_pos (by rfl)]
  go_simp
  refine (size_any b _ d rs r fn (H.out.below hS.1) hok).mono ?_
  rw [HZ.out]
  rintro e w6 ⟨rfl, hb⟩
  have hS := HB.out _ (bthen hS.1 hb)
  clear hb
  refine hK _ _ hS ?_
  clear hK K
  try simp only [Act.put, List.setIfInBounds_toArray, List.set_cons_zero, List.set_cons_succ]
  refine planned [7, 8, 9, 10, 11, 13, 14, 15, 16, 17, 18, 19] ?_
  iterate 12 (refine planned_take (v := ?_) rfl (by kernel_rfl) (by kernel_rfl) (by kernel_rfl) (fun _ _ _ h => h) ?_ (by assumption) ?_; rotate_left; (focus (first | (refine Or.inr ⟨by rfl, ?_⟩; with_reducible rfl) | (refine Or.inl ⟨by rfl, ?_⟩; (intro w hSw; (try dsimp only at hSw); go_simp); try with_reducible rfl))); try simp only [Act.put, List.setIfInBounds_toArray, List.set_cons_zero, List.set_cons_succ])
  refine planned_end ?_
  refine wpAnyH_oneL (i := 12) rfl (by kernel_rfl) ?_
  intro K hK
  rw [if_pos (by rfl)]
  go_simp
  refine (size_any b _ d rs r fn (H.out.below hS.1) hok).mono ?_
  rw [HZ.out]
  rintro e w12 ⟨rfl, hb⟩
  have hS := HB.out _ (bthen hS.1 hb)
  clear hb
  refine hK _ _ hS ?_
  clear hK K
  try simp only [Act.put, List.setIfInBounds_toArray, List.set_cons_zero, List.set_cons_succ]
  refine planned [20, 21] ?_
  iterate 2 (refine planned_take (v := ?_) rfl (by kernel_rfl) (by kernel_rfl) (by kernel_rfl) (fun _ _ _ h => h) ?_ (by assumption) ?_; rotate_left; (focus (first | (refine Or.inr ⟨by rfl, ?_⟩; with_reducible rfl) | (refine Or.inl ⟨by rfl, ?_⟩; (intro w hSw; (try dsimp only at hSw); go_simp); try with_reducible rfl))); try simp only [Act.put, List.setIfInBounds_toArray, List.set_cons_zero, List.set_cons_succ])
  refine planned_end ?_
  refine wpAnyH_done (by kernel_rfl) ?_ _
  go_wp2
  go_ret
  exact ⟨ret_int (by first | rfl | rw [if_neg (by omega)]), hS.1⟩

set_option maxHeartbeats 1000000 in
theorem cut_anyN (b : Nat) (w : World) (d : DS) (m : Nat) (rb : Option Nat) (f n : Int) (h : DiskAt w b d m rb) :
  Calls Tryz.prog 98 #[.pointer (some ⟨b, 0, none⟩), .int .i64 f, .int .i64 n] w fun e w' => e = .returned (.int .i64 (d.cut f n).2) ∧
   ∃ rb', DiskAt w' b (d.cut f n).1 m rb' ∧ Newer w rb rb' ∧ Touch (own2 b rb) w w' ∧ ((d.cut f n).1.dead = true → d.dead = false → rb' = none) := by
 have hok' := h.1.cut f n
 obtain ⟨hok, rs, r, h, hrm, rfl⟩ := h
 obtain ⟨c0, c1, c2, c3, c4, c5, cf, hlt⟩ := h.cells
 have H := Lib.hid h
 clear h c0 c1 c2 c3 c4
 cases hd : d.dead
 ·rw [hd] at c5
  have HD9 := Lib.hid hd
  by_cases hf : f = 0 ∨ f = 1
  ·obtain ⟨q, rfl⟩ := DS.fi_of hf
   have hq : 0 ≤ DS.fi q ∧ DS.fi q < 2 := by cases q <;> decide
   obtain ⟨hq0, hq1⟩ := hq
   clear hf
   by_cases hc : n < 0 ∨ n > d.size q ∨ DS.of q d.u ≠ []
   ·have HX : Hid (d.cut (DS.fi q) n = (d, 92)) := by unfold DS.cut; rw [if_neg (by simp [hd]), DS.fileNo_of]; simp only []; rw [if_pos hc]; exact rfl
    have HC := Lib.hid hc
    clear hd hc
    go_enter Tryz.func98, Tryz.ntmps98
    go_wp2_with fail
    obtain ⟨w3, hw3, hb3, n0, n1, n2⟩ := cells_box3 (w := w) (x := .pointer (some ⟨b, 0, none⟩)) (y := .int .i64 (DS.fi q)) (z := .int .i64 n) (t := 23) (u := 3) (v := 3)
    rw [← hw3]
    clear hw3
    obtain ⟨d0, e0, l0⟩ := cells1 n0
    obtain ⟨d1, e1, l1⟩ := cells1 n1
    obtain ⟨d2, e2, l2⟩ := cells1 n2
    have c5' := cell_later hb3 c5
    clear c5 cf
    have H3 := Lib.hid (H.out.below hb3)
    have HB3 := Lib.hid hb3
    clear hb3
    go_in
    go_wp2_with (first | (go_at_call 149; go_must (refine (cut1_any b _ _ _ w3 d rs r q n H3.out hok d2 d0 d1).mono ?_; rw [if_pos HC.out]; rintro e w4 ⟨rfl, hb4⟩; have HB4 := Lib.hid hb4; clear hb4)) | go_in)
    go_ret
    have hb := bthen HB3.out HB4.out
    exact ⟨ret_int (by rw [HX.out]), rs.ownBlock, by rw [HX.out]; exact ⟨hok, rs, r, H.out.below hb, by omega, rfl⟩, Newer.refl _ _, Touch.of_below hb, fun h1 h2 => by first | (cases h2; done) | (rw [HX.out] at h1; have h3 : d.dead = true := h1; rw [HD9.out] at h3; cases h3)⟩
   ·have hkp := hok.keep
    have hul := hok.u_len
    have hbl := hok.base_len' q
    have hof : DS.of q d.u = [] := by
     by_cases h : DS.of q d.u = []
     ·exact h
     ·exact absurd (Or.inr (Or.inr h)) hc
    have hn0 : 0 ≤ n := by omega
    have hn1 : n ≤ (d.base q).length := by
     have : d.size q = (d.base q).length := by rw [DS.size, DS.file, hof, List.append_nil]
     omega
    have HC := Lib.hid hc
    have HD := Lib.hid hd
    cases hg : d.goes
    all_goals have HG := Lib.hid hg
    all_goals clear hd hc hg hof
    all_goals go_enter Tryz.func98, Tryz.ntmps98
    all_goals go_wp2_with fail
    all_goals
     obtain ⟨w3, hw3, hb3, n0, n1, n2⟩ := cells_box3 (w := w) (x := .pointer (some ⟨b, 0, none⟩)) (y := .int .i64 (DS.fi q)) (z := .int .i64 n) (t := 23) (u := 3) (v := 3)
     rw [← hw3]
     clear hw3
     obtain ⟨d0, e0, l0⟩ := cells1 n0
     obtain ⟨d1, e1, l1⟩ := cells1 n1
     obtain ⟨d2, e2, l2⟩ := cells1 n2
     have c5' := cell_later hb3 c5
     clear c5 cf
     have H3 := Lib.hid (H.out.below hb3)
     have HB3 := Lib.hid hb3
     clear hb3
     have N0 := Lib.hid n0
     have N1 := Lib.hid n1
     have N2 := Lib.hid n2
     clear n0 n1 n2
     go_in
     go_wp2_with (first
      | (go_at_call 149; go_must (refine (cut1_any b _ _ _ w3 d rs r q n H3.out hok d2 d0 d1).mono ?_; rw [if_neg HC.out]; rintro e w4 ⟨rfl, hb4⟩; have d0' := cell_later hb4 d0; have H4 := Lib.hid (H3.out.below hb4); have HB4 := Lib.hid hb4; have hs4 := hb4.size; clear hb4))
      | (go_at_call 150; go_must (refine (goes_any b _ d rs r H4.out hok).mono ?_; rw [HG.out]; rintro e w5 ⟨rfl, hr5, ht5⟩; have HR5 := Lib.hid hr5; have HT5 := Lib.hid ht5; obtain ⟨d0', e0', l0'⟩ := cells1 ((ht5.block _ (by omega) (by omega)).trans (stays N0.out HB4.out)); obtain ⟨d1', e1', l1'⟩ := cells1 ((ht5.block _ (by omega) (by omega)).trans (stays N1.out HB4.out)); obtain ⟨d2', e2', l2'⟩ := cells1 ((ht5.block _ (by omega) (by omega)).trans (stays N2.out HB4.out)); obtain ⟨c0', c1', c2', c3', c4', c5'', cf', hlt'⟩ := hr5.cells; clear hr5 ht5))
      | go_in)
    ·have HX : Hid (d.cut (DS.fi q) n = (d.tick.short q n.toNat, 0)) := by unfold DS.cut; rw [if_neg (by simp [HD.out]), DS.fileNo_of]; simp only []; rw [if_neg HC.out, if_neg (by simp [HG.out])]; exact rfl
     clear c2' c3' c4' c5''
     cases q
     ·have hn1' : n ≤ (d.tick.a.length : Int) := hn1
      simp only [DS.fi, Bool.false_eq_true, if_false] at d1'
      go_region
      go_wp2
      go_ret
      have ht := (((Touch.trans (Touch.of_below (bthen HB3.out HB4.out)) HT5.out (fun k _ h => .inl h)).setCell (S := own2 b rs.ownBlock) (a := ⟨b, 0, none⟩) (.string ((⟨d.tick.a.toArray⟩ : ByteArray).extract 0 n.toNat)) (fun _ => .inl rfl)))
      refine ⟨ret_int (by rw [HX.out]), rs.ownBlock, ?_, Newer.refl _ _, ht.drew, fun h1 h2 => by first | (cases h2; done) | (rw [HX.out] at h1; have h3 : d.dead = true := h1; rw [HD9.out] at h3; cases h3)⟩
      rw [HX.out] at hok' ⊢
      refine ⟨hok', rs, r, DiskRows.drew ⟨?_, ?_, HR5.out.u⟩, hrm, rfl⟩
      ·rw [heap_set _ HR5.out.blk, bytes_extract]; simp [diskBlock, DS.short]
      ·exact own_touch HR5.out.own ((Touch.refl (· = b) w5).setCell _ (fun _ => rfl)) (fun k hk => fun e => HR5.out.rows_block (by rw [hk, e]))
     ·have hn1' : n ≤ (d.tick.b.length : Int) := hn1
      simp only [DS.fi, if_true] at d1'
      go_region
      go_wp2
      go_ret
      have ht := (((Touch.trans (Touch.of_below (bthen HB3.out HB4.out)) HT5.out (fun k _ h => .inl h)).setCell (S := own2 b rs.ownBlock) (a := ⟨b, 1, none⟩) (.string ((⟨d.tick.b.toArray⟩ : ByteArray).extract 0 n.toNat)) (fun _ => .inl rfl)))
      refine ⟨ret_int (by rw [HX.out]), rs.ownBlock, ?_, Newer.refl _ _, ht.drew, fun h1 h2 => by first | (cases h2; done) | (rw [HX.out] at h1; have h3 : d.dead = true := h1; rw [HD9.out] at h3; cases h3)⟩
      rw [HX.out] at hok' ⊢
      refine ⟨hok', rs, r, DiskRows.drew ⟨?_, ?_, HR5.out.u⟩, hrm, rfl⟩
      ·rw [heap_set _ HR5.out.blk, bytes_extract]; simp [diskBlock, DS.short]
      ·exact own_touch HR5.out.own ((Touch.refl (· = b) w5).setCell _ (fun _ => rfl)) (fun k hk => fun e => HR5.out.rows_block (by rw [hk, e]))
    ·have HX : Hid (d.cut (DS.fi q) n = (d.tick.die d.keep, 2)) := by unfold DS.cut; rw [if_neg (by simp [HD.out]), DS.fileNo_of]; simp only []; rw [if_neg HC.out, if_pos HG.out]; exact rfl
     have x4' : w5.cell? ⟨b, 4, none⟩ = some (.int .i64 d.keep) := c4'
     clear c0' c1' c2' c3' c4' c5''
     go_region_held3 (fun w' => w'.cell? ⟨w.heap.size, 0, none⟩ = some (.pointer (some ⟨b, 0, none⟩)) ∧ w'.cell? ⟨b, 4, none⟩ = some (.int .i64 d.keep))
      (first | exact ⟨d0', x4'⟩ | exact ⟨by assumption, by assumption⟩)
      (first | (go_at_call 70; refine (dies_any b _ _ _ _ d.keep HR5.out.drew hok.tick (by omega) (by omega)).mono ?_; rintro e w8 ⟨rfl, hr8, ht8⟩; have y0 := (World.cell?_of_block (w := w5) (a := ⟨w.heap.size, 0, none⟩) (ht8.block w.heap.size (World.block_lt_of_cell? w5 _ d0') (by omega))).trans d0'; obtain ⟨_, _, _, _, y4, _, _, _⟩ := hr8.cells; have y4' : w8.cell? ⟨b, 4, none⟩ = some (.int .i64 d.keep) := y4; clear y4; have HR8 := Lib.hid hr8; have HT8 := Lib.hid ht8; clear hr8 ht8))
     go_wp2
     go_ret
     refine ⟨ret_int (by rw [HX.out]), none, ?_, Newer.none _ _, ?_, fun _ _ => rfl⟩
     ·rw [HX.out] at hok' ⊢
      exact ⟨hok', _, [], HR8.out, Nat.zero_le _, rfl⟩
     ·exact Touch.trans (Touch.trans (Touch.of_below (bthen HB3.out HB4.out)) HT5.out (fun k _ h => .inl h)).drew HT8.out (fun k _ h => .inl h)
  ·have hf' : f < 0 ∨ 2 ≤ f := by omega
   have HX : Hid (d.cut f n = (d, 90)) := by unfold DS.cut; rw [if_neg (by simp [hd]), DS.fileNo_none hf]; exact rfl
   clear hf hd
   rcases hf' with hf | hf
   all_goals go_enter Tryz.func98, Tryz.ntmps98
   all_goals go_wp2_with fail
   all_goals
    obtain ⟨w3, hw3, hb3, n0, n1, n2⟩ := cells_box3 (w := w) (x := .pointer (some ⟨b, 0, none⟩)) (y := .int .i64 f) (z := .int .i64 n) (t := 23) (u := 3) (v := 3)
    rw [← hw3]
    clear hw3
    obtain ⟨d0, e0, l0⟩ := cells1 n0
    obtain ⟨d1, e1, l1⟩ := cells1 n1
    obtain ⟨d2, e2, l2⟩ := cells1 n2
    have c5' := cell_later hb3 c5
    clear c5 cf
    have H3 := Lib.hid (H.out.below hb3)
    have HB3 := Lib.hid hb3
    clear hb3
    go_in
    go_wp2_with go_in
    go_ret
    have hb := HB3.out
    exact ⟨ret_int (by rw [HX.out]), rs.ownBlock, by rw [HX.out]; exact ⟨hok, rs, r, H.out.below hb, by omega, rfl⟩, Newer.refl _ _, Touch.of_below hb, fun h1 h2 => by first | (cases h2; done) | (rw [HX.out] at h1; have h3 : d.dead = true := h1; rw [HD9.out] at h3; cases h3)⟩
 ·rw [hd] at c5
  have HD9 := Lib.hid hd
  have HX : Hid (d.cut f n = (d, 2)) := by unfold DS.cut; rw [if_pos hd]; exact rfl
  clear hd
  go_enter Tryz.func98, Tryz.ntmps98
  go_wp2_with fail
  obtain ⟨w3, hw3, hb3, n0, n1, n2⟩ := cells_box3 (w := w) (x := .pointer (some ⟨b, 0, none⟩)) (y := .int .i64 f) (z := .int .i64 n) (t := 23) (u := 3) (v := 3)
  rw [← hw3]
  clear hw3
  obtain ⟨d0, e0, l0⟩ := cells1 n0
  obtain ⟨d1, e1, l1⟩ := cells1 n1
  obtain ⟨d2, e2, l2⟩ := cells1 n2
  have c5' := cell_later hb3 c5
  clear c5 cf
  have H3 := Lib.hid (H.out.below hb3)
  have HB3 := Lib.hid hb3
  clear hb3
  go_in
  go_wp2_with go_in
  go_ret
  have hb := HB3.out
  exact ⟨ret_int (by rw [HX.out]), rs.ownBlock, by rw [HX.out]; exact ⟨hok, rs, r, H.out.below hb, by omega, rfl⟩, Newer.refl _ _, Touch.of_below hb, fun h1 h2 => by first | (cases h2; done) | (rw [HX.out] at h1; have h3 : d.dead = true := h1; rw [HD9.out] at h3; cases h3)⟩
end Go.Proofs.YtpjpknndfhablaaGreat
namespace Go.Proofs.YtpjpknndfhablaaGreat
open Go.RowKit

def strs (l : List (List UInt8)) : List Value := l.map fun s => .string ⟨s.toArray⟩
theorem Tryz.stringInfo : (Tryz.prog.info? 9).map (fun i => (i.zero, i.size, i.bytes)) = some (some (.string ⟨#[]⟩), 1, 16) := by kernel_rfl

set_option maxHeartbeats 1000000 in
theorem cloneS_any (w : World) (g n cap : Nat) (xs : List Value) (hl : xs.length = n * 1) (hcells : ∀ j u, xs[j]? = some u → w.cell? ⟨g, j, none⟩ = some u) (h1 : ∀ u ∈ xs, u.oneCell' = true) (hn : n * 16 ≤ 140737488355328) :
  Calls Tryz.prog 57 #[.slice (some ⟨g, 0, none⟩) n cap] w fun e w' => ∃ v', e = .returned v' ∧ w'.ownsRow w.heap.size 9 1 v' n xs ∧ Below w.heap.size w w' := by
 have HN := Lib.hid hn
 have hmk := World.ownsRow_made (base := w.heap.size) (e := 9) (size := 1) w #[] 0 (Nat.le_refl _) (by decide) rfl
 have HM := Lib.hid hmk
 have HS := Lib.hid hcells
 have HL := Lib.hid hl
 have H1 := Lib.hid h1
 clear hmk hcells hl h1 hn
 have hnil := @Lib.run_eql_slice_nil
 go_enter Tryz.func57, Tryz.ntmps57
 go_wp2_with (first
  | (at_builtin; go_must (refine wpList_append_own2 _ rfl (.tmp 5) (.tmp 6) 22 rfl w.heap.size 9 1 16 _ Tryz.stringInfo Tryz.underlying22 rfl (by decide) _ 0 [] rfl HM.out ⟨g, 0, none⟩ n cap xs rfl HL.out (fun j u hj => by
    have hc := HS.out j u hj
    rw [addr_add, Nat.zero_add]
    exact cell_later (balloc w _) hc) H1.out (by have := HN.out; unfold maxLen; omega) (by have := HN.out; omega) (by simp) ?_; intro v' w' ho hgr hb; have HO := Lib.hid ho; have HGR := Lib.hid hgr; clear ho hgr hb)))
 go_ret
 refine ⟨v', rfl, by simpa using HO.out, ?_⟩
 exact (Touch.trans (Touch.of_below (S := fun _ => False) (balloc w _)) (touch_of_grown HGR.out) (fun k hk h => by have : w.heap.size = k := Option.some.inj h; omega)).below (Nat.le_refl _) (fun _ _ h => h)

set_option maxHeartbeats 1000000 in
theorem cloneL_any (w : World) (g n cap : Nat) (xs : List Value) (hl : xs.length = n * 2) (hcells : ∀ j u, xs[j]? = some u → w.cell? ⟨g, j, none⟩ = some u) (h1 : ∀ u ∈ xs, u.oneCell' = true) (hn : n * 24 ≤ 140737488355328) :
  Calls Tryz.prog 45 #[.slice (some ⟨g, 0, none⟩) n cap] w fun e w' => ∃ v', e = .returned v' ∧ w'.ownsRow w.heap.size 106 2 v' n xs ∧ Below w.heap.size w w' := by
 have HN := Lib.hid hn
 have hmk := World.ownsRow_made (base := w.heap.size) (e := 106) (size := 2) w #[] 0 (Nat.le_refl _) (by decide) rfl
 have HM := Lib.hid hmk
 have HS := Lib.hid hcells
 have HL := Lib.hid hl
 have H1 := Lib.hid h1
 clear hmk hcells hl h1 hn
 have hnil := @Lib.run_eql_slice_nil
 go_enter Tryz.func45, Tryz.ntmps45
 go_wp2_with (first
  | (at_builtin; go_must (refine wpList_append_own2 _ rfl (.tmp 5) (.tmp 6) 87 rfl w.heap.size 106 2 24 _ Tryz.laidInfo Tryz.underlying87 rfl (by decide) _ 0 [] rfl HM.out ⟨g, 0, none⟩ n cap xs rfl HL.out (fun j u hj => by
    have hc := HS.out j u hj
    rw [addr_add, Nat.zero_add]
    exact cell_later (balloc w _) hc) H1.out (by have := HN.out; unfold maxLen; omega) (by have := HN.out; omega) (by simp) ?_; intro v' w' ho hgr hb; have HO := Lib.hid ho; have HGR := Lib.hid hgr; clear ho hgr hb)))
 go_ret
 refine ⟨v', rfl, by simpa using HO.out, ?_⟩
 exact (Touch.trans (Touch.of_below (S := fun _ => False) (balloc w _)) (touch_of_grown HGR.out) (fun k hk h => by have : w.heap.size = k := Option.some.inj h; omega)).below (Nat.le_refl _) (fun _ _ h => h)

set_option maxHeartbeats 1000000 in
theorem cloneL_nil (w : World) : Calls Tryz.prog 45 #[.slice none 0 0] w fun e w' => e = .returned (.slice none 0 0) ∧ w = w' := by
 have hnil := @Lib.run_eql_slice_nil
 go_enter Tryz.func45, Tryz.ntmps45
 go_wp2
 go_ret
 exact ⟨rfl, rfl⟩

set_option maxHeartbeats 1000000 in
theorem clip_any (w : World) (g n cap : Nat) (hn : n ≤ cap) (_hc : cap ≤ 9223372036854775807) :
  Calls Tryz.prog 56 #[.slice (some ⟨g, 0, none⟩) n cap] w fun e w' => e = .returned (.slice (some ⟨g, 0, none⟩) n n) ∧ w = w' := by
 go_enter Tryz.func56, Tryz.ntmps56
 go_wp2
 go_ret
 exact ⟨rfl, rfl⟩

/-- Block g begins with these two texts. -/
def Two (w : World) (g : Nat) (s t : List UInt8) : Prop := ∃ cur : Array Value, w.heap[g]? = some (.cells cur 9 (0, 0)) ∧ cur[0]? = some (.string ⟨s.toArray⟩) ∧ cur[1]? = some (.string ⟨t.toArray⟩)

set_option maxHeartbeats 1000000 in
theorem files_any (b : Nat) (w : World) (d : DS) (m : Nat) (rb : Option Nat) (h : DiskAt w b d m rb) :
  Calls Tryz.prog 17 #[.pointer (some ⟨b, 0, none⟩)] w fun e w' => ∃ g, e = .returned (.slice (some ⟨g, 0, none⟩) 2 2) ∧ w.heap.size ≤ g ∧ Two w' g (d.file false) (d.file true) ∧ Below w.heap.size w w' := by
 obtain ⟨hok, rs, r, h, hm, rfl⟩ := h
 have H := Lib.hid h
 clear h
 go_enter Tryz.func17, Tryz.ntmps17
 go_wp2_with fail
 refine (all_any b w d rs r H.out hok).mono ?_
 rintro e w1 ⟨rfl, hb1⟩
 have n1 := heap_new w1 (.cells #[.string ⟨(d.file false).toArray⟩, .string ⟨(d.file true).toArray⟩] 86)
 have HB1 := Lib.hid hb1
 have N1 := Lib.hid n1
 clear hb1 n1
 go_wp2_with fail
 obtain ⟨x0, x1, _, _⟩ := cells2 N1.out
 refine (cloneS_any _ w1.heap.size 2 2 [.string ⟨(d.file false).toArray⟩, .string ⟨(d.file true).toArray⟩] rfl (fun j u hj => ?_) (by intro u hu; simp at hu; rcases hu with rfl | rfl <;> rfl) (by decide)).mono ?_
 ·match j, hj with
  | 0, hj => simp at hj; subst hj; exact x0
  | 1, hj => simp at hj; subst hj; exact x1
 rintro e w2 ⟨v', rfl, ho, hb2⟩
 clear x0 x1
 have HO := Lib.hid ho
 have HB2 := Lib.hid hb2
 obtain ⟨g, cap, cur, rfl, hgs, hgg, hnc, hcm, hcs, ht⟩ := ho.2.resolve_left (by simp)
 have hcm' : cap ≤ 9223372036854775807 := by unfold maxLen at hcm; omega
 have HX : Hid (Two w2 g (d.file false) (d.file true)) := ⟨cur, hgg, by
  have := congrArg (fun l => l[0]?) ht; simpa using this, by
  have := congrArg (fun l => l[1]?) ht; simpa using this⟩
 have HG := Lib.hid hgs
 clear ho hb2 hgg ht hcs hcm hgs
 go_wp2_with fail
 refine (clip_any w2 g 2 cap hnc hcm').mono ?_
 rintro e w3 ⟨rfl, rfl⟩
 go_wp2
 go_ret
 have hb := bthen (bthen HB1.out (balloc w1 _)) HB2.out
 exact ⟨g, rfl, Nat.le_trans (Nat.le_trans HB1.out.size (by simp)) HG.out, HX.out, hb⟩

end Go.Proofs.YtpjpknndfhablaaGreat
namespace Go.Proofs.YtpjpknndfhablaaGreat
open Go.RowKit

theorem rowCells_one (r : List (Bool × List UInt8)) : ∀ u ∈ rowCells r, u.oneCell' = true := by
 induction r with
 | nil => intro u hu; cases hu
 | cons x r ih =>
  obtain ⟨f, s⟩ := x
  intro u hu
  simp only [rowCells, List.mem_cons] at hu
  rcases hu with rfl | rfl | hu
  ·rfl
  ·rfl
  ·exact ih u hu

set_option maxHeartbeats 1000000 in
theorem clone_any (b : Nat) (w : World) (d : DS) (m : Nat) (rb : Option Nat) (h : DiskAt w b d m rb) (hm5 : m < 5000000000000) :
  Calls Tryz.prog 11 #[.pointer (some ⟨b, 0, none⟩)] w fun e w' => ∃ c rb', e = .returned (.pointer (some ⟨c, 0, none⟩)) ∧ w.heap.size ≤ c ∧ DiskAt w' c d m rb' ∧ (∀ k, rb' = some k → w.heap.size ≤ k) ∧ Below w.heap.size w w' := by
 obtain ⟨hok, rs, r, h, hm, rfl⟩ := h
 obtain ⟨c0, c1, c2, c3, c4, c5, cf, hlt⟩ := h.cells
 have H := Lib.hid h
 rcases h.own.2 with ⟨rfl, h0⟩ | ⟨g, cap, cur, rfl, _, hgg, hnc, hcm, hcs, ht⟩
 ·clear h
  go_enter Tryz.func11, Tryz.ntmps11
  go_wp2_with (first | (go_at_call 45; go_must (refine (cloneL_nil _).mono ?_; rintro e w' ⟨rfl, rfl⟩)))
  go_ret
  refine ⟨_, none, rfl, Nat.le_refl _, ⟨hok, .slice none 0 0, r, ⟨heap_new w _, ?_, H.out.u⟩, hm, rfl⟩, (fun k hk => by cases hk), balloc w _⟩
  have : r = [] := List.eq_nil_of_length_eq_zero h0
  subst this
  exact World.ownsRow_nil _ _ _ _
 ·have hn0 := heap_new w (diskBlock d (.slice (some ⟨g, 0, none⟩) r.length cap))
  have N0 := Lib.hid hn0
  have hcells : ∀ j u, (rowCells r)[j]? = some u → (w.alloc (diskBlock d (.slice (some ⟨g, 0, none⟩) r.length cap))).cell? ⟨g, j, none⟩ = some u := fun j u hj => by
   have h1 := h.own.cells (g := g) rfl j u hj
   rw [addr_add, Nat.zero_add] at h1
   exact cell_later (balloc w _) h1
  have HC := Lib.hid hcells
  clear hn0 hcells h hgg hnc hcm hcs ht
  go_enter Tryz.func11, Tryz.ntmps11
  go_wp2_with fail
  refine (cloneL_any _ g r.length cap (rowCells r) (rowCells_length r) HC.out (rowCells_one r) (by omega)).mono ?_
  rintro e w2 ⟨v', rfl, ho, hb2⟩
  have hn2 := stays N0.out hb2
  have cf2 := free_of hn2
  have l2 := heap_lt hn2
  have x2 := cell_of hn2 (i := 2) rfl
  have N2 := Lib.hid hn2
  have HO := Lib.hid ho
  have HB := Lib.hid hb2
  have hs2 := hb2.size
  clear hn2 hb2
  have fin : ∀ v : Value, w2.ownsRow (w.alloc (diskBlock d (.slice (some ⟨g, 0, none⟩) r.length cap))).heap.size 106 2 v r.length (rowCells r) → 
    DiskAt (w2.setCell ⟨w.heap.size, 2, none⟩ v) w.heap.size d m v.ownBlock ∧ (∀ k, v.ownBlock = some k → w.heap.size ≤ k) ∧ Below w.heap.size w (w2.setCell ⟨w.heap.size, 2, none⟩ v) := fun v hv => by
   have hvb : ∀ k, v.ownBlock = some k → w.heap.size + 1 ≤ k := fun k hk => by have := (hv.lt k hk).1; simpa using this
   refine ⟨⟨hok, v, r, ⟨?_, ?_, H.out.u⟩, hm, rfl⟩, fun k hk => by have := hvb k hk; omega, ?_⟩
   ·rw [heap_set _ N2.out]; simp [diskBlock]
   ·have := own_touch hv ((Touch.refl (· = w.heap.size) w2).setCell (a := ⟨w.heap.size, 2, none⟩) v (fun _ => rfl)) (fun k hk => by have := hvb k hk; omega)
    refine ⟨this.1, ?_⟩
    rcases this.2 with h | ⟨g', c', cu', e1, _, e3⟩
    ·exact .inl h
    ·exact .inr ⟨g', c', cu', e1, Nat.zero_le _, e3⟩
   ·exact (bthen (balloc w _) HB.out).setCell (Nat.le_refl _) v
  have HF := Lib.hid fin
  clear fin
  rcases ho.2 with ⟨rfl, h0⟩ | ⟨g', cap', cur', rfl, _⟩
  all_goals clear ho
  all_goals go_wp2
  all_goals go_ret
  all_goals obtain ⟨f1, f2, f3⟩ := HF.out _ HO.out
  all_goals exact ⟨_, _, rfl, Nat.le_refl _, f1, f2, f3⟩

/-- What New makes of files; none: refused, with this number. -/
def DS.made (l : List (List UInt8)) : Option DS × Int :=
 match l with
 | [s, t] => if s.length ≤ 1048576 ∧ t.length ≤ 1048576 then (some { a := s, b := t }, 0) else (none, 91)
 | _ => (none, 90)

/-- A slice of texts that is read: whose it is is not said. -/
structure Texts (w : World) (ao : Option Addr) (l : List (List UInt8)) : Prop where
 len : l.length ≤ 9223372036854775807
 cell : ∀ i s, l[i]? = some s → ∃ b off, ao = some ⟨b, off, none⟩ ∧ w.cell? ⟨b, off + i, none⟩ = some (.string ⟨s.toArray⟩)
theorem Texts.below {w w' : World} {ao : Option Addr} {l : List (List UInt8)} (h : Texts w ao l) (hb : Below w.heap.size w w') : Texts w' ao l :=
 ⟨h.len, fun i s hi => by obtain ⟨b, off, e, hc⟩ := h.cell i s hi; exact ⟨b, off, e, cell_later hb hc⟩⟩

set_option maxHeartbeats 1000000 in
theorem new_any (w : World) (ao : Option Addr) (cap : Nat) (l : List (List UInt8)) (h : Texts w ao l) :
  Calls Tryz.prog 7 #[.slice ao l.length cap] w fun e w' => Below w.heap.size w w' ∧ 
   ((DS.made l).1 = none ∧ e = .returned (.tuple #[.pointer none, .int .i64 (DS.made l).2]) ∨
   ∃ d c, (DS.made l).1 = some d ∧ e = .returned (.tuple #[.pointer (some ⟨c, 0, none⟩), .int .i64 0]) ∧ w.heap.size ≤ c ∧ DiskAt w' c d 0 none) := by
 have hlen := h.len
 by_cases h2 : l.length = 2
 ·obtain ⟨s, t, rfl⟩ : ∃ s t, l = [s, t] := by
   match l, h2 with
   | [s, t], _ => exact ⟨s, t, rfl⟩
  obtain ⟨b, off, rfl, cs⟩ := h.cell 0 s rfl
  obtain ⟨b', off', hbo, ct⟩ := h.cell 1 t rfl
  simp only [Option.some.injEq, Addr.mk.injEq, and_true] at hbo
  obtain ⟨rfl, rfl⟩ := hbo
  have hlt := World.block_lt_of_cell? _ _ cs
  have hlt' : b < w.heap.size := hlt
  clear h hlen h2 hlt
  simp only [Nat.add_zero] at cs
  by_cases hs : s.length ≤ 1048576
  ·by_cases ht : t.length ≤ 1048576
   ·have HX : Hid (DS.made [s, t] = (some { a := s, b := t }, 0)) := by simp [DS.made, hs, ht, Hid]
    have hok : DS.Ok { a := s, b := t } := ⟨by simpa [DS.size, DS.file, DS.base, DS.of] using hs, by simpa [DS.size, DS.file, DS.base, DS.of] using ht, by simp, by simp⟩
    go_enter Tryz.func7, Tryz.ntmps7
    go_wp2
    go_rounds 3
    go_ret2
    refine ⟨by go_grown, .inr ⟨{ a := s, b := t }, w.heap.size, by rw [HX.out], rfl, Nat.le_refl _, hok, .slice none 0 0, [], ⟨?_, World.ownsRow_nil _ _ _ _, rfl⟩, Nat.le_refl _, rfl⟩⟩
    first
     | exact heap_new w _
     | (rw [heap_set _ (heap_set _ (heap_new w _))]; rfl)
   ·have HX : Hid (DS.made [s, t] = (none, 91)) := by simp [DS.made, ht, Hid]
    go_enter Tryz.func7, Tryz.ntmps7
    go_wp2
    go_rounds 3
    go_ret2
    exact ⟨by go_grown, .inl ⟨congrArg Prod.fst HX.out, ret_two rfl (val_int (congrArg Prod.snd HX.out).symm)⟩⟩
  ·have HX : Hid (DS.made [s, t] = (none, 91)) := by simp [DS.made, hs, Hid]
   go_enter Tryz.func7, Tryz.ntmps7
   go_wp2
   go_rounds 3
   go_ret2
   exact ⟨by go_grown, .inl ⟨congrArg Prod.fst HX.out, ret_two rfl (val_int (congrArg Prod.snd HX.out).symm)⟩⟩
 ·have HX : Hid (DS.made l = (none, 90)) := by
   unfold DS.made
   match l, h2 with
   | [], _ => exact rfl
   | [_], _ => exact rfl
   | [_, _], h2 => exact absurd rfl h2
   | _ :: _ :: _ :: _, _ => exact rfl
  have hb : ((l.length : Int) == 2) = false := by simp; omega
  have hb' : ((l.length : Int) != 2) = true := by simp; omega
  clear h
  go_enter Tryz.func7, Tryz.ntmps7
  go_wp2
  go_ret2
  exact ⟨Below.refl _ _, .inl ⟨congrArg Prod.fst HX.out, ret_two rfl (val_int (congrArg Prod.snd HX.out).symm)⟩⟩

end Go.Proofs.YtpjpknndfhablaaGreat
