/- The walk of the document's After: both files, as k unsafe bytes leave them. -/
import Derived.Test.YtpjpknndfhablaaRefW
import Derived.Test.YtpjpknndfhablaaOwnF
namespace Go.Proofs.Ytpjpknndfhablaa
open Go.RowKit

theorem Try.byteInfo : (Try.prog.info? 5).map (fun i => (i.zero, i.size, i.bytes)) = some (some (.int .u8 0), 1, 1) := by kernel_rfl

/-- What the loop of After knows of both rows. -/
structure Rows2 (w wr : World) (d : DS) (k : Int) (j : Nat) (va vb : Value) : Prop where
  a : OwnF wr w.heap.size 1 va (d.base false ++ DS.of false (d.u.take j)).length (bytesOf (d.base false ++ DS.of false (d.u.take j)))
  b : OwnF wr w.heap.size 1 vb (d.base true ++ DS.of true (d.u.take j)).length (bytesOf (d.base true ++ DS.of true (d.u.take j)))
  apart : ∀ g, va.ownBlock = some g → vb.ownBlock ≠ some g
  below : Below w.heap.size w wr

theorem Rows2.len {w wr : World} {d : DS} {k : Int} {j : Nat} {va vb : Value} (_ : Rows2 w wr d k j va vb) (hok : d.Ok) (f : Bool) : (d.base f ++ DS.of f (d.u.take j)).length ≤ 1048576 := by
  have h1 := d.base_len f hok
  have h2 := DS.of_take_length_le f d.u j
  rw [List.length_append]; omega
theorem Rows2.same_b {w wr : World} {d : DS} {k : Int} {j : Nat} {va vb : Value} (h : Rows2 w wr d k j va vb) {x : UInt8} (hu : d.u[j]? = some (false, x)) {w0 w1 : World} {v' : Value} (h0 : Below wr.heap.size wr w0)
    (ho : OwnF w1 w.heap.size 1 v' ((d.base false ++ DS.of false (d.u.take j)).length + 1) (bytesOf (d.base false ++ DS.of false (d.u.take j)) ++ [.int .u8 x.toNat]))
    (hg : w0.grownBy w1 va.ownBlock) (hb : v'.ownBlock = va.ownBlock ∨ v'.ownBlock = some w0.heap.size) : Rows2 w w1 d k (j + 1) v' vb := by
  have e1 : d.base false ++ DS.of false (d.u.take (j + 1)) = (d.base false ++ DS.of false (d.u.take j)) ++ [x] := by rw [DS.of_take_succ hu]; simp
  have e2 : d.base true ++ DS.of true (d.u.take (j + 1)) = d.base true ++ DS.of true (d.u.take j) := by rw [DS.of_take_succ hu]; simp
  have ht := Touch.trans (Touch.of_below (S := fun k => va.ownBlock = some k) h0) (touch_of_grown hg) (fun _ _ h => h)
  refine ⟨?_, ?_, ?_, ?_⟩
  · rw [e1, bytesOf_append, List.length_append]; exact ho
  · rw [e2]; exact h.b.touch ht (fun k hk hk' => h.apart k hk' hk)
  · intro g e e'
    rcases hb with hb | hb
    · exact h.apart g (hb.symm.trans e) e'
    · have := (h.b.lt g e').2
      have h3 := Option.some.inj (hb.symm.trans e)
      have := h0.size; omega
  · exact (Touch.trans (Touch.of_below (S := fun k => va.ownBlock = some k) h.below) ht (fun _ _ h => h)).below (Nat.le_refl _) (fun k hk hs => by have := (h.a.lt k hs).1; omega)
theorem Rows2.same_a {w wr : World} {d : DS} {k : Int} {j : Nat} {va vb : Value} (h : Rows2 w wr d k j va vb) {x : UInt8} (hu : d.u[j]? = some (true, x)) {w0 w1 : World} {v' : Value} (h0 : Below wr.heap.size wr w0)
    (ho : OwnF w1 w.heap.size 1 v' ((d.base true ++ DS.of true (d.u.take j)).length + 1) (bytesOf (d.base true ++ DS.of true (d.u.take j)) ++ [.int .u8 x.toNat]))
    (hg : w0.grownBy w1 vb.ownBlock) (hb : v'.ownBlock = vb.ownBlock ∨ v'.ownBlock = some w0.heap.size) : Rows2 w w1 d k (j + 1) va v' := by
  have e1 : d.base true ++ DS.of true (d.u.take (j + 1)) = (d.base true ++ DS.of true (d.u.take j)) ++ [x] := by rw [DS.of_take_succ hu]; simp
  have e2 : d.base false ++ DS.of false (d.u.take (j + 1)) = d.base false ++ DS.of false (d.u.take j) := by rw [DS.of_take_succ hu]; simp
  have ht := Touch.trans (Touch.of_below (S := fun k => vb.ownBlock = some k) h0) (touch_of_grown hg) (fun _ _ h => h)
  refine ⟨?_, ?_, ?_, ?_⟩
  · rw [e2]; exact h.a.touch ht (fun k hk hk' => h.apart k hk hk')
  · rw [e1, bytesOf_append, List.length_append]; exact ho
  · intro g e e'
    rcases hb with hb | hb
    · exact h.apart g e (hb.symm.trans e')
    · have := (h.a.lt g e).2
      have h3 := Option.some.inj (hb.symm.trans e')
      have := h0.size; omega
  · exact (Touch.trans (Touch.of_below (S := fun k => vb.ownBlock = some k) h.below) ht (fun _ _ h => h)).below (Nat.le_refl _) (fun k hk hs => by have := (h.b.lt k hs).1; omega)
theorem take_end {α : Type} {u : List α} {k : Int} {j : Nat} (hj : j ≤ u.length) (hjk : 0 < j → (j : Int) ≤ k) (he : j = u.length ∨ k ≤ j) : u.take j = u.take k.toNat := by
  rcases he with rfl | he
  · rw [List.take_length]
    rcases Nat.eq_zero_or_pos u.length with h | h
    · have : u = [] := List.eq_nil_of_length_eq_zero h
      subst this; simp
    · rw [List.take_of_length_le (by have := hjk h; omega)]
  · rcases Nat.eq_zero_or_pos j with rfl | h
    · rw [show k.toNat = 0 by omega]
    · have := hjk h
      rw [show k.toNat = j by omega]

set_option maxHeartbeats 2000000 in
set_option maxRecDepth 100000 in
theorem rafter_any (b : Nat) (w : World) (d : DS) (us : Value) (k : Int) (h : RefU w b d us) (hok : d.Ok) (h1 : k ≤ 9223372036854775807) :
    Calls Try.prog 72 #[.pointer (some ⟨b, 0, none⟩), .int .i64 k] w fun e w' => ∃ g, e = .returned (.slice (some ⟨g, 0, none⟩) 2 2) ∧ w.heap.size ≤ g ∧ Two w' g (d.left k.toNat false) (d.left k.toNat true) ∧ Below w.heap.size w w' := by
  obtain ⟨c0, c1, c2, c3, c4, c5, cf, hlt⟩ := h.cells
  obtain ⟨ao, cap, rfl, hr, hcell⟩ := h.slice
  have HC := Lib.hid hcell
  have hul := hok.u_len
  clear hcell h c3 c4 c5 cf
  go_enter Try.func72, Try.ntmps72
  go_wp2
  have hS0 : w.drew.cell? ⟨b, 0, none⟩ = some (.string ⟨d.a.toArray⟩) ∧ w.drew.cell? ⟨b, 1, none⟩ = some (.string ⟨d.b.toArray⟩) := ⟨c0, c1⟩
  refine wp_region_heldL (S := fun w' => w'.cell? ⟨b, 0, none⟩ = some (.string ⟨d.a.toArray⟩) ∧ w'.cell? ⟨b, 1, none⟩ = some (.string ⟨d.b.toArray⟩)) (by kernel_rfl) ?_
  refine wpAnyH_takeL (i := 0) (v := ?_) rfl (by kernel_rfl) (by kernel_rfl) (by kernel_rfl) (fun _ _ _ h => h) ?_ (by assumption) ?_; rotate_left; focus (first | (refine Or.inr ⟨by rfl, ?_⟩; with_reducible rfl) | (refine Or.inl ⟨by rfl, ?_⟩; (intro w hSw; (try dsimp only at hSw); go_simp); try with_reducible rfl))
  simp only [Act.put, List.setIfInBounds_toArray, List.set_cons_zero, List.set_cons_succ]
  refine wpAnyH_takeL (i := 1) (v := ?_) rfl (by kernel_rfl) (by kernel_rfl) (by kernel_rfl) (fun _ _ _ h => h) ?_ (by assumption) ?_; rotate_left; focus (first | (refine Or.inr ⟨by rfl, ?_⟩; with_reducible rfl) | (refine Or.inl ⟨by rfl, ?_⟩; (intro w hSw; (try dsimp only at hSw); go_simp); try with_reducible rfl))
  simp only [Act.put, List.setIfInBounds_toArray, List.set_cons_zero, List.set_cons_succ]
  refine wpAnyH_takeL (i := 2) (v := ?_) rfl (by kernel_rfl) (by kernel_rfl) (by kernel_rfl) (fun _ _ _ h => h) ?_ (by assumption) ?_; rotate_left; focus (first | (refine Or.inr ⟨by rfl, ?_⟩; with_reducible rfl) | (refine Or.inl ⟨by rfl, ?_⟩; (intro w hSw; (try dsimp only at hSw); go_simp); try with_reducible rfl))
  simp only [Act.put, List.setIfInBounds_toArray, List.set_cons_zero, List.set_cons_succ]
  refine wpAnyH_takeL (i := 3) (v := ?_) rfl (by kernel_rfl) (by kernel_rfl) (by kernel_rfl) (fun _ _ _ h => h) ?_ (by assumption) ?_; rotate_left; focus (first | (refine Or.inr ⟨by rfl, ?_⟩; with_reducible rfl) | (refine Or.inl ⟨by rfl, ?_⟩; (intro w hSw; (try dsimp only at hSw); go_simp); try with_reducible rfl))
  simp only [Act.put, List.setIfInBounds_toArray, List.set_cons_zero, List.set_cons_succ]
  refine wpAnyH_takeL (i := 5) (v := ?_) rfl (by kernel_rfl) (by kernel_rfl) (by kernel_rfl) (fun _ _ _ h => h) ?_ (by assumption) ?_; rotate_left; focus (first | (refine Or.inr ⟨by rfl, ?_⟩; with_reducible rfl) | (refine Or.inl ⟨by rfl, ?_⟩; (intro w hSw; (try dsimp only at hSw); go_simp); try with_reducible rfl))
  simp only [Act.put, List.setIfInBounds_toArray, List.set_cons_zero, List.set_cons_succ]
  refine wpAnyH_takeL (i := 6) (v := ?_) rfl (by kernel_rfl) (by kernel_rfl) (by kernel_rfl) (fun _ _ _ h => h) ?_ (by assumption) ?_; rotate_left; focus (first | (refine Or.inr ⟨by rfl, ?_⟩; with_reducible rfl) | (refine Or.inl ⟨by rfl, ?_⟩; (intro w hSw; (try dsimp only at hSw); go_simp); try with_reducible rfl))
  simp only [Act.put, List.setIfInBounds_toArray, List.set_cons_zero, List.set_cons_succ]
  refine wpAnyH_takeL (i := 7) (v := ?_) rfl (by kernel_rfl) (by kernel_rfl) (by kernel_rfl) (fun _ _ _ h => h) ?_ (by assumption) ?_; rotate_left; focus (first | (refine Or.inr ⟨by rfl, ?_⟩; with_reducible rfl) | (refine Or.inl ⟨by rfl, ?_⟩; (intro w hSw; (try dsimp only at hSw); go_simp); try with_reducible rfl))
  simp only [Act.put, List.setIfInBounds_toArray, List.set_cons_zero, List.set_cons_succ]
  refine wpAnyH_takeL (i := 8) (v := ?_) rfl (by kernel_rfl) (by kernel_rfl) (by kernel_rfl) (fun _ _ _ h => h) ?_ (by assumption) ?_; rotate_left; focus (first | (refine Or.inr ⟨by rfl, ?_⟩; with_reducible rfl) | (refine Or.inl ⟨by rfl, ?_⟩; (intro w hSw; (try dsimp only at hSw); go_simp); try with_reducible rfl))
  simp only [Act.put, List.setIfInBounds_toArray, List.set_cons_zero, List.set_cons_succ]
  refine wpAnyH_all (rs := [4, 9]) (by kernel_rfl) (by simp) (fun i hi => ?_)
  have hi' : i = 4 ∨ i = 9 := by simpa using hi
  clear hi
  have BA : d.a.length ≤ 1048576 := by have := d.base_len false hok; have h : (d.base false) = d.a := rfl; rw [h] at this; omega
  have BB : d.b.length ≤ 1048576 := by have := d.base_len true hok; have h : (d.base true) = d.b := rfl; rw [h] at this; omega
  rcases hi' with rfl | rfl
  focus
    refine wpOp_stepL rfl (fun K hK => ?_)
    rw [if_pos (by rfl)]
    refine wp_convert_bytes _ 9 63 5 (.tmp 11) rfl Try.underlying9 Try.underlying63 Try.underlying5 d.a rfl (by unfold maxLen; omega) w.heap.size (Nat.le_refl _) ?_
    intro va w1 h1 hb1 hk1
    have hbw := bthen (Below.refl _ w).drew hb1
    have hS1 : w1.cell? ⟨b, 0, none⟩ = some (.string ⟨d.a.toArray⟩) ∧ w1.cell? ⟨b, 1, none⟩ = some (.string ⟨d.b.toArray⟩) := ⟨cell_later hbw c0, cell_later hbw c1⟩
    refine hK _ _ ⟨hS1, ?_⟩
    clear hK K
    simp only [Act.put, List.setIfInBounds_toArray, List.set_cons_zero, List.set_cons_succ]
    refine wpAnyH_takeL (i := 10) (v := ?_) rfl (by kernel_rfl) (by kernel_rfl) (by kernel_rfl) (fun _ _ _ h => h) ?_ (by assumption) ?_; rotate_left; focus (first | (refine Or.inr ⟨by rfl, ?_⟩; with_reducible rfl) | (refine Or.inl ⟨by rfl, ?_⟩; (intro w hSw; (try dsimp only at hSw); go_simp); try with_reducible rfl))
    simp only [Act.put, List.setIfInBounds_toArray, List.set_cons_zero, List.set_cons_succ]
    refine wpAnyH_oneL (i := 9) rfl (by kernel_rfl) ?_
    intro K hK
    rw [if_pos (by rfl)]
    refine wp_convert_bytes _ 9 63 5 (.tmp 16) rfl Try.underlying9 Try.underlying63 Try.underlying5 d.b rfl (by unfold maxLen; omega) w.heap.size hbw.size ?_
    intro vb W h2 hb2 hk2
    have hbw2 := bthen hbw hb2
    have hS2 : W.cell? ⟨b, 0, none⟩ = some (.string ⟨d.a.toArray⟩) ∧ W.cell? ⟨b, 1, none⟩ = some (.string ⟨d.b.toArray⟩) := ⟨cell_later hbw2 c0, cell_later hbw2 c1⟩
    refine hK _ _ hS2 ?_
    clear hK K
    simp only [Act.put, List.setIfInBounds_toArray, List.set_cons_zero, List.set_cons_succ]
    have h1' := h1.touch (S := fun _ => False) (.of_below hb2) (fun _ _ h => h)
    obtain ⟨ova, cva, rfl, _, _⟩ := h1.slice
    obtain ⟨ovb, cvb, rfl, _, _⟩ := h2.slice
    refine wpAnyH_takeL (i := 11) (v := ?_) rfl (by kernel_rfl) (by kernel_rfl) (by kernel_rfl) (fun _ _ _ h => h) ?_ (by assumption) ?_; rotate_left; focus (first | (refine Or.inr ⟨by rfl, ?_⟩; with_reducible rfl) | (refine Or.inl ⟨by rfl, ?_⟩; (intro w hSw; (try dsimp only at hSw); go_simp); try with_reducible rfl))
    simp only [Act.put, List.setIfInBounds_toArray, List.set_cons_zero, List.set_cons_succ]
    refine wpAnyH_done (by kernel_rfl) ?_ _
    have HR2 : Hid (Rows2 w W d k 0 (.slice ova d.a.length cva) (.slice ovb d.b.length cvb)) := ⟨by simpa [DS.base, DS.of] using h1', by simpa [DS.base, DS.of] using h2, fun g e e' => by
      have h3 := (h1.lt _ hk1).2
      have h4 := Option.some.inj (hk1.symm.trans e)
      have h5 := Option.some.inj (hk2.symm.trans e')
      omega, hbw2⟩
    clear hS1 hS2 h1 h2 h1' hb1 hb2 hk1 hk2 hbw
    have HBW := Lib.hid hbw2
    clear hbw2
  rotate_left
  focus
    refine wpOp_stepL rfl (fun K hK => ?_)
    rw [if_pos (by rfl)]
    refine wp_convert_bytes _ 9 63 5 (.tmp 16) rfl Try.underlying9 Try.underlying63 Try.underlying5 d.b rfl (by unfold maxLen; omega) w.heap.size (Nat.le_refl _) ?_
    intro vb w1 h1 hb1 hk1
    have hbw := bthen (Below.refl _ w).drew hb1
    have hS1 : w1.cell? ⟨b, 0, none⟩ = some (.string ⟨d.a.toArray⟩) ∧ w1.cell? ⟨b, 1, none⟩ = some (.string ⟨d.b.toArray⟩) := ⟨cell_later hbw c0, cell_later hbw c1⟩
    refine hK _ _ ⟨hS1, ?_⟩
    clear hK K
    refine wpAnyH_oneL (i := 4) rfl (by kernel_rfl) ?_
    intro K hK
    rw [if_pos (by rfl)]
    refine wp_convert_bytes _ 9 63 5 (.tmp 11) rfl Try.underlying9 Try.underlying63 Try.underlying5 d.a rfl (by unfold maxLen; omega) w.heap.size hbw.size ?_
    intro va W h2 hb2 hk2
    have hbw2 := bthen hbw hb2
    have hS2 : W.cell? ⟨b, 0, none⟩ = some (.string ⟨d.a.toArray⟩) ∧ W.cell? ⟨b, 1, none⟩ = some (.string ⟨d.b.toArray⟩) := ⟨cell_later hbw2 c0, cell_later hbw2 c1⟩
    refine hK _ _ hS2 ?_
    clear hK K
    simp only [Act.put, List.setIfInBounds_toArray, List.set_cons_zero, List.set_cons_succ]
    have h1' := h1.touch (S := fun _ => False) (.of_below hb2) (fun _ _ h => h)
    obtain ⟨ovb, cvb, rfl, _, _⟩ := h1.slice
    obtain ⟨ova, cva, rfl, _, _⟩ := h2.slice
    refine wpAnyH_takeL (i := 10) (v := ?_) rfl (by kernel_rfl) (by kernel_rfl) (by kernel_rfl) (fun _ _ _ h => h) ?_ (by assumption) ?_; rotate_left; focus (first | (refine Or.inr ⟨by rfl, ?_⟩; with_reducible rfl) | (refine Or.inl ⟨by rfl, ?_⟩; (intro w hSw; (try dsimp only at hSw); go_simp); try with_reducible rfl))
    simp only [Act.put, List.setIfInBounds_toArray, List.set_cons_zero, List.set_cons_succ]
    refine wpAnyH_takeL (i := 11) (v := ?_) rfl (by kernel_rfl) (by kernel_rfl) (by kernel_rfl) (fun _ _ _ h => h) ?_ (by assumption) ?_; rotate_left; focus (first | (refine Or.inr ⟨by rfl, ?_⟩; with_reducible rfl) | (refine Or.inl ⟨by rfl, ?_⟩; (intro w hSw; (try dsimp only at hSw); go_simp); try with_reducible rfl))
    simp only [Act.put, List.setIfInBounds_toArray, List.set_cons_zero, List.set_cons_succ]
    refine wpAnyH_done (by kernel_rfl) ?_ _
    have HR2 : Hid (Rows2 w W d k 0 (.slice ova d.a.length cva) (.slice ovb d.b.length cvb)) := ⟨by simpa [DS.base, DS.of] using h2, by simpa [DS.base, DS.of] using h1', fun g e e' => by
      have h3 := (h1.lt _ hk1).2
      have h4 := Option.some.inj (hk1.symm.trans e')
      have h5 := Option.some.inj (hk2.symm.trans e)
      omega, hbw2⟩
    clear hS1 hS2 h1 h2 h1' hb1 hb2 hk1 hk2 hbw
    have HBW := Lib.hid hbw2
    clear hbw2
  all_goals
    go_wp2
    go_loopw [5, 6, 7] (fun va vb i wr => ∃ j : Nat, i = .int .i64 j ∧ j ≤ d.u.length ∧ (0 < j → (j : Int) ≤ k) ∧ Rows2 w wr d k j va vb) (fun _ _ i _ => d.u.length - (intOf i).toNat)
    case atStart => exact ⟨0, rfl, by omega, by omega, HR2.out⟩
    case round =>
      obtain ⟨j, rfl, hj, hjk, hrows⟩ := hrel
      have la := hrows.len hok false
      have lb := hrows.len hok true
      have HR := Lib.hid hrows
      have hsz := hrows.below.size
      have c2' := cell_later hrows.below c2
      clear hrows
      by_cases hc : j < d.u.length ∧ (j : Int) < k
      · obtain ⟨hlt, hlk⟩ := hc
        obtain ⟨⟨f, x⟩, hs⟩ : ∃ x, d.u[j]? = some x := ⟨_, List.getElem?_eq_getElem hlt⟩
        obtain ⟨g, rfl, hg, ca, cb⟩ := HC.out j f x hs
        have HS := Lib.hid hs
        have ca' := cell_later HR.out.below ca
        have cb' := cell_later HR.out.below cb
        have hg' : g < wr.heap.size := Nat.lt_of_lt_of_le hg hsz
        clear hs ca cb
        cases f
        all_goals simp only [DS.fi, Bool.false_eq_true, if_true, if_false] at ca'
        · go_wp2_with (first | (at_builtin; go_must (refine wpList_append_ownF _ rfl (.tmp 41) (.tmp 50) 63 rfl w.heap.size 5 1 1 _ Try.byteInfo Try.underlying63 rfl (by decide) _ _ _ rfl (HR.out.a.touch (S := fun _ => False) (.of_below (balloc wr _)) (fun _ _ h => h)) ⟨wr.heap.size, 0, none⟩ 1 1 [.int .u8 x.toNat] rfl rfl (fun i u hi => by rw [addr_add, Nat.zero_add]; exact cell_of (heap_new wr _) (by simpa using hi)) (by intro u hu; simp at hu; subst hu; rfl) (by decide) (by unfold maxLen; omega) (by omega) (by simp; omega) ?_; intro v' w1 ho hgr hb; have HS' := Lib.hid (HR.out.same_b HS.out (balloc wr _) ho hgr hb); clear ho hgr hb)))
          go_roundw
          case rel => exact ⟨j + 1, by go_num, by omega, by omega, HS'.out⟩
          case measure => simp [intOf]; omega
        · go_wp2_with (first | (at_builtin; go_must (refine wpList_append_ownF _ rfl (.tmp 52) (.tmp 61) 63 rfl w.heap.size 5 1 1 _ Try.byteInfo Try.underlying63 rfl (by decide) _ _ _ rfl (HR.out.b.touch (S := fun _ => False) (.of_below (balloc wr _)) (fun _ _ h => h)) ⟨wr.heap.size, 0, none⟩ 1 1 [.int .u8 x.toNat] rfl rfl (fun i u hi => by rw [addr_add, Nat.zero_add]; exact cell_of (heap_new wr _) (by simpa using hi)) (by intro u hu; simp at hu; subst hu; rfl) (by decide) (by unfold maxLen; omega) (by omega) (by simp; omega) ?_; intro v' w1 ho hgr hb; have HS' := Lib.hid (HR.out.same_a HS.out (balloc wr _) ho hgr hb); clear ho hgr hb)))
          go_roundw
          case rel => exact ⟨j + 1, by go_num, by omega, by omega, HS'.out⟩
          case measure => simp [intOf]; omega
      · have he : j = d.u.length ∨ k ≤ j := by omega
        have HE := Lib.hid (take_end hj hjk he)
        have he' : d.u.length ≤ j ∨ k ≤ j := by omega
        clear hc he
        rcases he' with he | he
        all_goals go_wp2_with (first
            | (with_reducible refine wpList_convert_string _ rfl 63 9 5 (.tmp 63) rfl Try.underlying63 Try.underlying5 Try.underlying9 rfl HR.out.a ?_)
            | (with_reducible refine wpList_convert_string _ rfl 63 9 5 (.tmp 65) rfl Try.underlying63 Try.underlying5 Try.underlying9 rfl HR.out.b ?_))
        all_goals go_ret
        all_goals refine ⟨_, rfl, hsz, ⟨_, heap_new wr _, ?_, ?_⟩, bthen HR.out.below (balloc wr _)⟩
        all_goals rw [DS.left, ← HE.out]; rfl
end Go.Proofs.Ytpjpknndfhablaa
