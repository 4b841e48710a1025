/- Whatever texts of two files: StoreOpens answers true, and each argument reads afterwards as it read before. No condition. -/
import Derived.Test.YtpjpknndfhablaaGreatRows
import Derived.ProofKit
import Derived.SizedLaws
import Derived.SliceStrings
import Derived.Deep.Slices
import Derived.Deep.Fields
import Derived.ChangeSame
import Derived.Test.YtpjpknndfhablaaGreatK14
import Derived.Test.YtpjpknndfhablaaGreatK21
namespace Go.Proofs.YtpjpknndfhablaaGreat
open Go.RowKit
/-- A disk of the program and the document's, made since w0. -/
structure Two2 (w0 w : World) (c y : Nat) (d g : DS) (m : Nat) : Prop where
  old : Below w0.heap.size w0 w
  lo : w0.heap.size ≤ c ∧ w0.heap.size ≤ y
  out : ∃ rb ub, DiskAt w c d m rb ∧ (∀ k, rb = some k → w0.heap.size ≤ k) ∧ RefAt w y g ub
theorem Two2.below {w0 w w' : World} {c y : Nat} {d g : DS} {m : Nat} (h : Two2 w0 w c y d g m) (hb : Below w.heap.size w w') : Two2 w0 w' c y d g m := by
  obtain ⟨rb, ub, h1, h2, h3⟩ := h.out
  exact ⟨h.old.trans (hb.mono h.old.size), h.lo, rb, ub, h1.below hb, h2, h3.below hb⟩
theorem Two2.turnD {w0 w w' : World} {c y : Nat} {d g d' : DS} {m m' : Nat} (h : Two2 w0 w c y d g m) {rb ub rb' : Option Nat} (h1 : DiskAt w c d m rb) (h2 : ∀ k, rb = some k → w0.heap.size ≤ k) (h3 : RefAt w y g ub) (hd : DiskAt w' c d' m' rb') (hn : Newer w rb rb') (ht : Touch (own2 c rb) w w') : Two2 w0 w' c y d' g m' := by
  have hk := KeepsOff.of_touch h1.typed ht
  refine ⟨h.old.trans (ht.below h.old.size (fun k hk e => ?_)), h.lo, rb', ub, hd, fun k hk => ?_, h3.keepsOff hk (by decide) (by decide)⟩
  · have := h.lo.1
    rcases e with rfl | e
    · omega
    · have := h2 k e; omega
  · rcases hn k hk with e | e
    · exact h2 k e
    · exact Nat.le_trans h.old.size e
theorem Two2.turnR {w0 w w' : World} {c y : Nat} {d g g' : DS} {m : Nat} (h : Two2 w0 w c y d g m) {rb ub ub' : Option Nat} (h1 : DiskAt w c d m rb) (h2 : ∀ k, rb = some k → w0.heap.size ≤ k) (h3 : RefAt w y g ub) (hd : RefAt w' y g' ub') (ht : Touch (· = y) w w') : Two2 w0 w' c y d g' m := by
  have hk := KeepsOff.of_touch h3.typed ht
  exact ⟨h.old.trans (ht.below h.old.size (fun k hk e => by subst e; have := h.lo.2; omega)), h.lo, rb, ub', h1.keepsOff hk (by decide) (by decide), h2, hd⟩
theorem twos_texts {w : World} {g : Nat} {s t : List UInt8} (h : Two w g s t) : Texts w (some ⟨g, 0, none⟩) [s, t] := by
  obtain ⟨h0, h1, _⟩ := h.cells
  refine ⟨by simp, fun i x hi => ⟨g, 0, rfl, ?_⟩⟩
  match i, hi with
  | 0, hi => simp at hi; subst hi; exact h0
  | 1, hi => simp at hi; subst hi; exact h1
theorem lt_nil_false (s : Sto.S) : Sto.lt s [] = false := by cases s <;> rfl
theorem scan_whole {l : Sto.Pairs} {n : Nat} (h : l.length ≤ n) : Sto.scan l [] n = l := by
  unfold Sto.scan
  have h1 : (l.filter fun p => !Sto.lt p.1 []) = l := by
    rw [List.filter_eq_self]
    intro p _
    rw [lt_nil_false]
    rfl
  rw [h1, List.take_of_length_le h]
set_option maxHeartbeats 8000000 in
set_option maxRecDepth 100000 in
theorem storeOpens_any (w : World) (ao : Option Addr) (ca : Nat) (l : List (List UInt8)) (hT : Texts w ao l) :
    Calls Tryz.prog 3 #[.slice ao l.length ca] w fun e w' => e = .returned (.bool true) ∧ Below w.heap.size w w' := by
  have HT := Lib.hid hT
  clear hT
  go_enter Tryz.func3, Tryz.ntmps3
  go_wp2_with fail
  refine (new_any w ao ca l HT.out).mono ?_
  rintro e w1 ⟨hb1, ⟨hn, rfl⟩ | ⟨d, c, hd, rfl, hc, hat⟩⟩
  · have HN := Lib.hid hn
    have HB1 := Lib.hid hb1
    clear hn hb1
    go_wp2_with fail
    refine (rnew_any w1 ao ca l (HT.out.below HB1.out)).mono ?_
    rintro e w2 ⟨hb2, ⟨_, rfl⟩ | ⟨d, c, hd, _⟩⟩
    · have HB2 := Lib.hid (bthen HB1.out hb2)
      clear hb2
      go_wp2_with fail
      refine (fixed11_any w2).mono ?_
      rintro e w3 ⟨rfl, hb3⟩
      have HB3 := Lib.hid (bthen HB2.out hb3)
      clear hb3
      go_wp2
      go_ret
      exact ⟨rfl, HB3.out⟩
    · rw [HN.out] at hd; cases hd
  · have HDM := Lib.hid hd
    have HB1 := Lib.hid hb1
    have HAT := Lib.hid hat
    have HC := Lib.hid hc
    clear hd hb1 hat hc
    go_wp2_with fail
    refine (rnew_any w1 ao ca l (HT.out.below HB1.out)).mono ?_
    rintro e w2 ⟨hb2, ⟨hn, _⟩ | ⟨d', y, hd', rfl, hy, hat2⟩⟩
    · rw [HDM.out] at hn; cases hn
    obtain rfl : d = d' := by rw [HDM.out] at hd'; exact Option.some.inj hd'
    have H2 : Hid (Two2 w w2 c y d d 0) := ⟨bthen HB1.out hb2, ⟨HC.out, Nat.le_trans HB1.out.size hy⟩, none, none, HAT.out.below hb2, (fun k hk => by cases hk), hat2⟩
    clear hb2 hd' hy hat2
    obtain ⟨o, E, r, hO⟩ : ∃ o E r, SS.new d = (o, E, r) := ⟨_, _, _, rfl⟩
    have HO := Lib.hid hO
    clear hO
    go_wp2_with fail
    obtain ⟨rb, ub, h1, h2, h3⟩ := H2.out.out
    refine (clone_any c w2 d 0 rb h1 (by decide)).mono ?_
    clear h1 h2 h3
    rintro e w3 ⟨c', rb', rfl, hc', hcl, hr', b3⟩
    have HCL := Lib.hid hcl
    have B3' := Lib.hid b3
    have HNC := Lib.hid (And.intro hc' hr')
    clear hc' hcl hr' b3
    go_wp2_with fail
    have hw := new11_any c' w3 d 0 rb' HCL.out (by decide)
    rw [HO.out] at hw
    refine hw.mono ?_
    clear hw
    rintro e w4 ⟨v, rfl, hs4, hn4, rb4, _, _, ht4, _⟩
    have B24 : Hid (Below w2.heap.size w2 w4) := Lib.hid (B3'.out.trans (ht4.below B3'.out.size (fun k hk e => by
      obtain ⟨n1, n2⟩ := HNC.out
      rcases e with rfl | e
      · omega
      · have := n2 k e; omega)))
    have H4 := Lib.hid (H2.out.below B24.out)
    have hv : (o.isSome = true → ∃ x, v = .pointer (some ⟨x, 0, none⟩)) ∧ (o = none → v = .pointer none) := ⟨fun e => by
      cases o with
      | none => cases e
      | some s => obtain ⟨x, _, _, hx, _⟩ := hs4 s rfl; exact ⟨x, hx⟩, hn4⟩
    have HV := Lib.hid hv
    clear hs4 hn4 ht4 hv
    go_wp2_with fail
    obtain ⟨rb, ub, h1, h2, h3⟩ := H4.out.out
    refine (rcopy_any y w4 d ub h3).mono ?_
    clear h1 h2 h3
    rintro e w5 ⟨y', rfl, hy', hcp, b5⟩
    have HCP := Lib.hid hcp
    have B5 := Lib.hid b5
    have HNY := Lib.hid hy'
    clear hcp b5 hy'
    go_wp2_with fail
    have hw := rnew11_any y' w5 d ub HCP.out
    rw [HO.out] at hw
    refine hw.mono ?_
    clear hw
    rintro e w6 ⟨v2, rfl, hs6, hn6, ub6, _, _, ht6⟩
    have B46 : Hid (Below w4.heap.size w4 w6) := Lib.hid (B5.out.trans (ht6.below B5.out.size (fun k hk e => by have := HNY.out; subst e; omega)))
    have H6 := Lib.hid (H4.out.below B46.out)
    have hcase : (v = .pointer none ∧ v2 = .pointer none) ∨ ∃ x z : Nat, v = .pointer (some ⟨x, 0, none⟩) ∧ v2 = .pointer (some ⟨z, 0, none⟩) := by
      cases o with
      | none => exact .inl ⟨HV.out.2 rfl, hn6 rfl⟩
      | some q =>
        obtain ⟨x, hx⟩ := HV.out.1 rfl
        obtain ⟨z, _, _, rfl, _⟩ := hs6 q rfl
        exact .inr ⟨x, z, hx, rfl⟩
    clear hs6 hn6 ht6 HV
    have HCASE := Lib.hid hcase
    clear hcase
    obtain ⟨o2, E2, r2, hO2⟩ : ∃ o E r, SS.open_ d = (o, E, r) := ⟨_, _, _, rfl⟩
    have HO2 := Lib.hid hO2
    clear hO2
    go_wp2_with fail
    obtain ⟨rb7, ub7, h1, h2, h3⟩ := H6.out.out
    have HOK := Lib.hid h1.1
    have hyl := h3.lt
    have hw := open11_any c w6 d 0 rb7 h1
    rw [HO2.out] at hw
    refine hw.mono ?_
    clear hw
    rintro e w7 ⟨v7, rfl, hs7, hn7, rb8, hd8, hn8, ht7, _⟩
    have H7 := Lib.hid (H6.out.turnD h1 h2 h3 hd8 hn8 ht7)
    have H67 := Lib.hid ht7.size
    have HS7 := Lib.hid hs7
    have HN7 := Lib.hid hn7
    clear h1 h2 h3 hs7 hn7 hd8 hn8 ht7
    go_wp2_with fail
    obtain ⟨rb9, ub9, h1, h2, h3⟩ := H7.out.out
    have hw := ropen11_any y w7 d ub9 HOK.out h3
    rw [HO2.out] at hw
    refine hw.mono ?_
    clear hw
    rintro e w8 ⟨v8, rfl, hs8, hn8, ub8, hd8, _, ht8⟩
    have H8 := Lib.hid (H7.out.turnR h1 h2 h3 hd8 ht8)
    have HRES : Hid ((v7 = .pointer none ∧ v8 = .pointer none) ∨ ∃ s x lg mb z lz u, v7 = .pointer (some ⟨x, 0, none⟩) ∧ v8 = .pointer (some ⟨z, 0, none⟩) ∧ StoAt w8 x lg c mb s ∧ RstoreAt w8 z lz y u s) := Lib.hid (by
      cases o2 with
      | none => exact .inl ⟨HN7.out rfl, hn8 rfl⟩
      | some s =>
        obtain ⟨x, lg, mb, rfl, a1, a2, a3, a4⟩ := HS7.out s rfl
        obtain ⟨z, lz, u, rfl, b1, _⟩ := hs8 s rfl
        exact .inr ⟨s, x, lg, mb, z, lz, u, rfl, rfl, a1.touch ht8 (by omega) (by omega) (by omega), b1⟩)
    clear h1 h2 h3 hs8 hn8 hd8 ht8 HS7 HN7
    have hr1 : (r != r) = false := by simp
    have hr2 : (r2 != r2) = false := by simp
    rcases HCASE.out with ⟨rfl, rfl⟩ | ⟨xa, za, rfl, rfl⟩
    · rcases HRES.out with ⟨rfl, rfl⟩ | ⟨s, x, lg, mb, z, lz, u, rfl, rfl, hst, hrs⟩
      · go_wp2_with fail
        obtain ⟨rb, ub, h1, h2, h3⟩ := H8.out.out
        refine (files_any c w8 E2 0 rb h1).mono ?_
        rintro e w9 ⟨q1, rfl, _, t1, b9⟩
        have T1 := Lib.hid t1
        have H9 := Lib.hid (H8.out.below b9)
        clear t1 b9 h1 h2 h3
        go_wp2_with fail
        obtain ⟨rb, ub, h1, h2, h3⟩ := H9.out.out
        obtain ⟨hok, us, hru, _⟩ := h3
        refine (rfiles_any y w9 E2 us hru hok).mono ?_
        rintro e wa ⟨q2, rfl, _, t2, ba⟩
        have T2 := Lib.hid t2
        have T3 := Lib.hid (T1.out.below ba)
        have HA := Lib.hid (H9.out.below ba)
        clear t2 ba h1 h2 hok hru
        go_wp2_with fail
        refine (same_any wa (some ⟨q1, 0, none⟩) (some ⟨q2, 0, none⟩) 2 2 _ _ (twos_texts T3.out) (twos_texts T2.out)).mono ?_
        rw [show decide ([E2.file false, E2.file true] = [E2.file false, E2.file true]) = true from decide_eq_true rfl]
        rintro e wb ⟨rfl, bb⟩
        have HB := Lib.hid (HA.out.below bb)
        clear bb
        go_wp2_with fail
        have hS : True := trivial
        refine wp_region_heldL (S := fun _ => True) (by kernel_rfl) ?_
        refine wpAnyH_takeL (i := 0) (v := ?_) rfl (by kernel_rfl) (by kernel_rfl) (by kernel_rfl) (fun _ _ _ h => h) ?_ (by assumption) ?_; rotate_left; focus (first | (refine Or.inr ⟨by rfl, ?_⟩; with_reducible rfl) | (refine Or.inl ⟨by rfl, ?_⟩; (intro w hSw; (try dsimp only at hSw); go_simp); try with_reducible rfl))
        try simp only [Act.put, List.setIfInBounds_toArray, List.set_cons_zero, List.set_cons_succ]
        refine wpAnyH_takeL (i := 1) (v := ?_) rfl (by kernel_rfl) (by kernel_rfl) (by kernel_rfl) (fun _ _ _ h => h) ?_ (by assumption) ?_; rotate_left; focus (first | (refine Or.inr ⟨by rfl, ?_⟩; with_reducible rfl) | (refine Or.inl ⟨by rfl, ?_⟩; (intro w hSw; (try dsimp only at hSw); go_simp); try with_reducible rfl))
        try simp only [Act.put, List.setIfInBounds_toArray, List.set_cons_zero, List.set_cons_succ]
        refine wpAnyH_takeL (i := 2) (v := ?_) rfl (by kernel_rfl) (by kernel_rfl) (by kernel_rfl) (fun _ _ _ h => h) ?_ (by assumption) ?_; rotate_left; focus (first | (refine Or.inr ⟨by rfl, ?_⟩; with_reducible rfl) | (refine Or.inl ⟨by rfl, ?_⟩; (intro w hSw; (try dsimp only at hSw); go_simp); try with_reducible rfl))
        try simp only [Act.put, List.setIfInBounds_toArray, List.set_cons_zero, List.set_cons_succ]
        refine wpAnyH_takeL (i := 3) (v := ?_) rfl (by kernel_rfl) (by kernel_rfl) (by kernel_rfl) (fun _ _ _ h => h) ?_ (by assumption) ?_; rotate_left; focus (first | (refine Or.inr ⟨by rfl, ?_⟩; with_reducible rfl) | (refine Or.inl ⟨by rfl, ?_⟩; (intro w hSw; (try dsimp only at hSw); go_simp); try with_reducible rfl))
        try simp only [Act.put, List.setIfInBounds_toArray, List.set_cons_zero, List.set_cons_succ]
        refine wpAnyH_takeL (i := 4) (v := ?_) rfl (by kernel_rfl) (by kernel_rfl) (by kernel_rfl) (fun _ _ _ h => h) ?_ (by assumption) ?_; rotate_left; focus (first | (refine Or.inr ⟨by rfl, ?_⟩; with_reducible rfl) | (refine Or.inl ⟨by rfl, ?_⟩; (intro w hSw; (try dsimp only at hSw); go_simp); try with_reducible rfl))
        try simp only [Act.put, List.setIfInBounds_toArray, List.set_cons_zero, List.set_cons_succ]
        refine wpAnyH_takeL (i := 5) (v := ?_) rfl (by kernel_rfl) (by kernel_rfl) (by kernel_rfl) (fun _ _ _ h => h) ?_ (by assumption) ?_; rotate_left; focus (first | (refine Or.inr ⟨by rfl, ?_⟩; with_reducible rfl) | (refine Or.inl ⟨by rfl, ?_⟩; (intro w hSw; (try dsimp only at hSw); go_simp); try with_reducible rfl))
        try simp only [Act.put, List.setIfInBounds_toArray, List.set_cons_zero, List.set_cons_succ]
        refine wpAnyH_takeL (i := 6) (v := ?_) rfl (by kernel_rfl) (by kernel_rfl) (by kernel_rfl) (fun _ _ _ h => h) ?_ (by assumption) ?_; rotate_left; focus (first | (refine Or.inr ⟨by rfl, ?_⟩; with_reducible rfl) | (refine Or.inl ⟨by rfl, ?_⟩; (intro w hSw; (try dsimp only at hSw); go_simp); try with_reducible rfl))
        try simp only [Act.put, List.setIfInBounds_toArray, List.set_cons_zero, List.set_cons_succ]
        refine wpAnyH_takeL (i := 7) (v := ?_) rfl (by kernel_rfl) (by kernel_rfl) (by kernel_rfl) (fun _ _ _ h => h) ?_ (by assumption) ?_; rotate_left; focus (first | (refine Or.inr ⟨by rfl, ?_⟩; with_reducible rfl) | (refine Or.inl ⟨by rfl, ?_⟩; (intro w hSw; (try dsimp only at hSw); go_simp); try with_reducible rfl))
        try simp only [Act.put, List.setIfInBounds_toArray, List.set_cons_zero, List.set_cons_succ]
        refine wpAnyH_takeL (i := 8) (v := ?_) rfl (by kernel_rfl) (by kernel_rfl) (by kernel_rfl) (fun _ _ _ h => h) ?_ (by assumption) ?_; rotate_left; focus (first | (refine Or.inr ⟨by rfl, ?_⟩; with_reducible rfl) | (refine Or.inl ⟨by rfl, ?_⟩; (intro w hSw; (try dsimp only at hSw); go_simp); try with_reducible rfl))
        try simp only [Act.put, List.setIfInBounds_toArray, List.set_cons_zero, List.set_cons_succ]
        refine wpAnyH_takeL (i := 9) (v := ?_) rfl (by kernel_rfl) (by kernel_rfl) (by kernel_rfl) (fun _ _ _ h => h) ?_ (by assumption) ?_; rotate_left; focus (first | (refine Or.inr ⟨by rfl, ?_⟩; with_reducible rfl) | (refine Or.inl ⟨by rfl, ?_⟩; (intro w hSw; (try dsimp only at hSw); go_simp); try with_reducible rfl))
        try simp only [Act.put, List.setIfInBounds_toArray, List.set_cons_zero, List.set_cons_succ]
        refine wpAnyH_takeL (i := 10) (v := ?_) rfl (by kernel_rfl) (by kernel_rfl) (by kernel_rfl) (fun _ _ _ h => h) ?_ (by assumption) ?_; rotate_left; focus (first | (refine Or.inr ⟨by rfl, ?_⟩; with_reducible rfl) | (refine Or.inl ⟨by rfl, ?_⟩; (intro w hSw; (try dsimp only at hSw); go_simp); try with_reducible rfl))
        try simp only [Act.put, List.setIfInBounds_toArray, List.set_cons_zero, List.set_cons_succ]
        refine wpAnyH_takeL (i := 11) (v := ?_) rfl (by kernel_rfl) (by kernel_rfl) (by kernel_rfl) (fun _ _ _ h => h) ?_ (by assumption) ?_; rotate_left; focus (first | (refine Or.inr ⟨by rfl, ?_⟩; with_reducible rfl) | (refine Or.inl ⟨by rfl, ?_⟩; (intro w hSw; (try dsimp only at hSw); go_simp); try with_reducible rfl))
        try simp only [Act.put, List.setIfInBounds_toArray, List.set_cons_zero, List.set_cons_succ]
        refine wpAnyH_oneL (i := 12) rfl (by kernel_rfl) ?_
        intro K hK
        rw [if_pos (by rfl)]
        go_simp
        go_at_call 9
        refine (fixed11_any wb.drew).mono ?_
        rintro e wz ⟨rfl, bz⟩
        have HZ := Lib.hid (HB.out.below (bthen ((Below.refl _ wb).drew) bz))
        clear bz
        refine hK _ _ trivial ?_
        clear hK K
        try simp only [Act.put, List.setIfInBounds_toArray, List.set_cons_zero, List.set_cons_succ]
        refine wpAnyH_takeL (i := 13) (v := ?_) rfl (by kernel_rfl) (by kernel_rfl) (by kernel_rfl) (fun _ _ _ h => h) ?_ (by assumption) ?_; rotate_left; focus (first | (refine Or.inr ⟨by rfl, ?_⟩; with_reducible rfl) | (refine Or.inl ⟨by rfl, ?_⟩; (intro w hSw; (try dsimp only at hSw); go_simp); try with_reducible rfl))
        try simp only [Act.put, List.setIfInBounds_toArray, List.set_cons_zero, List.set_cons_succ]
        refine wpAnyH_takeL (i := 14) (v := ?_) rfl (by kernel_rfl) (by kernel_rfl) (by kernel_rfl) (fun _ _ _ h => h) ?_ (by assumption) ?_; rotate_left; focus (first | (refine Or.inr ⟨by rfl, ?_⟩; with_reducible rfl) | (refine Or.inl ⟨by rfl, ?_⟩; (intro w hSw; (try dsimp only at hSw); go_simp); try with_reducible rfl))
        try simp only [Act.put, List.setIfInBounds_toArray, List.set_cons_zero, List.set_cons_succ]
        refine wpAnyH_done (by kernel_rfl) ?_ _
        go_wp2
        go_ret
        exact ⟨rfl, HZ.out.old⟩
      · have HST := Lib.hid hst
        have HRS := Lib.hid hrs
        clear hst hrs
        go_wp2_with fail
        obtain ⟨rb, ub, h1, h2, h3⟩ := H8.out.out
        refine (files_any c w8 E2 0 rb h1).mono ?_
        rintro e w9 ⟨q1, rfl, _, t1, b9⟩
        have T1 := Lib.hid t1
        have H9 := Lib.hid (H8.out.below b9)
        have ST9 := Lib.hid (HST.out.below b9)
        have RS9 := Lib.hid (HRS.out.below b9)
        clear t1 b9 h1 h2 h3
        go_wp2_with fail
        obtain ⟨rb, ub, h1, h2, h3⟩ := H9.out.out
        obtain ⟨hok, us, hru, _⟩ := h3
        refine (rfiles_any y w9 E2 us hru hok).mono ?_
        rintro e wa ⟨q2, rfl, _, t2, ba⟩
        have T2 := Lib.hid t2
        have T3 := Lib.hid (T1.out.below ba)
        have HA := Lib.hid (H9.out.below ba)
        have STA := Lib.hid (ST9.out.below ba)
        have RSA := Lib.hid (RS9.out.below ba)
        clear t2 ba h1 h2 hok hru
        go_wp2_with fail
        refine (same_any wa (some ⟨q1, 0, none⟩) (some ⟨q2, 0, none⟩) 2 2 _ _ (twos_texts T3.out) (twos_texts T2.out)).mono ?_
        rw [show decide ([E2.file false, E2.file true] = [E2.file false, E2.file true]) = true from decide_eq_true rfl]
        rintro e wb ⟨rfl, bb⟩
        have HB := Lib.hid (HA.out.below bb)
        have STB := Lib.hid (STA.out.below bb)
        have RSB := Lib.hid (RSA.out.below bb)
        clear bb
        go_wp2_with fail
        have hS : wb.drew.cell? ⟨z, 1, none⟩ = some u := RSB.out.cells.2.1
        refine wp_region_heldL (S := fun w' => w'.cell? ⟨z, 1, none⟩ = some u) (by kernel_rfl) ?_
        refine wpAnyH_takeL (i := 0) (v := ?_) rfl (by kernel_rfl) (by kernel_rfl) (by kernel_rfl) (fun _ _ _ h => h) ?_ (by assumption) ?_; rotate_left; focus (first | (refine Or.inr ⟨by rfl, ?_⟩; with_reducible rfl) | (refine Or.inl ⟨by rfl, ?_⟩; (intro w hSw; (try dsimp only at hSw); go_simp); try with_reducible rfl))
        try simp only [Act.put, List.setIfInBounds_toArray, List.set_cons_zero, List.set_cons_succ]
        refine wpAnyH_takeL (i := 1) (v := ?_) rfl (by kernel_rfl) (by kernel_rfl) (by kernel_rfl) (fun _ _ _ h => h) ?_ (by assumption) ?_; rotate_left; focus (first | (refine Or.inr ⟨by rfl, ?_⟩; with_reducible rfl) | (refine Or.inl ⟨by rfl, ?_⟩; (intro w hSw; (try dsimp only at hSw); go_simp); try with_reducible rfl))
        try simp only [Act.put, List.setIfInBounds_toArray, List.set_cons_zero, List.set_cons_succ]
        refine wpAnyH_takeL (i := 2) (v := ?_) rfl (by kernel_rfl) (by kernel_rfl) (by kernel_rfl) (fun _ _ _ h => h) ?_ (by assumption) ?_; rotate_left; focus (first | (refine Or.inr ⟨by rfl, ?_⟩; with_reducible rfl) | (refine Or.inl ⟨by rfl, ?_⟩; (intro w hSw; (try dsimp only at hSw); go_simp); try with_reducible rfl))
        try simp only [Act.put, List.setIfInBounds_toArray, List.set_cons_zero, List.set_cons_succ]
        refine wpAnyH_takeL (i := 3) (v := ?_) rfl (by kernel_rfl) (by kernel_rfl) (by kernel_rfl) (fun _ _ _ h => h) ?_ (by assumption) ?_; rotate_left; focus (first | (refine Or.inr ⟨by rfl, ?_⟩; with_reducible rfl) | (refine Or.inl ⟨by rfl, ?_⟩; (intro w hSw; (try dsimp only at hSw); go_simp); try with_reducible rfl))
        try simp only [Act.put, List.setIfInBounds_toArray, List.set_cons_zero, List.set_cons_succ]
        refine wpAnyH_takeL (i := 5) (v := ?_) rfl (by kernel_rfl) (by kernel_rfl) (by kernel_rfl) (fun _ _ _ h => h) ?_ (by assumption) ?_; rotate_left; focus (first | (refine Or.inr ⟨by rfl, ?_⟩; with_reducible rfl) | (refine Or.inl ⟨by rfl, ?_⟩; (intro w hSw; (try dsimp only at hSw); go_simp); try with_reducible rfl))
        try simp only [Act.put, List.setIfInBounds_toArray, List.set_cons_zero, List.set_cons_succ]
        refine wpAnyH_takeL (i := 6) (v := ?_) rfl (by kernel_rfl) (by kernel_rfl) (by kernel_rfl) (fun _ _ _ h => h) ?_ (by assumption) ?_; rotate_left; focus (first | (refine Or.inr ⟨by rfl, ?_⟩; with_reducible rfl) | (refine Or.inl ⟨by rfl, ?_⟩; (intro w hSw; (try dsimp only at hSw); go_simp); try with_reducible rfl))
        try simp only [Act.put, List.setIfInBounds_toArray, List.set_cons_zero, List.set_cons_succ]
        refine wpAnyH_takeL (i := 7) (v := ?_) rfl (by kernel_rfl) (by kernel_rfl) (by kernel_rfl) (fun _ _ _ h => h) ?_ (by assumption) ?_; rotate_left; focus (first | (refine Or.inr ⟨by rfl, ?_⟩; with_reducible rfl) | (refine Or.inl ⟨by rfl, ?_⟩; (intro w hSw; (try dsimp only at hSw); go_simp); try with_reducible rfl))
        try simp only [Act.put, List.setIfInBounds_toArray, List.set_cons_zero, List.set_cons_succ]
        refine wpAnyH_takeL (i := 8) (v := ?_) rfl (by kernel_rfl) (by kernel_rfl) (by kernel_rfl) (fun _ _ _ h => h) ?_ (by assumption) ?_; rotate_left; focus (first | (refine Or.inr ⟨by rfl, ?_⟩; with_reducible rfl) | (refine Or.inl ⟨by rfl, ?_⟩; (intro w hSw; (try dsimp only at hSw); go_simp); try with_reducible rfl))
        try simp only [Act.put, List.setIfInBounds_toArray, List.set_cons_zero, List.set_cons_succ]
        refine wpAnyH_oneL (i := 4) rfl (by kernel_rfl) ?_
        intro K hK
        rw [if_pos (by rfl)]
        go_simp
        go_at_call 20
        refine (scan11_any (w := wb.drew) (STB.out.below (Below.refl _ wb).drew) [] 99999 (by decide) (by decide)).mono ?_
        rintro e wx ⟨vx, rfl, px, _, bx⟩
        have BX := Lib.hid (bthen ((Below.refl _ wb).drew) bx)
        have PX : Hid (PairsAt wx vx s.ps) := Lib.hid (by
          have e1 : Sto.scan s.ps [] (99999 : Int).toNat = s.ps := scan_whole (by have := few_fits STB.out.fits; show _ ≤ 99999; omega)
          rw [e1] at px
          exact px)
        have hSx : wx.cell? ⟨z, 1, none⟩ = some u := cell_later bx hS
        clear px bx hS
        refine hK _ _ hSx ?_
        clear hK K
        try simp only [Act.put, List.setIfInBounds_toArray, List.set_cons_zero, List.set_cons_succ]
        refine wpAnyH_oneL (i := 9) rfl (by kernel_rfl) ?_
        intro K hK
        rw [if_pos (by rfl)]
        go_simp
        go_at_call 19
        refine (rsame11_any vx u s.ps s.ps wx PX.out (RSB.out.pairs.below BX.out)).mono ?_
        rw [show decide (s.ps = s.ps) = true from decide_eq_true rfl]
        rintro e wy ⟨rfl, by_⟩
        have BY := Lib.hid (bthen BX.out by_)
        have hSy : wy.cell? ⟨z, 1, none⟩ = some u := cell_later by_ hSx
        clear by_ hSx
        refine hK _ _ hSy ?_
        clear hK K
        try simp only [Act.put, List.setIfInBounds_toArray, List.set_cons_zero, List.set_cons_succ]
        refine wpAnyH_takeL (i := 10) (v := ?_) rfl (by kernel_rfl) (by kernel_rfl) (by kernel_rfl) (fun _ _ _ h => h) ?_ (by assumption) ?_; rotate_left; focus (first | (refine Or.inr ⟨by rfl, ?_⟩; with_reducible rfl) | (refine Or.inl ⟨by rfl, ?_⟩; (intro w hSw; (try dsimp only at hSw); go_simp); try with_reducible rfl))
        try simp only [Act.put, List.setIfInBounds_toArray, List.set_cons_zero, List.set_cons_succ]
        refine wpAnyH_takeL (i := 11) (v := ?_) rfl (by kernel_rfl) (by kernel_rfl) (by kernel_rfl) (fun _ _ _ h => h) ?_ (by assumption) ?_; rotate_left; focus (first | (refine Or.inr ⟨by rfl, ?_⟩; with_reducible rfl) | (refine Or.inl ⟨by rfl, ?_⟩; (intro w hSw; (try dsimp only at hSw); go_simp); try with_reducible rfl))
        try simp only [Act.put, List.setIfInBounds_toArray, List.set_cons_zero, List.set_cons_succ]
        refine wpAnyH_oneL (i := 12) rfl (by kernel_rfl) ?_
        intro K hK
        rw [if_pos (by rfl)]
        go_simp
        go_at_call 9
        refine (fixed11_any wy).mono ?_
        rintro e wz ⟨rfl, bz⟩
        have HZ := Lib.hid (HB.out.below (bthen BY.out bz))
        have hSz : wz.cell? ⟨z, 1, none⟩ = some u := cell_later bz hSy
        clear bz hSy
        refine hK _ _ hSz ?_
        clear hK K
        try simp only [Act.put, List.setIfInBounds_toArray, List.set_cons_zero, List.set_cons_succ]
        refine wpAnyH_takeL (i := 13) (v := ?_) rfl (by kernel_rfl) (by kernel_rfl) (by kernel_rfl) (fun _ _ _ h => h) ?_ (by assumption) ?_; rotate_left; focus (first | (refine Or.inr ⟨by rfl, ?_⟩; with_reducible rfl) | (refine Or.inl ⟨by rfl, ?_⟩; (intro w hSw; (try dsimp only at hSw); go_simp); try with_reducible rfl))
        try simp only [Act.put, List.setIfInBounds_toArray, List.set_cons_zero, List.set_cons_succ]
        refine wpAnyH_takeL (i := 14) (v := ?_) rfl (by kernel_rfl) (by kernel_rfl) (by kernel_rfl) (fun _ _ _ h => h) ?_ (by assumption) ?_; rotate_left; focus (first | (refine Or.inr ⟨by rfl, ?_⟩; with_reducible rfl) | (refine Or.inl ⟨by rfl, ?_⟩; (intro w hSw; (try dsimp only at hSw); go_simp); try with_reducible rfl))
        try simp only [Act.put, List.setIfInBounds_toArray, List.set_cons_zero, List.set_cons_succ]
        refine wpAnyH_done (by kernel_rfl) ?_ _
        go_wp2
        go_ret
        exact ⟨rfl, HZ.out.old⟩
    · rcases HRES.out with ⟨rfl, rfl⟩ | ⟨s, x, lg, mb, z, lz, u, rfl, rfl, hst, hrs⟩
      · go_wp2_with fail
        obtain ⟨rb, ub, h1, h2, h3⟩ := H8.out.out
        refine (files_any c w8 E2 0 rb h1).mono ?_
        rintro e w9 ⟨q1, rfl, _, t1, b9⟩
        have T1 := Lib.hid t1
        have H9 := Lib.hid (H8.out.below b9)
        clear t1 b9 h1 h2 h3
        go_wp2_with fail
        obtain ⟨rb, ub, h1, h2, h3⟩ := H9.out.out
        obtain ⟨hok, us, hru, _⟩ := h3
        refine (rfiles_any y w9 E2 us hru hok).mono ?_
        rintro e wa ⟨q2, rfl, _, t2, ba⟩
        have T2 := Lib.hid t2
        have T3 := Lib.hid (T1.out.below ba)
        have HA := Lib.hid (H9.out.below ba)
        clear t2 ba h1 h2 hok hru
        go_wp2_with fail
        refine (same_any wa (some ⟨q1, 0, none⟩) (some ⟨q2, 0, none⟩) 2 2 _ _ (twos_texts T3.out) (twos_texts T2.out)).mono ?_
        rw [show decide ([E2.file false, E2.file true] = [E2.file false, E2.file true]) = true from decide_eq_true rfl]
        rintro e wb ⟨rfl, bb⟩
        have HB := Lib.hid (HA.out.below bb)
        clear bb
        go_wp2_with fail
        have hS : True := trivial
        refine wp_region_heldL (S := fun _ => True) (by kernel_rfl) ?_
        refine wpAnyH_takeL (i := 0) (v := ?_) rfl (by kernel_rfl) (by kernel_rfl) (by kernel_rfl) (fun _ _ _ h => h) ?_ (by assumption) ?_; rotate_left; focus (first | (refine Or.inr ⟨by rfl, ?_⟩; with_reducible rfl) | (refine Or.inl ⟨by rfl, ?_⟩; (intro w hSw; (try dsimp only at hSw); go_simp); try with_reducible rfl))
        try simp only [Act.put, List.setIfInBounds_toArray, List.set_cons_zero, List.set_cons_succ]
        refine wpAnyH_takeL (i := 1) (v := ?_) rfl (by kernel_rfl) (by kernel_rfl) (by kernel_rfl) (fun _ _ _ h => h) ?_ (by assumption) ?_; rotate_left; focus (first | (refine Or.inr ⟨by rfl, ?_⟩; with_reducible rfl) | (refine Or.inl ⟨by rfl, ?_⟩; (intro w hSw; (try dsimp only at hSw); go_simp); try with_reducible rfl))
        try simp only [Act.put, List.setIfInBounds_toArray, List.set_cons_zero, List.set_cons_succ]
        refine wpAnyH_takeL (i := 2) (v := ?_) rfl (by kernel_rfl) (by kernel_rfl) (by kernel_rfl) (fun _ _ _ h => h) ?_ (by assumption) ?_; rotate_left; focus (first | (refine Or.inr ⟨by rfl, ?_⟩; with_reducible rfl) | (refine Or.inl ⟨by rfl, ?_⟩; (intro w hSw; (try dsimp only at hSw); go_simp); try with_reducible rfl))
        try simp only [Act.put, List.setIfInBounds_toArray, List.set_cons_zero, List.set_cons_succ]
        refine wpAnyH_takeL (i := 3) (v := ?_) rfl (by kernel_rfl) (by kernel_rfl) (by kernel_rfl) (fun _ _ _ h => h) ?_ (by assumption) ?_; rotate_left; focus (first | (refine Or.inr ⟨by rfl, ?_⟩; with_reducible rfl) | (refine Or.inl ⟨by rfl, ?_⟩; (intro w hSw; (try dsimp only at hSw); go_simp); try with_reducible rfl))
        try simp only [Act.put, List.setIfInBounds_toArray, List.set_cons_zero, List.set_cons_succ]
        refine wpAnyH_takeL (i := 4) (v := ?_) rfl (by kernel_rfl) (by kernel_rfl) (by kernel_rfl) (fun _ _ _ h => h) ?_ (by assumption) ?_; rotate_left; focus (first | (refine Or.inr ⟨by rfl, ?_⟩; with_reducible rfl) | (refine Or.inl ⟨by rfl, ?_⟩; (intro w hSw; (try dsimp only at hSw); go_simp); try with_reducible rfl))
        try simp only [Act.put, List.setIfInBounds_toArray, List.set_cons_zero, List.set_cons_succ]
        refine wpAnyH_takeL (i := 5) (v := ?_) rfl (by kernel_rfl) (by kernel_rfl) (by kernel_rfl) (fun _ _ _ h => h) ?_ (by assumption) ?_; rotate_left; focus (first | (refine Or.inr ⟨by rfl, ?_⟩; with_reducible rfl) | (refine Or.inl ⟨by rfl, ?_⟩; (intro w hSw; (try dsimp only at hSw); go_simp); try with_reducible rfl))
        try simp only [Act.put, List.setIfInBounds_toArray, List.set_cons_zero, List.set_cons_succ]
        refine wpAnyH_takeL (i := 6) (v := ?_) rfl (by kernel_rfl) (by kernel_rfl) (by kernel_rfl) (fun _ _ _ h => h) ?_ (by assumption) ?_; rotate_left; focus (first | (refine Or.inr ⟨by rfl, ?_⟩; with_reducible rfl) | (refine Or.inl ⟨by rfl, ?_⟩; (intro w hSw; (try dsimp only at hSw); go_simp); try with_reducible rfl))
        try simp only [Act.put, List.setIfInBounds_toArray, List.set_cons_zero, List.set_cons_succ]
        refine wpAnyH_takeL (i := 7) (v := ?_) rfl (by kernel_rfl) (by kernel_rfl) (by kernel_rfl) (fun _ _ _ h => h) ?_ (by assumption) ?_; rotate_left; focus (first | (refine Or.inr ⟨by rfl, ?_⟩; with_reducible rfl) | (refine Or.inl ⟨by rfl, ?_⟩; (intro w hSw; (try dsimp only at hSw); go_simp); try with_reducible rfl))
        try simp only [Act.put, List.setIfInBounds_toArray, List.set_cons_zero, List.set_cons_succ]
        refine wpAnyH_takeL (i := 8) (v := ?_) rfl (by kernel_rfl) (by kernel_rfl) (by kernel_rfl) (fun _ _ _ h => h) ?_ (by assumption) ?_; rotate_left; focus (first | (refine Or.inr ⟨by rfl, ?_⟩; with_reducible rfl) | (refine Or.inl ⟨by rfl, ?_⟩; (intro w hSw; (try dsimp only at hSw); go_simp); try with_reducible rfl))
        try simp only [Act.put, List.setIfInBounds_toArray, List.set_cons_zero, List.set_cons_succ]
        refine wpAnyH_takeL (i := 9) (v := ?_) rfl (by kernel_rfl) (by kernel_rfl) (by kernel_rfl) (fun _ _ _ h => h) ?_ (by assumption) ?_; rotate_left; focus (first | (refine Or.inr ⟨by rfl, ?_⟩; with_reducible rfl) | (refine Or.inl ⟨by rfl, ?_⟩; (intro w hSw; (try dsimp only at hSw); go_simp); try with_reducible rfl))
        try simp only [Act.put, List.setIfInBounds_toArray, List.set_cons_zero, List.set_cons_succ]
        refine wpAnyH_takeL (i := 10) (v := ?_) rfl (by kernel_rfl) (by kernel_rfl) (by kernel_rfl) (fun _ _ _ h => h) ?_ (by assumption) ?_; rotate_left; focus (first | (refine Or.inr ⟨by rfl, ?_⟩; with_reducible rfl) | (refine Or.inl ⟨by rfl, ?_⟩; (intro w hSw; (try dsimp only at hSw); go_simp); try with_reducible rfl))
        try simp only [Act.put, List.setIfInBounds_toArray, List.set_cons_zero, List.set_cons_succ]
        refine wpAnyH_takeL (i := 11) (v := ?_) rfl (by kernel_rfl) (by kernel_rfl) (by kernel_rfl) (fun _ _ _ h => h) ?_ (by assumption) ?_; rotate_left; focus (first | (refine Or.inr ⟨by rfl, ?_⟩; with_reducible rfl) | (refine Or.inl ⟨by rfl, ?_⟩; (intro w hSw; (try dsimp only at hSw); go_simp); try with_reducible rfl))
        try simp only [Act.put, List.setIfInBounds_toArray, List.set_cons_zero, List.set_cons_succ]
        refine wpAnyH_oneL (i := 12) rfl (by kernel_rfl) ?_
        intro K hK
        rw [if_pos (by rfl)]
        go_simp
        go_at_call 9
        refine (fixed11_any wb.drew).mono ?_
        rintro e wz ⟨rfl, bz⟩
        have HZ := Lib.hid (HB.out.below (bthen ((Below.refl _ wb).drew) bz))
        clear bz
        refine hK _ _ trivial ?_
        clear hK K
        try simp only [Act.put, List.setIfInBounds_toArray, List.set_cons_zero, List.set_cons_succ]
        refine wpAnyH_takeL (i := 13) (v := ?_) rfl (by kernel_rfl) (by kernel_rfl) (by kernel_rfl) (fun _ _ _ h => h) ?_ (by assumption) ?_; rotate_left; focus (first | (refine Or.inr ⟨by rfl, ?_⟩; with_reducible rfl) | (refine Or.inl ⟨by rfl, ?_⟩; (intro w hSw; (try dsimp only at hSw); go_simp); try with_reducible rfl))
        try simp only [Act.put, List.setIfInBounds_toArray, List.set_cons_zero, List.set_cons_succ]
        refine wpAnyH_takeL (i := 14) (v := ?_) rfl (by kernel_rfl) (by kernel_rfl) (by kernel_rfl) (fun _ _ _ h => h) ?_ (by assumption) ?_; rotate_left; focus (first | (refine Or.inr ⟨by rfl, ?_⟩; with_reducible rfl) | (refine Or.inl ⟨by rfl, ?_⟩; (intro w hSw; (try dsimp only at hSw); go_simp); try with_reducible rfl))
        try simp only [Act.put, List.setIfInBounds_toArray, List.set_cons_zero, List.set_cons_succ]
        refine wpAnyH_done (by kernel_rfl) ?_ _
        go_wp2
        go_ret
        exact ⟨rfl, HZ.out.old⟩
      · have HST := Lib.hid hst
        have HRS := Lib.hid hrs
        clear hst hrs
        go_wp2_with fail
        obtain ⟨rb, ub, h1, h2, h3⟩ := H8.out.out
        refine (files_any c w8 E2 0 rb h1).mono ?_
        rintro e w9 ⟨q1, rfl, _, t1, b9⟩
        have T1 := Lib.hid t1
        have H9 := Lib.hid (H8.out.below b9)
        have ST9 := Lib.hid (HST.out.below b9)
        have RS9 := Lib.hid (HRS.out.below b9)
        clear t1 b9 h1 h2 h3
        go_wp2_with fail
        obtain ⟨rb, ub, h1, h2, h3⟩ := H9.out.out
        obtain ⟨hok, us, hru, _⟩ := h3
        refine (rfiles_any y w9 E2 us hru hok).mono ?_
        rintro e wa ⟨q2, rfl, _, t2, ba⟩
        have T2 := Lib.hid t2
        have T3 := Lib.hid (T1.out.below ba)
        have HA := Lib.hid (H9.out.below ba)
        have STA := Lib.hid (ST9.out.below ba)
        have RSA := Lib.hid (RS9.out.below ba)
        clear t2 ba h1 h2 hok hru
        go_wp2_with fail
        refine (same_any wa (some ⟨q1, 0, none⟩) (some ⟨q2, 0, none⟩) 2 2 _ _ (twos_texts T3.out) (twos_texts T2.out)).mono ?_
        rw [show decide ([E2.file false, E2.file true] = [E2.file false, E2.file true]) = true from decide_eq_true rfl]
        rintro e wb ⟨rfl, bb⟩
        have HB := Lib.hid (HA.out.below bb)
        have STB := Lib.hid (STA.out.below bb)
        have RSB := Lib.hid (RSA.out.below bb)
        clear bb
        go_wp2_with fail
        have hS : wb.drew.cell? ⟨z, 1, none⟩ = some u := RSB.out.cells.2.1
        refine wp_region_heldL (S := fun w' => w'.cell? ⟨z, 1, none⟩ = some u) (by kernel_rfl) ?_
        refine wpAnyH_takeL (i := 0) (v := ?_) rfl (by kernel_rfl) (by kernel_rfl) (by kernel_rfl) (fun _ _ _ h => h) ?_ (by assumption) ?_; rotate_left; focus (first | (refine Or.inr ⟨by rfl, ?_⟩; with_reducible rfl) | (refine Or.inl ⟨by rfl, ?_⟩; (intro w hSw; (try dsimp only at hSw); go_simp); try with_reducible rfl))
        try simp only [Act.put, List.setIfInBounds_toArray, List.set_cons_zero, List.set_cons_succ]
        refine wpAnyH_takeL (i := 1) (v := ?_) rfl (by kernel_rfl) (by kernel_rfl) (by kernel_rfl) (fun _ _ _ h => h) ?_ (by assumption) ?_; rotate_left; focus (first | (refine Or.inr ⟨by rfl, ?_⟩; with_reducible rfl) | (refine Or.inl ⟨by rfl, ?_⟩; (intro w hSw; (try dsimp only at hSw); go_simp); try with_reducible rfl))
        try simp only [Act.put, List.setIfInBounds_toArray, List.set_cons_zero, List.set_cons_succ]
        refine wpAnyH_takeL (i := 2) (v := ?_) rfl (by kernel_rfl) (by kernel_rfl) (by kernel_rfl) (fun _ _ _ h => h) ?_ (by assumption) ?_; rotate_left; focus (first | (refine Or.inr ⟨by rfl, ?_⟩; with_reducible rfl) | (refine Or.inl ⟨by rfl, ?_⟩; (intro w hSw; (try dsimp only at hSw); go_simp); try with_reducible rfl))
        try simp only [Act.put, List.setIfInBounds_toArray, List.set_cons_zero, List.set_cons_succ]
        refine wpAnyH_takeL (i := 3) (v := ?_) rfl (by kernel_rfl) (by kernel_rfl) (by kernel_rfl) (fun _ _ _ h => h) ?_ (by assumption) ?_; rotate_left; focus (first | (refine Or.inr ⟨by rfl, ?_⟩; with_reducible rfl) | (refine Or.inl ⟨by rfl, ?_⟩; (intro w hSw; (try dsimp only at hSw); go_simp); try with_reducible rfl))
        try simp only [Act.put, List.setIfInBounds_toArray, List.set_cons_zero, List.set_cons_succ]
        refine wpAnyH_takeL (i := 5) (v := ?_) rfl (by kernel_rfl) (by kernel_rfl) (by kernel_rfl) (fun _ _ _ h => h) ?_ (by assumption) ?_; rotate_left; focus (first | (refine Or.inr ⟨by rfl, ?_⟩; with_reducible rfl) | (refine Or.inl ⟨by rfl, ?_⟩; (intro w hSw; (try dsimp only at hSw); go_simp); try with_reducible rfl))
        try simp only [Act.put, List.setIfInBounds_toArray, List.set_cons_zero, List.set_cons_succ]
        refine wpAnyH_takeL (i := 6) (v := ?_) rfl (by kernel_rfl) (by kernel_rfl) (by kernel_rfl) (fun _ _ _ h => h) ?_ (by assumption) ?_; rotate_left; focus (first | (refine Or.inr ⟨by rfl, ?_⟩; with_reducible rfl) | (refine Or.inl ⟨by rfl, ?_⟩; (intro w hSw; (try dsimp only at hSw); go_simp); try with_reducible rfl))
        try simp only [Act.put, List.setIfInBounds_toArray, List.set_cons_zero, List.set_cons_succ]
        refine wpAnyH_takeL (i := 7) (v := ?_) rfl (by kernel_rfl) (by kernel_rfl) (by kernel_rfl) (fun _ _ _ h => h) ?_ (by assumption) ?_; rotate_left; focus (first | (refine Or.inr ⟨by rfl, ?_⟩; with_reducible rfl) | (refine Or.inl ⟨by rfl, ?_⟩; (intro w hSw; (try dsimp only at hSw); go_simp); try with_reducible rfl))
        try simp only [Act.put, List.setIfInBounds_toArray, List.set_cons_zero, List.set_cons_succ]
        refine wpAnyH_takeL (i := 8) (v := ?_) rfl (by kernel_rfl) (by kernel_rfl) (by kernel_rfl) (fun _ _ _ h => h) ?_ (by assumption) ?_; rotate_left; focus (first | (refine Or.inr ⟨by rfl, ?_⟩; with_reducible rfl) | (refine Or.inl ⟨by rfl, ?_⟩; (intro w hSw; (try dsimp only at hSw); go_simp); try with_reducible rfl))
        try simp only [Act.put, List.setIfInBounds_toArray, List.set_cons_zero, List.set_cons_succ]
        refine wpAnyH_oneL (i := 4) rfl (by kernel_rfl) ?_
        intro K hK
        rw [if_pos (by rfl)]
        go_simp
        go_at_call 20
        refine (scan11_any (w := wb.drew) (STB.out.below (Below.refl _ wb).drew) [] 99999 (by decide) (by decide)).mono ?_
        rintro e wx ⟨vx, rfl, px, _, bx⟩
        have BX := Lib.hid (bthen ((Below.refl _ wb).drew) bx)
        have PX : Hid (PairsAt wx vx s.ps) := Lib.hid (by
          have e1 : Sto.scan s.ps [] (99999 : Int).toNat = s.ps := scan_whole (by have := few_fits STB.out.fits; show _ ≤ 99999; omega)
          rw [e1] at px
          exact px)
        have hSx : wx.cell? ⟨z, 1, none⟩ = some u := cell_later bx hS
        clear px bx hS
        refine hK _ _ hSx ?_
        clear hK K
        try simp only [Act.put, List.setIfInBounds_toArray, List.set_cons_zero, List.set_cons_succ]
        refine wpAnyH_oneL (i := 9) rfl (by kernel_rfl) ?_
        intro K hK
        rw [if_pos (by rfl)]
        go_simp
        go_at_call 19
        refine (rsame11_any vx u s.ps s.ps wx PX.out (RSB.out.pairs.below BX.out)).mono ?_
        rw [show decide (s.ps = s.ps) = true from decide_eq_true rfl]
        rintro e wy ⟨rfl, by_⟩
        have BY := Lib.hid (bthen BX.out by_)
        have hSy : wy.cell? ⟨z, 1, none⟩ = some u := cell_later by_ hSx
        clear by_ hSx
        refine hK _ _ hSy ?_
        clear hK K
        try simp only [Act.put, List.setIfInBounds_toArray, List.set_cons_zero, List.set_cons_succ]
        refine wpAnyH_takeL (i := 10) (v := ?_) rfl (by kernel_rfl) (by kernel_rfl) (by kernel_rfl) (fun _ _ _ h => h) ?_ (by assumption) ?_; rotate_left; focus (first | (refine Or.inr ⟨by rfl, ?_⟩; with_reducible rfl) | (refine Or.inl ⟨by rfl, ?_⟩; (intro w hSw; (try dsimp only at hSw); go_simp); try with_reducible rfl))
        try simp only [Act.put, List.setIfInBounds_toArray, List.set_cons_zero, List.set_cons_succ]
        refine wpAnyH_takeL (i := 11) (v := ?_) rfl (by kernel_rfl) (by kernel_rfl) (by kernel_rfl) (fun _ _ _ h => h) ?_ (by assumption) ?_; rotate_left; focus (first | (refine Or.inr ⟨by rfl, ?_⟩; with_reducible rfl) | (refine Or.inl ⟨by rfl, ?_⟩; (intro w hSw; (try dsimp only at hSw); go_simp); try with_reducible rfl))
        try simp only [Act.put, List.setIfInBounds_toArray, List.set_cons_zero, List.set_cons_succ]
        refine wpAnyH_oneL (i := 12) rfl (by kernel_rfl) ?_
        intro K hK
        rw [if_pos (by rfl)]
        go_simp
        go_at_call 9
        refine (fixed11_any wy).mono ?_
        rintro e wz ⟨rfl, bz⟩
        have HZ := Lib.hid (HB.out.below (bthen BY.out bz))
        have hSz : wz.cell? ⟨z, 1, none⟩ = some u := cell_later bz hSy
        clear bz hSy
        refine hK _ _ hSz ?_
        clear hK K
        try simp only [Act.put, List.setIfInBounds_toArray, List.set_cons_zero, List.set_cons_succ]
        refine wpAnyH_takeL (i := 13) (v := ?_) rfl (by kernel_rfl) (by kernel_rfl) (by kernel_rfl) (fun _ _ _ h => h) ?_ (by assumption) ?_; rotate_left; focus (first | (refine Or.inr ⟨by rfl, ?_⟩; with_reducible rfl) | (refine Or.inl ⟨by rfl, ?_⟩; (intro w hSw; (try dsimp only at hSw); go_simp); try with_reducible rfl))
        try simp only [Act.put, List.setIfInBounds_toArray, List.set_cons_zero, List.set_cons_succ]
        refine wpAnyH_takeL (i := 14) (v := ?_) rfl (by kernel_rfl) (by kernel_rfl) (by kernel_rfl) (fun _ _ _ h => h) ?_ (by assumption) ?_; rotate_left; focus (first | (refine Or.inr ⟨by rfl, ?_⟩; with_reducible rfl) | (refine Or.inl ⟨by rfl, ?_⟩; (intro w hSw; (try dsimp only at hSw); go_simp); try with_reducible rfl))
        try simp only [Act.put, List.setIfInBounds_toArray, List.set_cons_zero, List.set_cons_succ]
        refine wpAnyH_done (by kernel_rfl) ?_ _
        go_wp2
        go_ret
        exact ⟨rfl, HZ.out.old⟩
end Go.Proofs.YtpjpknndfhablaaGreat
namespace Go.Proofs.YtpjpknndfhablaaGreat
open Go.ChangeShapes Go.WideShapes Go.ChangeAt Go.RowKit Go.Deep
theorem Tryz.own : ownKnob Tryz.prog.godebug = none := by kernel_rfl
theorem Tryz.laidOut : laidOutB Tryz.prog = true := by kernel_rfl
theorem Tryz.cellsText : Tryz.prog.cellsOf 9 = 1 := by kernel_rfl
section
variable {H : Type} {enc : TypeId × Value → H} {P : Program} {w : World} {base : Nat} {spare : Nat → Bool} {held : Bool}
theorem open_slice_fields {t e : TypeId} {fs : Array Field} {fuel : Nat} {cs : List Value} {x : DataW H × List MemPlace} (ht : P.underlying t = some (.slice e)) (he : P.underlying e = some (.struct fs))
    (hone : oneCellFields P fs = true) (hC : P.cellsOf e = fs.size) (h : DataW.trod enc P w base spare held fuel t cs = some x) :
    (cs = [.slice none 0 0] ∧ x = (.nil, [])) ∨
    ∃ (a : Addr) (len cap m : Nat) (D : Nat → DataW H) (Pl : Nat → List MemPlace), cs = [.slice (some a) len cap] ∧ base ≤ a.block ∧ len ≤ cap ∧ cap ≤ maxLen ∧ m = (if spare a.block then cap else len) ∧
      x = (.slice ((List.range len).map D) ((List.range (m - len)).map fun j => D (len + j)), MemPlace.row a (m * fs.size) ++ (List.range m).flatMap Pl) ∧
      ∀ i, i < m → ∃ (ys : List (DataW H × List MemPlace)) (n : Nat), D i = .agg (ys.map (·.1)) ∧ Pl i = ys.flatMap (·.2) ∧ ys.length = fs.size ∧
        ∀ (j : Nat) (f : Field), fs[j]? = some f → ∃ (v : Value) (y : DataW H × List MemPlace), w.cell? (a.add (i * fs.size + j)) = some v ∧ ys[j]? = some y ∧ DataW.trod enc P w base spare held n f.type [v] = some y := by
  rcases open_slice ht h with h0 | ⟨a, len, cap, m, n, D, Pl, hcs, hb, hl, hm, hmm, hx, hi⟩
  · exact .inl h0
  · refine .inr ⟨a, len, cap, m, D, Pl, hcs, hb, hl, hm, hmm, by rw [hC] at hx; exact hx, fun i him => ?_⟩
    obtain ⟨cs', hc, ht'⟩ := hi i him
    rw [hC] at hc
    obtain ⟨ys, n', hn', hy, hlen, hyl, hf⟩ := DataW.trod_struct he ht'
    obtain ⟨_, hcl, hat⟩ := World.cells?_some hc
    simp only [Prod.mk.injEq] at hy
    refine ⟨ys, n', hy.1, hy.2, hyl, fun j f hj => ?_⟩
    obtain ⟨ho, hk⟩ := hone_of hone j f hj
    have hjl : j < fs.size := (Array.getElem?_eq_some_iff.1 hj).1
    have hcell := hat j hjl
    have hv : cs'[j]? = some (cs'[j]'(by omega)) := List.getElem?_eq_getElem (by omega)
    have h1 := hf j f hj
    rw [ho, hk] at h1
    have hone' : (cs'.drop j).take 1 = [cs'[j]'(by omega)] := by
      rw [List.drop_eq_getElem_cons (by omega)]
      rfl
    rw [hone'] at h1
    have hys : ys[j]? = some (ys[j]'(by omega)) := List.getElem?_eq_getElem (by omega)
    refine ⟨_, _, ?_, hys, h1.trans hys⟩
    rw [← Go.Deep.add_add, hcell, hv]
end

/-- A list out of what holds at each place. -/
theorem list_of {T : Type} {Q : Nat → T → Prop} : ∀ (n : Nat), (∀ i, i < n → ∃ o, Q i o) → ∃ l : List T, l.length = n ∧ ∀ i o, l[i]? = some o → Q i o
  | 0, _ => ⟨[], rfl, by simp⟩
  | n + 1, h => by
    obtain ⟨l, hl, hq⟩ := list_of n (fun i hi => h i (by omega))
    obtain ⟨o, ho⟩ := h n (by omega)
    refine ⟨l ++ [o], by simp [hl], fun i x hx => ?_⟩
    rw [List.getElem?_append] at hx
    split at hx
    · exact hq i x hx
    · have hi : i = n := by
        by_cases e : i - l.length = 0
        · omega
        · exfalso
          rw [List.getElem?_eq_none (by simp; omega)] at hx
          cases hx
      subst hi
      rw [hl, Nat.sub_self] at hx
      simp at hx
      subst hx
      exact ho
theorem weightsAll_mem {H : Type} {P : Program} {e : TypeId} {x : DataW H} : ∀ {elems : List (DataW H)}, x ∈ elems → ∀ n ∈ x.weights P e, n ∈ DataW.weightsAll P e elems
  | d :: r, h, n, hn => by
    simp only [DataW.weightsAll, List.mem_append]
    rcases List.mem_cons.1 h with rfl | h
    · exact Or.inl hn
    · exact Or.inr (weightsAll_mem h n hn)
theorem plainSpot {w : World} {a : Addr} {v : Value} (h : w.cell? (a.add 0) = some v) : ∃ b off, a = ⟨b, off, none⟩ := by
  obtain ⟨b, off, s⟩ := a
  have hs : s = none := by simpa [Addr.add] using World.cell?_spot h
  subst hs
  exact ⟨b, off, rfl⟩
theorem int_fits {n : Int} (h : (Lit.int .i64 n).wf = true) : -9223372036854775808 ≤ n ∧ n ≤ 9223372036854775807 := by
  have h1 : IntKind.i64.min = -9223372036854775808 := rfl
  have h2 : IntKind.i64.max = 9223372036854775807 := rfl
  simp only [Lit.wf, Bool.and_eq_true, decide_eq_true_eq] at h
  omega
theorem cell_lt {w : World} {b o : Nat} {v : Value} (h : w.cell? ⟨b, o, none⟩ = some v) : b < w.heap.size := by
  apply Classical.byContradiction
  intro hn
  have : w.heap[b]? = none := Array.getElem?_eq_none (by omega)
  simp [World.cell?, this] at h
end Go.Proofs.YtpjpknndfhablaaGreat
namespace Go.Proofs.YtpjpknndfhablaaGreat
open Go.ChangeShapes Go.WideShapes Go.ChangeAt Go.RowKit Go.Deep
theorem open_texts {H : Type} {enc : TypeId × Value → H} {W : World} {sp : Nat → Bool} {held : Bool} {ts : List TypeId} {ds : List (DataW H)} (hsz : (DataW.weightsEach Tryz.prog ts ds).all (· ≤ reachBytes) = true) {j : Nat} {a0 : Option Addr} {len cap : Nat} {d : DataW H} {p : List MemPlace}
    (ht : ts[j]? = some 22) (hd : ds[j]? = some d) (h : DataW.Trod enc Tryz.prog W 0 sp held 22 (.slice a0 len cap) d p) :
    ∃ l, l.length = len ∧ Texts W a0 l ∧ ∀ s ∈ l, s.length ≤ 140737488355328 := by
  obtain ⟨fuel, hf⟩ := h
  rcases open_strings Tryz.underlying22 Tryz.underlying9 Tryz.cellsText hf with ⟨hcs, _⟩ | ⟨a, len', cap', ss, hcs, _, hl, hm, hn, hx, hc, _⟩
  · simp [Value.cells] at hcs
    obtain ⟨rfl, rfl, rfl⟩ := hcs
    exact ⟨[], rfl, ⟨by simp, by simp⟩, fun s hs => by cases hs⟩
  · simp [Value.cells] at hcs
    obtain ⟨rfl, rfl, rfl⟩ := hcs
    simp only [Prod.mk.injEq] at hx
    obtain ⟨rfl, _⟩ := hx
    have hle : len ≤ ss.length := by rw [hn]; split <;> omega
    have hs : ∀ s ∈ ss.take len, s.data.toList.length ≤ 140737488355328 := fun s hs => by
      have : s.data.toList.length ≤ reachBytes := by
        refine of_decide_eq_true (List.all_eq_true.1 hsz _ (DataW.weights_mem_each ht hd _ ?_))
        simp only [DataW.weights, Tryz.underlying22, List.mem_cons, List.mem_append]
        refine Or.inr (Or.inl (weightsAll_mem (x := .lit (.string s.data.toList)) (List.mem_map.2 ⟨s, hs, rfl⟩) _ ?_))
        simp [DataW.weights]
      exact Nat.le_trans this (by simp [reachBytes])
    refine ⟨(ss.take len).map (·.data.toList), by simp; omega, ⟨by simp only [List.length_map, List.length_take]; simp [maxLen] at hm; omega, fun i s hi => ?_⟩, fun s hi => ?_⟩
    · rw [List.getElem?_map, List.getElem?_take] at hi
      split at hi
      case isTrue hil =>
        have hb := hc i (by omega)
        rw [List.getElem?_eq_getElem (by omega)] at hi
        simp at hi
        subst hi
        obtain ⟨b, off, rfl⟩ := plainSpot (hc 0 (by omega))
        refine ⟨b, off, rfl, ?_⟩
        rw [← add_plain, hb]
        simp [List.getD, List.getElem?_eq_getElem (show i < ss.length by omega)]
      case isFalse => cases hi
    · obtain ⟨s', hs', rfl⟩ := List.mem_map.1 hi
      exact hs s' hs'
set_option maxRecDepth 100000 in
theorem storeOpens_lifted (os : Os) (started : os.Started) (H : Type) (enc : TypeId × Value → H) :
    ReturnsInHanded {} Tryz.checked os 3 .any (Rows.storeOpensSpec.pre6 enc Tryz.prog Tryz.f3 Rows.storeOpensRow.domain false) (Rows.storeOpensSpec.post enc Tryz.prog Tryz.f3 false true false false) := by
  refine returnsInHanded_of_change_sized (C := Tryz.checked) Tryz.own started (by kernel_rfl) Tryz.func3
    (ChangeSpec.witness6 (enc := enc) (C := Tryz.checked) false ⟨#[], #[.slice none 0 0], []⟩ 8 (by kernel_rfl) (by kernel_rfl) (by kernel_rfl) (by kernel_rfl)) ?_
  intro W base args ds gs before hval0 hW _ hsz0 _
  have hsz : (DataW.weightsEach Tryz.prog (Tryz.f3.params.toList ++ Rows.storeOpensSpec.plain.varTypes Tryz.prog) (ds ++ gs)).all (· ≤ reachBytes) = true := hsz0
  clear hsz0
  have hval : ∀ (j : Nat) t v, Tryz.f3.params[j]? = some t → args[j]? = some v → Value.okWide Tryz.prog W .any base t v := hval0
  have hW' := hW
  obtain ⟨p, q, hA0, hV, rfl, _, _⟩ := hW
  have hA : DataW.TrodAll enc Tryz.prog W 0 (fun _ => true) true Tryz.f3.params.toList args.toList ds p := hA0
  rw [Tryz.params3] at hA hval hsz
  obtain ⟨v0, d0, rfl, rfl, h0⟩ := trodAll_one hA
  obtain ⟨rfl, rfl⟩ := trodVars_none hV
  obtain ⟨a0, len, cap, rfl⟩ := okWide_slice Tryz.underlying22 (hval 0 22 v0 rfl rfl)
  obtain ⟨l, hl, hT, _⟩ := open_texts hsz (j := 0) rfl rfl h0
  subst hl
  clear hA0 hval0
  simp only [List.append_nil] at hW'
  have hlt0 : ∀ x ∈ p, x.block < W.heap.size := fun x hx => hW'.lt x (by simp [hx])
  refine (storeOpens_any W a0 cap l hT).mono fun e W' ⟨he, hnx⟩ => ?_
  subst he
  refine ⟨_, rfl, _, _, _, [], p, [], hW', ?_, ?_, rfl, ?_⟩
  · exact trodAll_mk1 (shut_bool Tryz.underlying4 true)
  · exact trodAll_mk1 (Below.trod Tryz.laidOut (by kernel_rfl) (of_decide_eq_true (by kernel_rfl)) h0 hnx hlt0)
  · exact ⟨hnx.frame _, fun h => by cases h⟩
theorem storeOpens_holds : Rows.StoreOpensSaid :=
  OpenClaim.holds_of_wide 3 Tryz.f3 rfl rfl rfl rfl rfl rfl rfl ⟨rfl, rfl, rfl, rfl, rfl⟩ rfl rfl rfl rfl rfl (by kernel_rfl) Tryz.func3 (by kernel_rfl)
    (of_decide_eq_true (by kernel_rfl)) (by unfold Func.isWrapper; first | (rw [if_pos (by decide +kernel)]; kernel_rfl) | (rw [if_neg (by decide +kernel)]; exact ⟨rfl, rfl⟩))
    (fun os started H enc _ => storeOpens_lifted os started H enc)
end Go.Proofs.YtpjpknndfhablaaGreat
