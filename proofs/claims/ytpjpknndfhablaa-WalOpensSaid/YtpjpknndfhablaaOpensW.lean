/- Walk of WalOpens. -/
import Derived.Test.YtpjpknndfhablaaTwin
import Derived.Test.YtpjpknndfhablaaArg
namespace Go.Proofs.Ytpjpknndfhablaa
open Go.RowKit
/-- A disk of the program and the document's, made since w0. -/
structure Two2 (w0 w : World) (c y : Nat) (d g : DS) (m : Nat) : Prop where
  old : Below w0.heap.size w0 w
  lo : w0.heap.size ≤ c ∧ w0.heap.size ≤ y
  out : ∃ rb ub, DiskAt w c d m rb ∧ (∀ k, rb = some k → w0.heap.size ≤ k) ∧ RefAt w y g ub
theorem Two2.below {w0 w w' : World} {c y : Nat} {d g : DS} {m : Nat} (h : Two2 w0 w c y d g m) (hb : Below w.heap.size w w') : Two2 w0 w' c y d g m := by
  obtain ⟨rb, ub, h1, h2, h3⟩ := h.out
  exact ⟨h.old.trans (hb.mono h.old.size), h.lo, rb, ub, h1.below hb, h2, h3.below hb⟩
theorem Two2.turnD {w0 w w' : World} {c y : Nat} {d g d' : DS} {m m' : Nat} (h : Two2 w0 w c y d g m) {rb ub rb' : Option Nat} (h1 : DiskAt w c d m rb) (h2 : ∀ k, rb = some k → w0.heap.size ≤ k) (h3 : RefAt w y g ub) (hd : DiskAt w' c d' m' rb') (hn : Newer w rb rb') (ht : Touch (own2 c rb) w w') : Two2 w0 w' c y d' g m' ∧ KeepsOff diskT w w' := by
  have hk := KeepsOff.of_touch h1.typed ht
  refine ⟨⟨h.old.trans (ht.below h.old.size (fun k hk e => ?_)), h.lo, rb', ub, hd, fun k hk => ?_, h3.keepsOff hk (by decide) (by decide)⟩, hk⟩
  · have := h.lo.1
    rcases e with rfl | e
    · omega
    · have := h2 k e; omega
  · rcases hn k hk with e | e
    · exact h2 k e
    · exact Nat.le_trans h.old.size e
theorem Two2.turnR {w0 w w' : World} {c y : Nat} {d g g' : DS} {m : Nat} (h : Two2 w0 w c y d g m) {rb ub ub' : Option Nat} (h1 : DiskAt w c d m rb) (h2 : ∀ k, rb = some k → w0.heap.size ≤ k) (h3 : RefAt w y g ub) (hd : RefAt w' y g' ub') (ht : Touch (· = y) w w') : Two2 w0 w' c y d g' m ∧ KeepsOff [75] w w' := by
  have hk := KeepsOff.of_touch h3.typed ht
  exact ⟨⟨h.old.trans (ht.below h.old.size (fun k hk e => by subst e; have := h.lo.2; omega)), h.lo, rb, ub', h1.keepsOff hk (by decide) (by decide), h2, hd⟩, hk⟩
section
variable {w0 w : World} {c y : Nat} {d g : DS} {m : Nat} (h : Two2 w0 w c y d g m)
include h
theorem arm_t2 (n k : Int) (hn : n ≤ 9223372036854775807) (hk : k ≤ 9223372036854775807) : Calls Try.prog 30 #[.pointer (some ⟨c, 0, none⟩), .int .i64 n, .int .i64 k] w fun e w' => e = .returned (.int .i64 (d.arm n k).2) ∧ Two2 w0 w' c y (d.arm n k).1 g m ∧ KeepsOff diskT w w' := by
  obtain ⟨rb, ub, h1, h2, h3⟩ := h.out
  exact (arm_any c w d m rb n k h1 hn hk).mono fun e w' ⟨he, h', ht⟩ => ⟨he, h.turnD h1 h2 h3 h' (Newer.refl _ _) ht⟩
theorem rarm_t2 (n k : Int) (hn : n ≤ 9223372036854775807) (hk : k ≤ 9223372036854775807) : Calls Try.prog 42 #[.pointer (some ⟨y, 0, none⟩), .int .i64 n, .int .i64 k] w fun e w' => e = .returned (.int .i64 (g.arm n k).2) ∧ Two2 w0 w' c y d (g.arm n k).1 m ∧ KeepsOff [75] w w' := by
  obtain ⟨rb, ub, h1, h2, h3⟩ := h.out
  exact (rarm_any y w g ub n k h3 hn hk).mono fun e w' ⟨he, h', ht⟩ => ⟨he, h.turnR h1 h2 h3 h' ht⟩
theorem revive_t2 : Calls Try.prog 45 #[.pointer (some ⟨c, 0, none⟩)] w fun e w' => e = .returned (.tuple #[]) ∧ Two2 w0 w' c y d.revive g m ∧ KeepsOff diskT w w' := by
  obtain ⟨rb, ub, h1, h2, h3⟩ := h.out
  exact (revive_any c w d m rb h1).mono fun e w' ⟨he, h', ht⟩ => ⟨he, h.turnD h1 h2 h3 h' (Newer.refl _ _) ht⟩
theorem rrevive_t2 : Calls Try.prog 46 #[.pointer (some ⟨y, 0, none⟩)] w fun e w' => e = .returned (.tuple #[]) ∧ Two2 w0 w' c y d g.revive m ∧ KeepsOff [75] w w' := by
  obtain ⟨rb, ub, h1, h2, h3⟩ := h.out
  exact (rrevive_any y w g ub h3).mono fun e w' ⟨he, h', ht⟩ => ⟨he, h.turnR h1 h2 h3 h' ht⟩
end
theorem opened_t2 {w0 w : World} {c y : Nat} {d : DS} {m : Nat} (h : Two2 w0 w c y d d m) : Calls Try.prog 43 #[.pointer (some ⟨c, 0, none⟩), .pointer (some ⟨y, 0, none⟩)] w fun e w' => ∃ v u d', e = .returned (.tuple #[v, u, .bool true]) ∧ Two2 w0 w' c y d' d' m := by
  obtain ⟨rb, ub, h1, h2, h3⟩ := h.out
  refine (opened_any c y w d m rb ub h1 h3).mono fun e w' ⟨v, u, he, hb⟩ => ?_
  obtain ⟨rb', ub', a1, a2, a3, a4, _⟩ := hb.disks
  refine ⟨v, u, _, he, ⟨h.old.trans (hb.touch.below h.old.size (fun k hk e => ?_)), h.lo, rb', ub', a1, fun k hk => ?_, a2⟩⟩
  · have := h.lo
    rcases e with (rfl | e) | rfl
    · omega
    · have := h2 k e; omega
    · omega
  · rcases a3 k hk with e | e
    · exact h2 k e
    · exact Nat.le_trans h.old.size e
theorem twos_texts {w : World} {g : Nat} {s t : List UInt8} (h : Two w g s t) : Texts w (some ⟨g, 0, none⟩) [s, t] := by
  obtain ⟨h0, h1, _⟩ := h.cells
  refine ⟨by simp, fun i x hi => ⟨g, 0, rfl, ?_⟩⟩
  match i, hi with
  | 0, hi => simp at hi; subst hi; exact h0
  | 1, hi => simp at hi; subst hi; exact h1
set_option maxHeartbeats 8000000 in
set_option maxRecDepth 100000 in
theorem walOpens_any (w : World) (ao : Option Addr) (ca : Nat) (l : List (List UInt8)) (hT : Texts w ao l) (on k a b : Int) (s : List UInt8) (ha : a ≤ 9223372036854775807) (hb : b ≤ 9223372036854775807) :
    Calls Try.prog 9 #[.slice ao l.length ca, .agg #[.int .i64 on, .int .i64 k, .int .i64 a, .int .i64 b, .string ⟨s.toArray⟩]] w fun e w' => e = .returned (.bool true) ∧ Below w.heap.size w w' := by
  have HT := Lib.hid hT
  clear hT
  go_enter Try.func9, Try.ntmps9
  go_wp2_with fail
  obtain ⟨B3, hB3⟩ : ∃ B, w.heap.size = B := ⟨_, rfl⟩
  obtain ⟨wa, hwa⟩ : ∃ W, w.alloc (.cells #[.int .i64 on, .int .i64 k, .int .i64 a, .int .i64 b, .string ⟨s.toArray⟩] 65) = W := ⟨_, rfl⟩
  have hop := heap_new w (.cells #[.int .i64 on, .int .i64 k, .int .i64 a, .int .i64 b, .string ⟨s.toArray⟩] 65)
  have hba := balloc w (.cells #[.int .i64 on, .int .i64 k, .int .i64 a, .int .i64 b, .string ⟨s.toArray⟩] 65)
  rw [hwa, hB3] at hop
  rw [hwa] at hba
  try rw [hwa]
  try rw [hB3]
  have HBA := Lib.hid hba
  have HOP := Lib.hid hop
  clear hB3 hwa hop hba
  refine (new_any wa ao ca l (HT.out.below HBA.out)).mono ?_
  rintro e w1 ⟨hb1, ⟨hn, rfl⟩ | ⟨d, c, hd, rfl, hc, hat⟩⟩
  · have HN := Lib.hid hn
    have HB1 := Lib.hid (bthen HBA.out hb1)
    clear hn hb1
    go_wp2_with fail
    refine (rnew_any w1 ao ca l (HT.out.below HB1.out)).mono ?_
    rintro e w2 ⟨hb2, ⟨_, rfl⟩ | ⟨d, c, hd, _⟩⟩
    · have HB2 := Lib.hid (bthen HB1.out hb2)
      clear hb2
      go_wp2_with fail
      refine (fixed10_any w2).mono ?_
      rintro e w3 ⟨rfl, hb3⟩
      have HB3 := Lib.hid (bthen HB2.out hb3)
      clear hb3
      go_wp2
      go_ret
      exact ⟨rfl, HB3.out⟩
    · rw [HN.out] at hd; cases hd
  · have HDM := Lib.hid hd
    have HB1 := Lib.hid (bthen HBA.out hb1)
    have HAT := Lib.hid hat
    have HC := Lib.hid (Nat.le_trans HBA.out.size hc)
    have HOP1 := Lib.hid (stays HOP.out hb1)
    clear hd hb1 hat hc
    go_wp2_with fail
    refine (rnew_any w1 ao ca l (HT.out.below HB1.out)).mono ?_
    rintro e w2 ⟨hb2, ⟨hn, _⟩ | ⟨d', y, hd', rfl, hy, hat2⟩⟩
    · rw [HDM.out] at hn; cases hn
    obtain rfl : d = d' := by rw [HDM.out] at hd'; exact Option.some.inj hd'
    have H2 : Hid (Two2 w w2 c y d d 0) := ⟨bthen HB1.out hb2, ⟨HC.out, Nat.le_trans HB1.out.size hy⟩, none, none, HAT.out.below hb2, (fun k hk => by cases hk), hat2⟩
    have HOP2 := Lib.hid (stays HOP1.out hb2)
    clear hb2 hd' hy hat2
    obtain ⟨o, E, r, hO⟩ : ∃ o E r, Wal.new d = (o, E, r) := ⟨_, _, _, rfl⟩
    have HO := Lib.hid hO
    clear hO
    go_wp2_with fail
    obtain ⟨rb, ub, h1, h2, h3⟩ := H2.out.out
    refine (clone_any c w2 d 0 rb h1 (by decide)).mono ?_
    clear h1 h2 h3
    rintro e w3 ⟨c', rb', rfl, hc', hcl, hr', b3⟩
    have HCL := Lib.hid hcl
    have B3' := Lib.hid b3
    have HNC := Lib.hid (And.intro hc' hr')
    clear hc' hcl hr' b3
    go_wp2_with fail
    have hw := wnew_any c' w3 d 0 rb' HCL.out (by decide)
    rw [HO.out] at hw
    refine hw.mono ?_
    clear hw
    rintro e w4 ⟨v, rfl, hs4, hn4, rb4, _, _, ht4, _⟩
    have B24 : Hid (Below w2.heap.size w2 w4) := Lib.hid (B3'.out.trans (ht4.below B3'.out.size (fun k hk e => by
      obtain ⟨n1, n2⟩ := HNC.out
      rcases e with rfl | e
      · omega
      · have := n2 k e; omega)))
    have H4 := Lib.hid (H2.out.below B24.out)
    have HS4 := Lib.hid hs4
    have HN4 := Lib.hid hn4
    clear hs4 hn4 ht4
    go_wp2_with fail
    obtain ⟨rb, ub, h1, h2, h3⟩ := H4.out.out
    refine (rcopy_any y w4 d ub h3).mono ?_
    clear h1 h2 h3
    rintro e w5 ⟨y', rfl, hy', hcp, b5⟩
    have HCP := Lib.hid hcp
    have B5 := Lib.hid b5
    have HNY := Lib.hid hy'
    clear hcp b5 hy'
    go_wp2_with fail
    have hw := rnewL_any y' w5 d ub HCP.out
    rw [HO.out] at hw
    refine hw.mono ?_
    clear hw
    rintro e w6 ⟨v2, rfl, hs6, hn6, ub6, _, _, ht6⟩
    have B46 : Hid (Below w4.heap.size w4 w6) := Lib.hid (B5.out.trans (ht6.below B5.out.size (fun k hk e => by have := HNY.out; subst e; omega)))
    have H6 := Lib.hid (H4.out.below B46.out)
    have HOP6 := Lib.hid (stays (stays HOP2.out B24.out) B46.out)
    have hcase : (v = .pointer none ∧ v2 = .pointer none) ∨ ∃ x z : Nat, v = .pointer (some ⟨x, 0, none⟩) ∧ v2 = .pointer (some ⟨z, 0, none⟩) := by
      cases o with
      | none => exact .inl ⟨HN4.out rfl, hn6 rfl⟩
      | some q =>
        obtain ⟨x, rfl, _⟩ := HS4.out q rfl
        obtain ⟨z, rfl, _⟩ := hs6 q rfl
        exact .inr ⟨x, z, rfl, rfl⟩
    have m2 := cell_of (i := 2) HOP6.out rfl
    have m3 := cell_of (i := 3) HOP6.out rfl
    clear hs6 hn6 ht6 HS4 HN4
    rcases hcase with ⟨rfl, rfl⟩ | ⟨x, z, rfl, rfl⟩
    · go_wp2_with fail
      go_region_held3 (fun w' => w'.cell? ⟨B3, 2, none⟩ = some (.int .i64 a) ∧ w'.cell? ⟨B3, 3, none⟩ = some (.int .i64 b))
        (first | exact ⟨m2, m3⟩ | exact ⟨y2, y3⟩ | exact ⟨z2, z3⟩)
        (first
          | (go_at_call 30; have hx := H6.out.below (Below.refl _ _).drew; clear H6; refine (arm_t2 hx a b ha hb).mono ?_; rintro e1 w7 ⟨rfl, pa, ka⟩; have PA := Lib.hid pa; have HOA := Lib.hid (ka.cells (show (World.drew _).heap[B3]? = _ from HOP6.out) (by decide)); have y2 := cell_of (i := 2) HOA.out rfl; have y3 := cell_of (i := 3) HOA.out rfl; clear pa ka hx)
          | (go_at_call 42; refine (rarm_t2 PA.out a b ha hb).mono ?_; rintro e2 w8 ⟨rfl, pb, kb⟩; have PB := Lib.hid pb; have HOB := Lib.hid (kb.cells HOA.out (by decide)); have z2 := cell_of (i := 2) HOB.out rfl; have z3 := cell_of (i := 3) HOB.out rfl; clear pb kb))
      clear m2 m3 y2 y3 z2 z3
      obtain ⟨da, hda⟩ : ∃ D, (d.arm a b).1 = D := ⟨_, rfl⟩
      rw [hda] at PB
      clear hda
      go_wp2
      go_loopw [13] (fun i wr => ∃ (j : Nat) (d' : DS), i = .int .i64 j ∧ j ≤ 3 ∧ Two2 w wr c y d' d' 0) (fun i _ => 3 - (intOf i).toNat)
      case atStart => exact ⟨0, da, rfl, by omega, PB.out⟩
      case round =>
        obtain ⟨j, d', rfl, hj, ht⟩ := hrel
        have HR := Lib.hid ht
        clear ht
        by_cases hlt : j < 3
        · go_wp2_with fail
          refine (opened_t2 HR.out).mono ?_
          rintro e w9 ⟨v9, u9', d9, rfl, h9⟩
          have H9 := Lib.hid h9
          obtain ⟨rb9, ub9, g1, _, g3⟩ := h9.out
          obtain ⟨hok9, us9, hr9, _⟩ := g3
          obtain ⟨_, _, _, _, _, c5, _, _⟩ := hr9.cells
          have G1 := Lib.hid g1
          have GR := Lib.hid hr9
          have HOK := Lib.hid hok9
          have HBB : Hid (∀ w' : World, Below w9.heap.size w9 w' → (Below w9.heap.size w9 w' ∧ w'.cell? ⟨y, 5, none⟩ = some (.bool d9.dead))) := fun w' hb => ⟨hb, cell_later hb c5⟩
          clear h9 g1 hr9 hok9
          go_wp2_with fail
          go_region_held3 (fun w' => Below w9.heap.size w9 w' ∧ w'.cell? ⟨y, 5, none⟩ = some (.bool d9.dead))
            (first | exact HBB.out _ (Below.refl _ _).drew | exact HBB.out _ (bthen (by assumption : Below w9.heap.size w9 _ ∧ _).1 (by assumption)))
            (first
              | (go_at_call 15; refine (files_any c _ d9 0 rb9 (G1.out.below (by assumption : Below w9.heap.size w9 _ ∧ _).1)).mono ?_; rintro e wc ⟨q1, rfl, _, t1, hb⟩; have T1 := Lib.hid t1; clear t1)
              | (go_at_call 44; refine (rfiles_any y _ d9 us9 (GR.out.below (by assumption : Below w9.heap.size w9 _ ∧ _).1) HOK.out).mono ?_; rintro e wd ⟨q2, rfl, _, t2, hb⟩; have T2 := Lib.hid t2; have T3 := Lib.hid (T1.out.below hb); clear t2)
              | (go_at_call 18; refine (same_any _ _ _ 2 2 _ _ (twos_texts T3.out) (twos_texts T2.out)).mono ?_; rw [show decide ([d9.file false, d9.file true] = [d9.file false, d9.file true]) = true from decide_eq_true rfl]; rintro e we ⟨rfl, hb⟩)
              | (go_at_call 32; refine (dead_any c _ d9 0 rb9 (G1.out.below (by assumption : Below w9.heap.size w9 _ ∧ _).1)).mono ?_; rintro e wf ⟨rfl, rfl⟩; have hb := Below.refl we.heap.size we))
          rename_i hheld
          have H10 := Lib.hid (H9.out.below hheld.1)
          clear hheld c5
          go_wp2_with fail
          refine (revive_t2 H10.out).mono ?_
          rintro e wg ⟨rfl, hg, _⟩
          have HG := Lib.hid hg
          clear hg
          go_wp2_with fail
          refine (rrevive_t2 HG.out).mono ?_
          rintro e wh ⟨rfl, hh, _⟩
          have HH := Lib.hid hh
          clear hh
          go_wp2
          go_roundw
          case rel => exact ⟨j + 1, _, by go_num, by omega, HH.out⟩
          case measure => simp [intOf]; omega
        · obtain rfl : j = 3 := by omega
          go_wp2_with fail
          refine (fixed10_any wr).mono ?_
          rintro e wf ⟨rfl, bf⟩
          have BF := Lib.hid (HR.out.below bf)
          clear bf
          go_wp2
          go_ret
          exact ⟨rfl, BF.out.old⟩
    · go_wp2_with fail
      go_region_held3 (fun w' => w'.cell? ⟨B3, 2, none⟩ = some (.int .i64 a) ∧ w'.cell? ⟨B3, 3, none⟩ = some (.int .i64 b))
        (first | exact ⟨m2, m3⟩ | exact ⟨y2, y3⟩ | exact ⟨z2, z3⟩)
        (first
          | (go_at_call 30; have hx := H6.out.below (Below.refl _ _).drew; clear H6; refine (arm_t2 hx a b ha hb).mono ?_; rintro e1 w7 ⟨rfl, pa, ka⟩; have PA := Lib.hid pa; have HOA := Lib.hid (ka.cells (show (World.drew _).heap[B3]? = _ from HOP6.out) (by decide)); have y2 := cell_of (i := 2) HOA.out rfl; have y3 := cell_of (i := 3) HOA.out rfl; clear pa ka hx)
          | (go_at_call 42; refine (rarm_t2 PA.out a b ha hb).mono ?_; rintro e2 w8 ⟨rfl, pb, kb⟩; have PB := Lib.hid pb; have HOB := Lib.hid (kb.cells HOA.out (by decide)); have z2 := cell_of (i := 2) HOB.out rfl; have z3 := cell_of (i := 3) HOB.out rfl; clear pb kb))
      clear m2 m3 y2 y3 z2 z3
      obtain ⟨da, hda⟩ : ∃ D, (d.arm a b).1 = D := ⟨_, rfl⟩
      rw [hda] at PB
      clear hda
      go_wp2
      go_loopw [13] (fun i wr => ∃ (j : Nat) (d' : DS), i = .int .i64 j ∧ j ≤ 3 ∧ Two2 w wr c y d' d' 0) (fun i _ => 3 - (intOf i).toNat)
      case atStart => exact ⟨0, da, rfl, by omega, PB.out⟩
      case round =>
        obtain ⟨j, d', rfl, hj, ht⟩ := hrel
        have HR := Lib.hid ht
        clear ht
        by_cases hlt : j < 3
        · go_wp2_with fail
          refine (opened_t2 HR.out).mono ?_
          rintro e w9 ⟨v9, u9', d9, rfl, h9⟩
          have H9 := Lib.hid h9
          obtain ⟨rb9, ub9, g1, _, g3⟩ := h9.out
          obtain ⟨hok9, us9, hr9, _⟩ := g3
          obtain ⟨_, _, _, _, _, c5, _, _⟩ := hr9.cells
          have G1 := Lib.hid g1
          have GR := Lib.hid hr9
          have HOK := Lib.hid hok9
          have HBB : Hid (∀ w' : World, Below w9.heap.size w9 w' → (Below w9.heap.size w9 w' ∧ w'.cell? ⟨y, 5, none⟩ = some (.bool d9.dead))) := fun w' hb => ⟨hb, cell_later hb c5⟩
          clear h9 g1 hr9 hok9
          go_wp2_with fail
          go_region_held3 (fun w' => Below w9.heap.size w9 w' ∧ w'.cell? ⟨y, 5, none⟩ = some (.bool d9.dead))
            (first | exact HBB.out _ (Below.refl _ _).drew | exact HBB.out _ (bthen (by assumption : Below w9.heap.size w9 _ ∧ _).1 (by assumption)))
            (first
              | (go_at_call 15; refine (files_any c _ d9 0 rb9 (G1.out.below (by assumption : Below w9.heap.size w9 _ ∧ _).1)).mono ?_; rintro e wc ⟨q1, rfl, _, t1, hb⟩; have T1 := Lib.hid t1; clear t1)
              | (go_at_call 44; refine (rfiles_any y _ d9 us9 (GR.out.below (by assumption : Below w9.heap.size w9 _ ∧ _).1) HOK.out).mono ?_; rintro e wd ⟨q2, rfl, _, t2, hb⟩; have T2 := Lib.hid t2; have T3 := Lib.hid (T1.out.below hb); clear t2)
              | (go_at_call 18; refine (same_any _ _ _ 2 2 _ _ (twos_texts T3.out) (twos_texts T2.out)).mono ?_; rw [show decide ([d9.file false, d9.file true] = [d9.file false, d9.file true]) = true from decide_eq_true rfl]; rintro e we ⟨rfl, hb⟩)
              | (go_at_call 32; refine (dead_any c _ d9 0 rb9 (G1.out.below (by assumption : Below w9.heap.size w9 _ ∧ _).1)).mono ?_; rintro e wf ⟨rfl, rfl⟩; have hb := Below.refl we.heap.size we))
          rename_i hheld
          have H10 := Lib.hid (H9.out.below hheld.1)
          clear hheld c5
          go_wp2_with fail
          refine (revive_t2 H10.out).mono ?_
          rintro e wg ⟨rfl, hg, _⟩
          have HG := Lib.hid hg
          clear hg
          go_wp2_with fail
          refine (rrevive_t2 HG.out).mono ?_
          rintro e wh ⟨rfl, hh, _⟩
          have HH := Lib.hid hh
          clear hh
          go_wp2
          go_roundw
          case rel => exact ⟨j + 1, _, by go_num, by omega, HH.out⟩
          case measure => simp [intOf]; omega
        · obtain rfl : j = 3 := by omega
          go_wp2_with fail
          refine (fixed10_any wr).mono ?_
          rintro e wf ⟨rfl, bf⟩
          have BF := Lib.hid (HR.out.below bf)
          clear bf
          go_wp2
          go_ret
          exact ⟨rfl, BF.out.old⟩
end Go.Proofs.Ytpjpknndfhablaa
