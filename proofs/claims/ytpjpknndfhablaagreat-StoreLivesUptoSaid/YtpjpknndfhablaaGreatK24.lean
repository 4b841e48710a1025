/- The document's log: Open. The document's store: where it lies; New, Open. Printed by tools/gen_ropn.py. Walks of the law's own functions of chapter 11: laid, fixed. -/
import Derived.Test.YtpjpknndfhablaaGreatK4
import Derived.Test.YtpjpknndfhablaaGreatK8
import Derived.Test.YtpjpknndfhablaaGreatK14
import Derived.Test.YtpjpknndfhablaaGreatK18
import Derived.Test.YtpjpknndfhablaaGreatK21
import Derived.Test.YtpjpknndfhablaaGreatK22
import Derived.Test.YtpjpknndfhablaaGreatK23
namespace Go.Proofs.YtpjpknndfhablaaGreat
open Go.RowKit
/-- How the document's Open ends. -/
def ROpenEnds (y : Nat) (w : World) (o : Option Wal.Opened) (d' : DS) (ub : Option Nat) (r : Int) (e : Ending) (w' : World) : Prop :=
  ∃ v s rv, e = .returned (.tuple #[v, .string s, rv, .int .i64 r]) ∧
    (∀ q, o = some q → s = ⟨q.snap.toArray⟩ ∧ (∃ g cap, rv = .slice (some ⟨g, 0, none⟩) q.rs.length cap ∧ w'.ownsRow w.heap.size 9 1 rv q.rs.length (strs q.rs)) ∧ ∃ x, v = .pointer (some ⟨x, 0, none⟩) ∧ w.heap.size ≤ x ∧ RlogAt w' x y q.l) ∧
    (o = none → v = .pointer none ∧ s = ⟨#[]⟩ ∧ rv = .slice none 0 0) ∧ ∃ ub', RefAt w' y d' ub' ∧ Newer w ub ub' ∧ Touch (· = y) w w'
theorem ROpenEnds.refused {y : Nat} {w w' : World} {d : DS} {ub ub' : Option Nat} {r : Int} (h : RefAt w' y d ub') (hn : Newer w ub ub') (ht : Touch (· = y) w w') : ROpenEnds y w none d ub r (.returned (.tuple #[.pointer none, .string ⟨#[]⟩, .slice none 0 0, .int .i64 r])) w' :=
  ⟨_, _, _, rfl, (fun _ h => by cases h), fun _ => ⟨rfl, rfl, rfl⟩, ub', h, hn, ht⟩
/-- What stands in the loop of the document's Open. -/
structure RReadAt (W9 wr : World) (G : List UInt8) (p0 : Nat) (v : Value) (p : Nat) (pre : List (List UInt8)) : Prop where
  old : Below W9.heap.size W9 wr
  row : wr.ownsRow W9.heap.size 9 1 v pre.length (strs pre)
  some_ : ∃ g n cap, v = .slice (some ⟨g, 0, none⟩) n cap
  on : Wal.Onward G p0 p pre
  many : pre.length * 8 ≤ p
  le : p ≤ G.length
theorem RReadAt.slice {W9 wr : World} {G : List UInt8} {p0 : Nat} {v : Value} {p : Nat} {pre : List (List UInt8)} (h : RReadAt W9 wr G p0 v p pre) : ∃ g cap, v = .slice (some ⟨g, 0, none⟩) pre.length cap := by
  rcases h.row.2 with ⟨hv, h0⟩ | ⟨g, cap, cur, hv, _⟩
  · obtain ⟨g, n, cap, h'⟩ := h.some_
    rw [hv] at h'
    cases h'
  · exact ⟨g, cap, hv⟩
theorem rread_start (W9 : World) (G : List UInt8) (p0 : Nat) (hle : p0 ≤ G.length) {WL : World} (h : WL = W9.alloc (.cells #[] 9)) : RReadAt W9 WL G p0 (.slice (some ⟨W9.heap.size, 0, none⟩) 0 0) p0 [] := by
  subst h
  exact ⟨balloc _ _, ⟨rfl, .inr ⟨W9.heap.size, 0, #[], rfl, Nat.le_refl _, heap_new W9 _, Nat.le_refl _, by decide, rfl, rfl⟩⟩, ⟨_, _, _, rfl⟩, Wal.Onward.start G p0, by simp, hle⟩
theorem rread_step {W9 wr w' w1 : World} {G : List UInt8} {p0 : Nat} {v v' : Value} {p : Nat} {pre : List (List UInt8)} (h : RReadAt W9 wr G p0 v p pre) (hb : Below wr.heap.size wr w') {s : List UInt8} (hs : Wal.whole G p 65536 = (s, true))
    (ho : w1.ownsRow W9.heap.size 9 1 v' (pre.length + 1) (strs pre ++ [.string ⟨s.toArray⟩])) (hg : (w'.alloc (.cells #[.string ⟨s.toArray⟩] 9)).grownBy w1 v.ownBlock) : RReadAt W9 w1 G p0 v' (p + 8 + s.length) (pre ++ [s]) := by
  have hlt : ∀ k, v.ownBlock = some k → W9.heap.size ≤ k := fun k hk => by
    rcases h.row.2 with ⟨hv, _⟩ | ⟨g, cap, cur, hv, hb, hg', _⟩
    · rw [hv] at hk; cases hk
    · rw [hv] at hk
      have e1 : g = k := Option.some.inj hk
      subst e1
      exact hb
  have ht : Touch (fun k => v.ownBlock = some k) wr w1 := Touch.trans (Touch.of_below (bthen hb (balloc w' _))) (touch_of_grown hg) (fun _ _ h => h)
  have hw := Wal.whole_le (file := G) (p := p) (most := 65536) (by rw [hs])
  rw [hs] at hw
  refine ⟨h.old.trans (ht.below h.old.size (fun k hk e => by have := hlt k e; omega)), ?_, ?_, h.on.step hs, ?_, hw.1⟩
  · rw [strs_snoc, List.length_append]
    exact ho
  · rcases ho.2 with ⟨_, h0⟩ | ⟨g, cap, cur, hv, _⟩
    · omega
    · exact ⟨g, _, cap, hv⟩
  · have := h.many
    simp only [List.length_append, List.length_cons, List.length_nil]
    omega
theorem own_lo {w : World} {base e size n : Nat} {v : Value} {xs : List Value} (h : w.ownsRow base e size v n xs) (k : Nat) (hk : v.ownBlock = some k) : base ≤ k := by
  rcases h.2 with ⟨hv, _⟩ | ⟨g, cap, cur, hv, hb, _⟩
  · rw [hv] at hk; cases hk
  · rw [hv] at hk
    have e1 : g = k := Option.some.inj hk
    subst e1
    exact hb
theorem own_base {w : World} {base base' e size n : Nat} {v : Value} {xs : List Value} (h : w.ownsRow base e size v n xs) (hb : base' ≤ base) : w.ownsRow base' e size v n xs := by
  refine ⟨h.1, ?_⟩
  rcases h.2 with h0 | ⟨g, cap, cur, hv, hb', rest⟩
  · exact .inl h0
  · exact .inr ⟨g, cap, cur, hv, Nat.le_trans hb hb', rest⟩
theorem ropen_done {w w6 : World} {B y gg cap : Nat} {E : DS} {ub ub6 : Option Nat} {l : Wal.LS} {s : List UInt8} {pre : List (List UInt8)} (row : w6.ownsRow B 9 1 (.slice (some ⟨gg, 0, none⟩) pre.length cap) pre.length (strs pre)) (hb : w.heap.size ≤ B)
    (hd : RefAt w6 y E ub6) (hn : Newer w ub ub6) (ht : Touch (· = y) w w6) :
    ROpenEnds y w (some ⟨l, s, pre⟩) E ub 0 (.returned (.tuple #[.pointer (some ⟨w6.heap.size, 0, none⟩), .string ⟨s.toArray⟩, .slice (some ⟨gg, 0, none⟩) pre.length cap, .int .i64 0])) (w6.alloc (rlogBlock y l)) := by
  refine ⟨_, _, _, rfl, fun q hq => ?_, (fun h => by cases h), ub6, hd.below (balloc _ _), hn, ht.alloc _⟩
  cases hq
  exact ⟨rfl, ⟨gg, cap, rfl, own_base (own_touch row (Touch.of_below (S := fun _ => False) (balloc _ _)) (fun _ _ h => h)) hb⟩, _, rfl, ht.size, heap_new w6 _⟩
set_option maxHeartbeats 4000000 in
set_option maxRecDepth 100000 in
theorem ropenL_any (y : Nat) (w : World) (d : DS) (ub : Option Nat) (h : RefAt w y d ub) :
    Calls Tryz.prog 52 #[.pointer (some ⟨y, 0, none⟩)] w (ROpenEnds y w (Wal.open_ d).1 (Wal.open_ d).2.1 ub (Wal.open_ d).2.2) := by
  have HD := Lib.hid h
  obtain ⟨hok, us, hr, _⟩ := h
  obtain ⟨_, _, _, _, _, c5, _, _⟩ := hr.cells
  have HR := Lib.hid hr
  clear hr
  cases hdd : d.dead with
  | true =>
    rw [hdd] at c5
    have HX : Hid (Wal.open_ d = (none, d, 2)) := Lib.hid (by unfold Wal.open_; rw [if_pos hdd])
    go_enter Tryz.func52, Tryz.ntmps52
    go_wp2_with fail
    refine bodyPost_ret (results_tmp4 rfl _ _ _) rfl ?_
    rw [HX.out]
    exact ROpenEnds.refused HD.out (Newer.refl _ _) (Touch.refl _ _)
  | false =>
    rw [hdd] at c5
    have HDD := Lib.hid hdd
    clear hdd
    obtain ⟨F0, hF0⟩ : ∃ F, d.file false = F := ⟨_, rfl⟩
    obtain ⟨F1, hF1⟩ : ∃ F, d.file true = F := ⟨_, rfl⟩
    have hl0 : F0.length ≤ 1048576 := by rw [← hF0]; exact hok.base_len' false
    have hl1 : F1.length ≤ 1048576 := by rw [← hF1]; exact hok.base_len' true
    have HF0 := Lib.hid hF0
    have HF1 := Lib.hid hF1
    clear hF0 hF1
    go_enter Tryz.func52, Tryz.ntmps52
    go_wp2_with fail
    refine (rfiles_any y _ d us HR.out hok).mono ?_
    rw [HF0.out, HF1.out]
    rintro e w2 ⟨q, rfl, hq, htwo, b2⟩
    have B2 := Lib.hid b2
    obtain ⟨cur, hcur, hc0, hc1⟩ := htwo
    have HQ := Lib.hid hcur
    have q0 := cell_of hcur hc0
    have q1 := cell_of hcur hc1
    clear b2 hcur
    obtain ⟨A, sa, pa, hA⟩ : ∃ A sa pa, Wal.counts F0 = (A, sa, pa) := ⟨_, _, _, rfl⟩
    obtain ⟨B, sb, pb, hB⟩ : ∃ B sb pb, Wal.counts F1 = (B, sb, pb) := ⟨_, _, _, rfl⟩
    have HA := Lib.hid hA
    have HB := Lib.hid hB
    clear hA hB
    go_wp2_with fail
    refine (rcounts_any F0 _ (by omega)).mono ?_
    rw [HA.out]
    rintro e W6 ⟨rfl, b6⟩
    have Q6 := Lib.hid (stays HQ.out b6)
    have B6 := Lib.hid (bthen B2.out b6)
    have r1 := cell_of Q6.out hc1
    clear b6 q0 q1
    go_wp2_with fail
    refine (rcounts_any F1 _ (by omega)).mono ?_
    rw [HB.out]
    rintro e W7 ⟨rfl, b7⟩
    have Q7 := Lib.hid (stays Q6.out b7)
    have B7 := Lib.hid (bthen B6.out b7)
    have HSZ7 := Lib.hid B7.out.size
    have hylt := HD.out.lt
    clear b7 r1
    by_cases hab : A < B
    · skip
      have HBEST : Hid (Wal.best d = true) := Lib.hid (by unfold Wal.best; rw [HF0.out, HF1.out, HA.out, HB.out]; exact decide_eq_true (by simpa using hab))
      have HSH : Hid (Wal.shown d = (B, sb, pb)) := Lib.hid (by unfold Wal.shown; rw [HBEST.out]; first | rw [HF0.out, HA.out] | rw [HF1.out, HB.out])
      have HSR : Hid (Wal.shownRecs d = Wal.recs F1 pb) := Lib.hid (by unfold Wal.shownRecs; rw [HBEST.out, HSH.out]; first | rw [HF0.out] | rw [HF1.out])
      by_cases hA0 : B = 0
      · exact absurd hA0 (by omega)
      · have hA0' : ((B : Int) == 0) = false := by simp; omega
        have HLE := Lib.hid (counts_le HB.out hA0)
        have hcI := hc1
        go_wp2_with fail
        obtain ⟨WL, hWL⟩ : ∃ WL, W7.alloc (.cells #[] 9) = WL := ⟨_, rfl⟩
        rw [hWL]
        have HST := Lib.hid (rread_start W7 F1 pb HLE.out.1 hWL.symm)
        clear hWL hA0'
        go_loopw [9, 14] (fun i v wr => ∃ p pre, i = .int .i64 (p : Nat) ∧ RReadAt W7 wr F1 pb v p pre) (fun i _ _ => F1.length + 1 - (intOf i).toNat)
        case atStart => exact ⟨_, _, rfl, HST.out⟩
        case round =>
          obtain ⟨p', pre, rfl, hr⟩ := hrel
          obtain ⟨gg, cap, hv⟩ := hr.slice
          subst hv
          have HRD := Lib.hid hr
          have hple := hr.le
          have hmany := hr.many
          obtain ⟨s, ok, hW⟩ : ∃ s ok, Wal.whole F1 p' 65536 = (s, ok) := ⟨_, _, rfl⟩
          have HW := Lib.hid hW
          have i2 := cell_of (stays Q7.out hr.old) hcI
          clear hr hW
          go_wp2_with fail
          refine (rwhole_any F1 p' 65536 _ (by omega) (by omega) (by decide)).mono ?_
          rw [HW.out]
          rintro e w' ⟨rfl, hb⟩
          cases ok with
          | true =>
            have hsl : p' + 8 + s.length ≤ F1.length := by have := (Wal.whole_le (file := F1) (p := p') (most := 65536) (by rw [HW.out])).1; rw [HW.out] at this; exact this
            have hs16 : s.length ≤ 1048576 := by omega
            have HB1 := Lib.hid hb
            clear hb i2
            go_wp2_with (first | (at_builtin; go_must (refine wpList_append_own2 _ rfl (.tmp 59) (.tmp 61) 22 rfl W7.heap.size 9 1 16 _ Tryz.stringInfo Tryz.underlying22 rfl (by decide) _ pre.length (strs pre) rfl (own_touch HRD.out.row (Touch.of_below (S := fun _ => False) (bthen HB1.out (balloc w' _))) (fun _ _ h => h)) ⟨w'.heap.size, 0, none⟩ 1 1 [.string ⟨s.toArray⟩] rfl rfl (fun i u hi => by rw [addr_add, Nat.zero_add]; exact cell_of (heap_new w' _) (by simpa using hi)) (by intro u hu; simp at hu; subst hu; rfl) (by unfold maxLen; omega) (by omega) (by have := HB1.out.size; have := HRD.out.old.size; simp; omega) ?_; intro v' w1 ho hgr _; have HO := Lib.hid ho; have HGR := Lib.hid hgr; clear ho hgr)))
            go_roundw
            case rel => exact ⟨p' + 8 + s.length, _, by go_num, rread_step HRD.out HB1.out HW.out HO.out HGR.out⟩
            case measure => simp [intOf]; omega
          | false =>
            have hrecs := HRD.out.on.done (by rw [HW.out])
            have HSRR : Hid (Wal.shownRecs d = (pre, p')) := Lib.hid (HSR.out.trans hrecs)
            have B9 := Lib.hid (bthen B7.out (bthen HRD.out.old hb))
            have HD9 := Lib.hid (HD.out.below B9.out)
            have Q9 := Lib.hid (stays (stays Q7.out HRD.out.old) hb)
            have ROW9 := Lib.hid (own_touch HRD.out.row (Touch.of_below (S := fun _ => False) hb) (fun _ _ h => h))
            have HT9 : Hid (Touch (· = y) w w') := Lib.hid (Touch.of_below B9.out)
            have hI9 := cell_of Q9.out hc1
            clear hb hrecs i2
            by_cases hlt : p' < F1.length
            · obtain ⟨r, hr⟩ : ∃ r, (d.cut 1 p').2 = r := ⟨_, rfl⟩
              obtain ⟨E, hE⟩ : ∃ E, (d.cut 1 p').1 = E := ⟨_, rfl⟩
              have HCE : Hid (Wal.cutEnd d true p' = (E, r)) := Lib.hid (by unfold Wal.cutEnd; (first | rw [HF0.out] | rw [HF1.out]); rw [if_pos hlt]; exact Prod.ext hE hr)
              have HR1 := Lib.hid hr
              have HE1 := Lib.hid hE
              clear hr hE
              go_wp2_with fail
              refine (rcut_any y _ d ub 1 p' HD9.out).mono ?_
              rw [HR1.out, HE1.out]
              rintro e w4 ⟨rfl, ub4, hd4, hn4, ht4⟩
              have HD5 := Lib.hid hd4
              have HN5 := Lib.hid (hn4.later (w := w) B9.out.size)
              have HT5 : Hid (Touch (· = y) w w4) := Lib.hid (Touch.trans HT9.out ht4 (fun _ _ h => h))
              have Q5 := Lib.hid ((ht4.block q (heap_lt Q9.out) (by omega)).trans Q9.out)
              have ROW5 := Lib.hid (own_touch ROW9.out ht4 (fun k hk e => by have := own_lo ROW9.out k hk; have := HSZ7.out; omega))
              clear hd4 hn4 ht4 hI9
              by_cases hr0 : r = 0
              · subst hr0
                obtain ⟨G2, hG2⟩ : ∃ G2, F0 = G2 := ⟨_, rfl⟩
                have HG2 : Hid (d.file (!true) = G2) := Lib.hid (by rw [← hG2]; first | exact HF0.out | exact HF1.out)
                have hO5 := cell_of Q5.out hc0
                rw [hG2] at hO5
                clear hG2
                by_cases ho : 0 < G2.length
                · obtain ⟨r2, hr2⟩ : ∃ r, (E.cut 0 0).2 = r := ⟨_, rfl⟩
                  obtain ⟨E2, hE2⟩ : ∃ E2, (E.cut 0 0).1 = E2 := ⟨_, rfl⟩
                  have HCC : Hid (Wal.cuts d true p' = (E2, r2)) := Lib.hid (by unfold Wal.cuts; rw [HCE.out, if_neg (by simp), HG2.out]; unfold Wal.cutOther; rw [if_pos (by intro h0; rw [h0] at ho; simp at ho)]; exact Prod.ext hE2 hr2)
                  have HR2 := Lib.hid hr2
                  have HE2 := Lib.hid hE2
                  clear hr2 hE2
                  go_wp2_with fail
                  refine (rcut_any y _ E _ 0 0 HD5.out).mono ?_
                  rw [HR2.out, HE2.out]
                  rintro e w6 ⟨rfl, ub6, hd6, hn6, ht6⟩
                  have HD6 := Lib.hid hd6
                  have HN6 := Lib.hid (HN5.out.trans hn6 HT5.out.size)
                  have ROW6 := Lib.hid (own_touch ROW5.out ht6 (fun k hk e => by have := own_lo ROW5.out k hk; have := HSZ7.out; omega))
                  have HT6 : Hid (Touch (· = y) w w6) := Lib.hid (Touch.trans HT5.out ht6 (fun _ _ h => h))
                  clear hd6 hn6 ht6 hO5
                  by_cases hr20 : r2 = 0
                  · subst hr20
                    have HX : Hid (Wal.open_ d = (some ⟨{ f := true, g := B, n := pre.length, dead := false }, sb, pre⟩, E2, 0)) := Lib.hid (by unfold Wal.open_; rw [if_neg (by simp [HDD.out]), HSH.out, if_neg hA0, HSRR.out, HBEST.out, HCC.out, if_neg (by simp)])
                    go_wp2_with fail
                    refine bodyPost_ret (results_tmp4 rfl _ _ _) rfl ?_
                    rw [HX.out]
                    exact ropen_done ROW6.out HSZ7.out HD6.out HN6.out HT6.out
                  · have HX : Hid (Wal.open_ d = (none, E2, 2)) := Lib.hid (by unfold Wal.open_; rw [if_neg (by simp [HDD.out]), HSH.out, if_neg hA0, HSRR.out, HBEST.out, HCC.out, if_pos hr20])
                    have hrb2 : (r2 != 0) = true := by simp [hr20]
                    go_wp2_with fail
                    refine bodyPost_ret (results_tmp4 rfl _ _ _) rfl ?_
                    rw [HX.out]
                    exact ROpenEnds.refused HD6.out HN6.out HT6.out
                · have HCC : Hid (Wal.cuts d true p' = (E, 0)) := Lib.hid (by unfold Wal.cuts; rw [HCE.out, if_neg (by simp), HG2.out]; unfold Wal.cutOther; rw [if_neg (by intro h0; apply ho; cases G2 with | nil => exact absurd rfl h0 | cons a b => simp)])
                  have HX : Hid (Wal.open_ d = (some ⟨{ f := true, g := B, n := pre.length, dead := false }, sb, pre⟩, E, 0)) := Lib.hid (by unfold Wal.open_; rw [if_neg (by simp [HDD.out]), HSH.out, if_neg hA0, HSRR.out, HBEST.out, HCC.out, if_neg (by simp)])
                  go_wp2_with fail
                  refine bodyPost_ret (results_tmp4 rfl _ _ _) rfl ?_
                  rw [HX.out]
                  exact ropen_done ROW5.out HSZ7.out HD5.out HN5.out HT5.out
              · have HX : Hid (Wal.open_ d = (none, E, 2)) := Lib.hid (by unfold Wal.open_; rw [if_neg (by simp [HDD.out]), HSH.out, if_neg hA0, HSRR.out, HBEST.out]; unfold Wal.cuts; rw [HCE.out, if_pos hr0, if_pos hr0])
                have hrb : (r != 0) = true := by simp [hr0]
                go_wp2_with fail
                refine bodyPost_ret (results_tmp4 rfl _ _ _) rfl ?_
                rw [HX.out]
                exact ROpenEnds.refused HD5.out HN5.out HT5.out
            · have HCE : Hid (Wal.cutEnd d true p' = (d, 0)) := Lib.hid (by unfold Wal.cutEnd; (first | rw [HF0.out] | rw [HF1.out]); rw [if_neg hlt])
              obtain ⟨E, hE⟩ : ∃ E, d = E := ⟨_, rfl⟩
              have HD5 : Hid (RefAt w' y E ub) := Lib.hid (hE ▸ HD9.out)
              have HCE : Hid (Wal.cutEnd d true p' = (E, 0)) := Lib.hid (HCE.out.trans (by rw [hE]))
              clear hE
              have HN5 := Lib.hid (Newer.refl w ub)
              have HT5 := HT9
              have Q5 := Q9
              have ROW5 := ROW9
              obtain ⟨G2, hG2⟩ : ∃ G2, F0 = G2 := ⟨_, rfl⟩
              have HG2 : Hid (d.file (!true) = G2) := Lib.hid (by rw [← hG2]; first | exact HF0.out | exact HF1.out)
              have hO5 := cell_of Q5.out hc0
              rw [hG2] at hO5
              clear hG2
              by_cases ho : 0 < G2.length
              · obtain ⟨r2, hr2⟩ : ∃ r, (E.cut 0 0).2 = r := ⟨_, rfl⟩
                obtain ⟨E2, hE2⟩ : ∃ E2, (E.cut 0 0).1 = E2 := ⟨_, rfl⟩
                have HCC : Hid (Wal.cuts d true p' = (E2, r2)) := Lib.hid (by unfold Wal.cuts; rw [HCE.out, if_neg (by simp), HG2.out]; unfold Wal.cutOther; rw [if_pos (by intro h0; rw [h0] at ho; simp at ho)]; exact Prod.ext hE2 hr2)
                have HR2 := Lib.hid hr2
                have HE2 := Lib.hid hE2
                clear hr2 hE2
                go_wp2_with fail
                refine (rcut_any y _ E _ 0 0 HD5.out).mono ?_
                rw [HR2.out, HE2.out]
                rintro e w6 ⟨rfl, ub6, hd6, hn6, ht6⟩
                have HD6 := Lib.hid hd6
                have HN6 := Lib.hid (HN5.out.trans hn6 HT5.out.size)
                have ROW6 := Lib.hid (own_touch ROW5.out ht6 (fun k hk e => by have := own_lo ROW5.out k hk; have := HSZ7.out; omega))
                have HT6 : Hid (Touch (· = y) w w6) := Lib.hid (Touch.trans HT5.out ht6 (fun _ _ h => h))
                clear hd6 hn6 ht6 hO5
                by_cases hr20 : r2 = 0
                · subst hr20
                  have HX : Hid (Wal.open_ d = (some ⟨{ f := true, g := B, n := pre.length, dead := false }, sb, pre⟩, E2, 0)) := Lib.hid (by unfold Wal.open_; rw [if_neg (by simp [HDD.out]), HSH.out, if_neg hA0, HSRR.out, HBEST.out, HCC.out, if_neg (by simp)])
                  go_wp2_with fail
                  refine bodyPost_ret (results_tmp4 rfl _ _ _) rfl ?_
                  rw [HX.out]
                  exact ropen_done ROW6.out HSZ7.out HD6.out HN6.out HT6.out
                · have HX : Hid (Wal.open_ d = (none, E2, 2)) := Lib.hid (by unfold Wal.open_; rw [if_neg (by simp [HDD.out]), HSH.out, if_neg hA0, HSRR.out, HBEST.out, HCC.out, if_pos hr20])
                  have hrb2 : (r2 != 0) = true := by simp [hr20]
                  go_wp2_with fail
                  refine bodyPost_ret (results_tmp4 rfl _ _ _) rfl ?_
                  rw [HX.out]
                  exact ROpenEnds.refused HD6.out HN6.out HT6.out
              · have HCC : Hid (Wal.cuts d true p' = (E, 0)) := Lib.hid (by unfold Wal.cuts; rw [HCE.out, if_neg (by simp), HG2.out]; unfold Wal.cutOther; rw [if_neg (by intro h0; apply ho; cases G2 with | nil => exact absurd rfl h0 | cons a b => simp)])
                have HX : Hid (Wal.open_ d = (some ⟨{ f := true, g := B, n := pre.length, dead := false }, sb, pre⟩, E, 0)) := Lib.hid (by unfold Wal.open_; rw [if_neg (by simp [HDD.out]), HSH.out, if_neg hA0, HSRR.out, HBEST.out, HCC.out, if_neg (by simp)])
                go_wp2_with fail
                refine bodyPost_ret (results_tmp4 rfl _ _ _) rfl ?_
                rw [HX.out]
                exact ropen_done ROW5.out HSZ7.out HD5.out HN5.out HT5.out
    · skip
      have HBEST : Hid (Wal.best d = false) := Lib.hid (by unfold Wal.best; rw [HF0.out, HF1.out, HA.out, HB.out]; exact decide_eq_false (by simpa using hab))
      have HSH : Hid (Wal.shown d = (A, sa, pa)) := Lib.hid (by unfold Wal.shown; rw [HBEST.out]; first | rw [HF0.out, HA.out] | rw [HF1.out, HB.out])
      have HSR : Hid (Wal.shownRecs d = Wal.recs F0 pa) := Lib.hid (by unfold Wal.shownRecs; rw [HBEST.out, HSH.out]; first | rw [HF0.out] | rw [HF1.out])
      by_cases hA0 : A = 0
      · have HX : Hid (Wal.open_ d = (none, d, 100)) := Lib.hid (by unfold Wal.open_; rw [if_neg (by simp [HDD.out]), HSH.out, if_pos hA0])
        have hA0' : ((A : Int) == 0) = true := by rw [hA0]; rfl
        go_wp2_with fail
        refine bodyPost_ret (results_tmp4 rfl _ _ _) rfl ?_
        rw [HX.out]
        exact ROpenEnds.refused (HD.out.below B7.out) (Newer.refl _ _) (Touch.of_below B7.out)
      · have hA0' : ((A : Int) == 0) = false := by simp; omega
        have HLE := Lib.hid (counts_le HA.out hA0)
        have hcI := hc0
        go_wp2_with fail
        obtain ⟨WL, hWL⟩ : ∃ WL, W7.alloc (.cells #[] 9) = WL := ⟨_, rfl⟩
        rw [hWL]
        have HST := Lib.hid (rread_start W7 F0 pa HLE.out.1 hWL.symm)
        clear hWL hA0'
        go_loopw [9, 14] (fun i v wr => ∃ p pre, i = .int .i64 (p : Nat) ∧ RReadAt W7 wr F0 pa v p pre) (fun i _ _ => F0.length + 1 - (intOf i).toNat)
        case atStart => exact ⟨_, _, rfl, HST.out⟩
        case round =>
          obtain ⟨p', pre, rfl, hr⟩ := hrel
          obtain ⟨gg, cap, hv⟩ := hr.slice
          subst hv
          have HRD := Lib.hid hr
          have hple := hr.le
          have hmany := hr.many
          obtain ⟨s, ok, hW⟩ : ∃ s ok, Wal.whole F0 p' 65536 = (s, ok) := ⟨_, _, rfl⟩
          have HW := Lib.hid hW
          have i2 := cell_of (stays Q7.out hr.old) hcI
          clear hr hW
          go_wp2_with fail
          refine (rwhole_any F0 p' 65536 _ (by omega) (by omega) (by decide)).mono ?_
          rw [HW.out]
          rintro e w' ⟨rfl, hb⟩
          cases ok with
          | true =>
            have hsl : p' + 8 + s.length ≤ F0.length := by have := (Wal.whole_le (file := F0) (p := p') (most := 65536) (by rw [HW.out])).1; rw [HW.out] at this; exact this
            have hs16 : s.length ≤ 1048576 := by omega
            have HB1 := Lib.hid hb
            clear hb i2
            go_wp2_with (first | (at_builtin; go_must (refine wpList_append_own2 _ rfl (.tmp 59) (.tmp 61) 22 rfl W7.heap.size 9 1 16 _ Tryz.stringInfo Tryz.underlying22 rfl (by decide) _ pre.length (strs pre) rfl (own_touch HRD.out.row (Touch.of_below (S := fun _ => False) (bthen HB1.out (balloc w' _))) (fun _ _ h => h)) ⟨w'.heap.size, 0, none⟩ 1 1 [.string ⟨s.toArray⟩] rfl rfl (fun i u hi => by rw [addr_add, Nat.zero_add]; exact cell_of (heap_new w' _) (by simpa using hi)) (by intro u hu; simp at hu; subst hu; rfl) (by unfold maxLen; omega) (by omega) (by have := HB1.out.size; have := HRD.out.old.size; simp; omega) ?_; intro v' w1 ho hgr _; have HO := Lib.hid ho; have HGR := Lib.hid hgr; clear ho hgr)))
            go_roundw
            case rel => exact ⟨p' + 8 + s.length, _, by go_num, rread_step HRD.out HB1.out HW.out HO.out HGR.out⟩
            case measure => simp [intOf]; omega
          | false =>
            have hrecs := HRD.out.on.done (by rw [HW.out])
            have HSRR : Hid (Wal.shownRecs d = (pre, p')) := Lib.hid (HSR.out.trans hrecs)
            have B9 := Lib.hid (bthen B7.out (bthen HRD.out.old hb))
            have HD9 := Lib.hid (HD.out.below B9.out)
            have Q9 := Lib.hid (stays (stays Q7.out HRD.out.old) hb)
            have ROW9 := Lib.hid (own_touch HRD.out.row (Touch.of_below (S := fun _ => False) hb) (fun _ _ h => h))
            have HT9 : Hid (Touch (· = y) w w') := Lib.hid (Touch.of_below B9.out)
            have hI9 := cell_of Q9.out hc0
            clear hb hrecs i2
            by_cases hlt : p' < F0.length
            · obtain ⟨r, hr⟩ : ∃ r, (d.cut 0 p').2 = r := ⟨_, rfl⟩
              obtain ⟨E, hE⟩ : ∃ E, (d.cut 0 p').1 = E := ⟨_, rfl⟩
              have HCE : Hid (Wal.cutEnd d false p' = (E, r)) := Lib.hid (by unfold Wal.cutEnd; (first | rw [HF0.out] | rw [HF1.out]); rw [if_pos hlt]; exact Prod.ext hE hr)
              have HR1 := Lib.hid hr
              have HE1 := Lib.hid hE
              clear hr hE
              go_wp2_with fail
              refine (rcut_any y _ d ub 0 p' HD9.out).mono ?_
              rw [HR1.out, HE1.out]
              rintro e w4 ⟨rfl, ub4, hd4, hn4, ht4⟩
              have HD5 := Lib.hid hd4
              have HN5 := Lib.hid (hn4.later (w := w) B9.out.size)
              have HT5 : Hid (Touch (· = y) w w4) := Lib.hid (Touch.trans HT9.out ht4 (fun _ _ h => h))
              have Q5 := Lib.hid ((ht4.block q (heap_lt Q9.out) (by omega)).trans Q9.out)
              have ROW5 := Lib.hid (own_touch ROW9.out ht4 (fun k hk e => by have := own_lo ROW9.out k hk; have := HSZ7.out; omega))
              clear hd4 hn4 ht4 hI9
              by_cases hr0 : r = 0
              · subst hr0
                obtain ⟨G2, hG2⟩ : ∃ G2, F1 = G2 := ⟨_, rfl⟩
                have HG2 : Hid (d.file (!false) = G2) := Lib.hid (by rw [← hG2]; first | exact HF0.out | exact HF1.out)
                have hO5 := cell_of Q5.out hc1
                rw [hG2] at hO5
                clear hG2
                by_cases ho : 0 < G2.length
                · obtain ⟨r2, hr2⟩ : ∃ r, (E.cut 1 0).2 = r := ⟨_, rfl⟩
                  obtain ⟨E2, hE2⟩ : ∃ E2, (E.cut 1 0).1 = E2 := ⟨_, rfl⟩
                  have HCC : Hid (Wal.cuts d false p' = (E2, r2)) := Lib.hid (by unfold Wal.cuts; rw [HCE.out, if_neg (by simp), HG2.out]; unfold Wal.cutOther; rw [if_pos (by intro h0; rw [h0] at ho; simp at ho)]; exact Prod.ext hE2 hr2)
                  have HR2 := Lib.hid hr2
                  have HE2 := Lib.hid hE2
                  clear hr2 hE2
                  go_wp2_with fail
                  refine (rcut_any y _ E _ 1 0 HD5.out).mono ?_
                  rw [HR2.out, HE2.out]
                  rintro e w6 ⟨rfl, ub6, hd6, hn6, ht6⟩
                  have HD6 := Lib.hid hd6
                  have HN6 := Lib.hid (HN5.out.trans hn6 HT5.out.size)
                  have ROW6 := Lib.hid (own_touch ROW5.out ht6 (fun k hk e => by have := own_lo ROW5.out k hk; have := HSZ7.out; omega))
                  have HT6 : Hid (Touch (· = y) w w6) := Lib.hid (Touch.trans HT5.out ht6 (fun _ _ h => h))
                  clear hd6 hn6 ht6 hO5
                  by_cases hr20 : r2 = 0
                  · subst hr20
                    have HX : Hid (Wal.open_ d = (some ⟨{ f := false, g := A, n := pre.length, dead := false }, sa, pre⟩, E2, 0)) := Lib.hid (by unfold Wal.open_; rw [if_neg (by simp [HDD.out]), HSH.out, if_neg hA0, HSRR.out, HBEST.out, HCC.out, if_neg (by simp)])
                    go_wp2_with fail
                    refine bodyPost_ret (results_tmp4 rfl _ _ _) rfl ?_
                    rw [HX.out]
                    exact ropen_done ROW6.out HSZ7.out HD6.out HN6.out HT6.out
                  · have HX : Hid (Wal.open_ d = (none, E2, 2)) := Lib.hid (by unfold Wal.open_; rw [if_neg (by simp [HDD.out]), HSH.out, if_neg hA0, HSRR.out, HBEST.out, HCC.out, if_pos hr20])
                    have hrb2 : (r2 != 0) = true := by simp [hr20]
                    go_wp2_with fail
                    refine bodyPost_ret (results_tmp4 rfl _ _ _) rfl ?_
                    rw [HX.out]
                    exact ROpenEnds.refused HD6.out HN6.out HT6.out
                · have HCC : Hid (Wal.cuts d false p' = (E, 0)) := Lib.hid (by unfold Wal.cuts; rw [HCE.out, if_neg (by simp), HG2.out]; unfold Wal.cutOther; rw [if_neg (by intro h0; apply ho; cases G2 with | nil => exact absurd rfl h0 | cons a b => simp)])
                  have HX : Hid (Wal.open_ d = (some ⟨{ f := false, g := A, n := pre.length, dead := false }, sa, pre⟩, E, 0)) := Lib.hid (by unfold Wal.open_; rw [if_neg (by simp [HDD.out]), HSH.out, if_neg hA0, HSRR.out, HBEST.out, HCC.out, if_neg (by simp)])
                  go_wp2_with fail
                  refine bodyPost_ret (results_tmp4 rfl _ _ _) rfl ?_
                  rw [HX.out]
                  exact ropen_done ROW5.out HSZ7.out HD5.out HN5.out HT5.out
              · have HX : Hid (Wal.open_ d = (none, E, 2)) := Lib.hid (by unfold Wal.open_; rw [if_neg (by simp [HDD.out]), HSH.out, if_neg hA0, HSRR.out, HBEST.out]; unfold Wal.cuts; rw [HCE.out, if_pos hr0, if_pos hr0])
                have hrb : (r != 0) = true := by simp [hr0]
                go_wp2_with fail
                refine bodyPost_ret (results_tmp4 rfl _ _ _) rfl ?_
                rw [HX.out]
                exact ROpenEnds.refused HD5.out HN5.out HT5.out
            · have HCE : Hid (Wal.cutEnd d false p' = (d, 0)) := Lib.hid (by unfold Wal.cutEnd; (first | rw [HF0.out] | rw [HF1.out]); rw [if_neg hlt])
              obtain ⟨E, hE⟩ : ∃ E, d = E := ⟨_, rfl⟩
              have HD5 : Hid (RefAt w' y E ub) := Lib.hid (hE ▸ HD9.out)
              have HCE : Hid (Wal.cutEnd d false p' = (E, 0)) := Lib.hid (HCE.out.trans (by rw [hE]))
              clear hE
              have HN5 := Lib.hid (Newer.refl w ub)
              have HT5 := HT9
              have Q5 := Q9
              have ROW5 := ROW9
              obtain ⟨G2, hG2⟩ : ∃ G2, F1 = G2 := ⟨_, rfl⟩
              have HG2 : Hid (d.file (!false) = G2) := Lib.hid (by rw [← hG2]; first | exact HF0.out | exact HF1.out)
              have hO5 := cell_of Q5.out hc1
              rw [hG2] at hO5
              clear hG2
              by_cases ho : 0 < G2.length
              · obtain ⟨r2, hr2⟩ : ∃ r, (E.cut 1 0).2 = r := ⟨_, rfl⟩
                obtain ⟨E2, hE2⟩ : ∃ E2, (E.cut 1 0).1 = E2 := ⟨_, rfl⟩
                have HCC : Hid (Wal.cuts d false p' = (E2, r2)) := Lib.hid (by unfold Wal.cuts; rw [HCE.out, if_neg (by simp), HG2.out]; unfold Wal.cutOther; rw [if_pos (by intro h0; rw [h0] at ho; simp at ho)]; exact Prod.ext hE2 hr2)
                have HR2 := Lib.hid hr2
                have HE2 := Lib.hid hE2
                clear hr2 hE2
                go_wp2_with fail
                refine (rcut_any y _ E _ 1 0 HD5.out).mono ?_
                rw [HR2.out, HE2.out]
                rintro e w6 ⟨rfl, ub6, hd6, hn6, ht6⟩
                have HD6 := Lib.hid hd6
                have HN6 := Lib.hid (HN5.out.trans hn6 HT5.out.size)
                have ROW6 := Lib.hid (own_touch ROW5.out ht6 (fun k hk e => by have := own_lo ROW5.out k hk; have := HSZ7.out; omega))
                have HT6 : Hid (Touch (· = y) w w6) := Lib.hid (Touch.trans HT5.out ht6 (fun _ _ h => h))
                clear hd6 hn6 ht6 hO5
                by_cases hr20 : r2 = 0
                · subst hr20
                  have HX : Hid (Wal.open_ d = (some ⟨{ f := false, g := A, n := pre.length, dead := false }, sa, pre⟩, E2, 0)) := Lib.hid (by unfold Wal.open_; rw [if_neg (by simp [HDD.out]), HSH.out, if_neg hA0, HSRR.out, HBEST.out, HCC.out, if_neg (by simp)])
                  go_wp2_with fail
                  refine bodyPost_ret (results_tmp4 rfl _ _ _) rfl ?_
                  rw [HX.out]
                  exact ropen_done ROW6.out HSZ7.out HD6.out HN6.out HT6.out
                · have HX : Hid (Wal.open_ d = (none, E2, 2)) := Lib.hid (by unfold Wal.open_; rw [if_neg (by simp [HDD.out]), HSH.out, if_neg hA0, HSRR.out, HBEST.out, HCC.out, if_pos hr20])
                  have hrb2 : (r2 != 0) = true := by simp [hr20]
                  go_wp2_with fail
                  refine bodyPost_ret (results_tmp4 rfl _ _ _) rfl ?_
                  rw [HX.out]
                  exact ROpenEnds.refused HD6.out HN6.out HT6.out
              · have HCC : Hid (Wal.cuts d false p' = (E, 0)) := Lib.hid (by unfold Wal.cuts; rw [HCE.out, if_neg (by simp), HG2.out]; unfold Wal.cutOther; rw [if_neg (by intro h0; apply ho; cases G2 with | nil => exact absurd rfl h0 | cons a b => simp)])
                have HX : Hid (Wal.open_ d = (some ⟨{ f := false, g := A, n := pre.length, dead := false }, sa, pre⟩, E, 0)) := Lib.hid (by unfold Wal.open_; rw [if_neg (by simp [HDD.out]), HSH.out, if_neg hA0, HSRR.out, HBEST.out, HCC.out, if_neg (by simp)])
                go_wp2_with fail
                refine bodyPost_ret (results_tmp4 rfl _ _ _) rfl ?_
                rw [HX.out]
                exact ropen_done ROW5.out HSZ7.out HD5.out HN5.out HT5.out
end Go.Proofs.YtpjpknndfhablaaGreat
namespace Go.Proofs.YtpjpknndfhablaaGreat
open Go.RowKit
def rstoreBlock (lg : Nat) (v : Value) (s : SS) : Obj := .cells #[.pointer (some ⟨lg, 0, none⟩), v, .int .i64 s.turn, .bool s.dead] 46 (0, 0)
/-- The document's store lies in block z: its log in block lg, over the disk in block y; v: its pairs. -/
structure RstoreAt (w : World) (z lg y : Nat) (v : Value) (s : SS) : Prop where
  blk : w.heap[z]? = some (rstoreBlock lg v s)
  log : RlogAt w lg y s.l
  pairs : PairsAt w v s.ps
theorem RstoreAt.cells {w : World} {z lg y : Nat} {v : Value} {s : SS} (h : RstoreAt w z lg y v s) : w.cell? ⟨z, 0, none⟩ = some (.pointer (some ⟨lg, 0, none⟩)) ∧ w.cell? ⟨z, 1, none⟩ = some v ∧ w.cell? ⟨z, 2, none⟩ = some (.int .i64 s.turn) ∧ w.cell? ⟨z, 3, none⟩ = some (.bool s.dead) ∧ (∀ i, w.frozen? ⟨z, i, none⟩ = false) ∧ z < w.heap.size :=
  ⟨cell_of h.blk rfl, cell_of h.blk rfl, cell_of h.blk rfl, cell_of h.blk rfl, free_of h.blk, heap_lt h.blk⟩
theorem RstoreAt.below {w w' : World} {z lg y : Nat} {v : Value} {s : SS} (h : RstoreAt w z lg y v s) (hb : Below w.heap.size w w') : RstoreAt w' z lg y v s :=
  ⟨stays h.blk hb, h.log.below hb, h.pairs.below hb⟩
def RSNewEnds (y : Nat) (w : World) (o : Option SS) (d' : DS) (ub : Option Nat) (r : Int) (e : Ending) (w' : World) : Prop :=
  ∃ v, e = .returned (.tuple #[v, .int .i64 r]) ∧ (∀ s, o = some s → ∃ z lg u, v = .pointer (some ⟨z, 0, none⟩) ∧ RstoreAt w' z lg y u s ∧ w.heap.size ≤ z ∧ w.heap.size ≤ lg ∧ (∀ g, u.ownBlock = some g → w.heap.size ≤ g)) ∧ (o = none → v = .pointer none) ∧
    ∃ ub', RefAt w' y d' ub' ∧ Newer w ub ub' ∧ Touch (· = y) w w'
set_option maxHeartbeats 2000000 in
set_option maxRecDepth 100000 in
theorem rnew11_any (y : Nat) (w : World) (d : DS) (ub : Option Nat) (h : RefAt w y d ub) :
    Calls Tryz.prog 12 #[.pointer (some ⟨y, 0, none⟩)] w (RSNewEnds y w (SS.new d).1 (SS.new d).2.1 ub (SS.new d).2.2) := by
  have HN := Lib.hid (rnewL_any y w d ub h)
  clear h
  obtain ⟨o, E, r, hO⟩ : ∃ o E r, Wal.new d = (o, E, r) := ⟨_, _, _, rfl⟩
  cases o with
  | none =>
    obtain ⟨h1, h2⟩ := new_none hO
    rw [hO] at HN
    rw [h2]
    have hb : (r != 0) = true := by simp [h1]
    clear hO h2 h1
    go_enter Tryz.func12, Tryz.ntmps12
    go_wp2_with fail
    refine HN.out.mono ?_
    rintro e w1 ⟨v, rfl, _, hn, hrest⟩
    obtain rfl := hn rfl
    have HR := Lib.hid hrest
    clear hn hrest
    go_wp2
    go_ret2
    exact ⟨_, rfl, fun s e => (by cases e), fun _ => rfl, HR.out⟩
  | some l =>
    obtain ⟨rfl, h2⟩ := new_some hO
    rw [hO] at HN
    rw [h2]
    clear hO h2
    go_enter Tryz.func12, Tryz.ntmps12
    go_wp2_with fail
    refine HN.out.mono ?_
    rintro e w1 ⟨v, rfl, hs, _, hrest⟩
    obtain ⟨lg, rfl, hlg, hla⟩ := hs l rfl
    have HR := Lib.hid hrest
    have HL := Lib.hid hla
    clear hs hrest hla
    go_wp2_with fail
    have b2 := balloc w1 (rstoreBlock lg (.slice none 0 0) { l := l, ps := [], turn := 0, dead := false })
    have n2 := heap_new w1 (rstoreBlock lg (.slice none 0 0) { l := l, ps := [], turn := 0, dead := false })
    have l2 := HL.out.below b2
    have hw : w.heap.size ≤ w1.heap.size := by obtain ⟨_, _, _, h3⟩ := HR.out; exact h3.size
    have HZ : Hid (RstoreAt (w1.alloc (rstoreBlock lg (.slice none 0 0) { l := l, ps := [], turn := 0, dead := false })) w1.heap.size lg y (.slice none 0 0) { l := l, ps := [], turn := 0, dead := false }) := Lib.hid ⟨n2, l2, ⟨rfl, .inl ⟨rfl, rfl⟩⟩⟩
    have HR2 : Hid (∃ ub', RefAt (w1.alloc (rstoreBlock lg (.slice none 0 0) { l := l, ps := [], turn := 0, dead := false })) y E ub' ∧ Newer w ub ub' ∧ Touch (· = y) w (w1.alloc (rstoreBlock lg (.slice none 0 0) { l := l, ps := [], turn := 0, dead := false }))) := Lib.hid (by
      obtain ⟨ub', h1, h2, h3⟩ := HR.out
      exact ⟨ub', h1.below b2, h2, Touch.trans h3 (Touch.of_below b2) (fun _ _ e => e)⟩)
    go_ret2
    exact ⟨_, rfl, fun s e => (by cases e; exact ⟨_, _, _, rfl, HZ.out, hw, hlg, fun g e => (by cases e)⟩), fun e => (by cases e), HR2.out⟩
theorem strs_cells {w : World} {base g cap n : Nat} {rs : List (List UInt8)} (h : w.ownsRow base 9 1 (.slice (some ⟨g, 0, none⟩) n cap) n (strs rs)) : g < w.heap.size ∧ ∀ j r, rs[j]? = some r → w.cell? ⟨g, j, none⟩ = some (.string ⟨r.toArray⟩) := by
  rcases h.2 with ⟨h0, _⟩ | ⟨g', cap', cur, hv, _, hg, _, _, _, h4⟩
  · cases h0
  · cases hv
    refine ⟨heap_lt hg, fun j s hs => ?_⟩
    have h5 : (strs rs)[j]? = some (.string ⟨s.toArray⟩) := by simp [strs, hs]
    rw [← h4, List.getElem?_take] at h5
    split at h5
    · exact cell_of hg (by simpa using h5)
    · cases h5
/-- The document's pairs on the way. -/
structure RopAt (w1 : World) (v : Value) (l : Sto.Pairs) (w' : World) : Prop where
  pairs : PairsAt w' v l
  fresh : ∀ g, v.ownBlock = some g → w1.heap.size ≤ g
  below : Below w1.heap.size w1 w'
  good : Sto.Good l
  fits : Sto.fits l = true
theorem RopAt.later {w1 w' w'' : World} {v : Value} {l : Sto.Pairs} (h : RopAt w1 v l w') (hb : Below w'.heap.size w' w'') : RopAt w1 v l w'' :=
  ⟨h.pairs.below hb, h.fresh, bthen h.below hb, h.good, h.fits⟩
theorem RopAt.turned {w1 w' w'' : World} {v v' : Value} {l l' : Sto.Pairs} (h : RopAt w1 v l w') (hp : PairsAt w'' v' l') (hv : v' = v ∨ ∀ g, v'.ownBlock = some g → w'.heap.size ≤ g) (hb : Below w'.heap.size w' w'') (hg : Sto.Good l') (hf : Sto.fits l' = true) : RopAt w1 v' l' w'' :=
  ⟨hp, (by rcases hv with rfl | hv; exact h.fresh; exact fun g e => Nat.le_trans h.below.size (hv g e)), bthen h.below hb, hg, hf⟩
theorem few_fits {l : Sto.Pairs} (h : Sto.fits l = true) : l.length ≤ 4096 := by
  unfold Sto.fits at h
  simp at h
  omega
set_option maxHeartbeats 4000000 in
set_option maxRecDepth 100000 in
theorem ropen11_any (y : Nat) (w : World) (d : DS) (ub : Option Nat) (hok : d.Ok) (h : RefAt w y d ub) :
    Calls Tryz.prog 15 #[.pointer (some ⟨y, 0, none⟩)] w (RSNewEnds y w (SS.open_ d).1 (SS.open_ d).2.1 ub (SS.open_ d).2.2) := by
  have HN := Lib.hid (ropenL_any y w d ub h)
  have HFEW : Hid (∀ q, (Wal.open_ d).1 = some q → q.rs.length ≤ 1048576 ∧ q.snap.length ≤ 524288 ∧ ∀ s ∈ q.rs, s.length ≤ 65536) := Lib.hid (fun q hq => by
    obtain ⟨h1, _, _, h2, h3⟩ := wopen_few hok hq
    exact ⟨h1, h2, h3⟩)
  clear h hok
  obtain ⟨o, E, r, hO⟩ : ∃ o E r, Wal.open_ d = (o, E, r) := ⟨_, _, _, rfl⟩
  cases o with
  | none =>
    have hr := wopen_bad hO
    have HX : Hid (SS.open_ d = (none, E, r)) := Lib.hid (by unfold SS.open_; rw [hO])
    rw [hO] at HN
    have hb : (r != 0) = true := by simp [hr]
    clear hO hr HFEW
    go_enter Tryz.func15, Tryz.ntmps15
    go_wp2_with fail
    refine HN.out.mono ?_
    rintro e w1 ⟨v, s, rv, rfl, _, hn, hrest⟩
    obtain ⟨rfl, rfl, rfl⟩ := hn rfl
    have HR := Lib.hid hrest
    clear hn hrest
    go_wp2
    go_ret2
    rw [HX.out]
    exact ⟨_, rfl, fun s e => (by cases e), fun _ => rfl, HR.out⟩
  | some q =>
  obtain rfl := wopen_ok hO
  obtain ⟨ql, sn, rs⟩ := q
  have HX0 : Hid (SS.opened ⟨ql, sn, rs⟩ = none → SS.open_ d = (none, E, 110)) := Lib.hid (fun e => by unfold SS.open_; rw [hO]; simp only [e])
  have HX1 : Hid (∀ l, SS.opened ⟨ql, sn, rs⟩ = some l → SS.open_ d = (some { l := ql, ps := l, turn := 0, dead := false }, E, 0)) := Lib.hid (fun l e => by unfold SS.open_; rw [hO]; simp only [e])
  rw [hO] at HN
  obtain ⟨hf1, hf2, hf3⟩ := HFEW.out _ (by rw [hO])
  have HF3 := Lib.hid hf3
  clear hO HFEW hf3
  simp only at hf1 hf2 HF3
  go_enter Tryz.func15, Tryz.ntmps15
  go_wp2_with fail
  refine HN.out.mono ?_
  rintro e w1 ⟨v, s, rv, rfl, hs, _, hrest⟩
  obtain ⟨rfl, ⟨g, cap, rfl, hrow⟩, lg, rfl, hlg, hla⟩ := hs _ rfl
  have hww : w.heap.size ≤ w1.heap.size := by obtain ⟨_, _, _, h3⟩ := hrest; exact h3.size
  have HFAIL : Hid (∀ w', Below w1.heap.size w1 w' → SS.opened ⟨ql, sn, rs⟩ = none → RSNewEnds y w (SS.open_ d).1 (SS.open_ d).2.1 ub (SS.open_ d).2.2 (.returned (.tuple #[.pointer none, .int .i64 110])) w') := Lib.hid (fun w' hb hn => by
    rw [HX0.out hn]
    obtain ⟨ub', h1, h2, h3⟩ := hrest
    exact ⟨_, rfl, fun s e => (by cases e), fun _ => rfl, ub', h1.below hb, h2, Touch.trans h3 (Touch.of_below hb) (fun _ _ e => e)⟩)
  have HGOOD : Hid (∀ w' v l, RopAt w1 v l w' → SS.opened ⟨ql, sn, rs⟩ = some l → RSNewEnds y w (SS.open_ d).1 (SS.open_ d).2.1 ub (SS.open_ d).2.2 (.returned (.tuple #[.pointer (some ⟨w'.heap.size, 0, none⟩), .int .i64 0])) (w'.alloc (.cells #[.pointer (some ⟨lg, 0, none⟩), v, .int .i64 0, .bool false] 46 (0, 0)))) := Lib.hid (fun w' v l ha hn => by
    rw [HX1.out l hn]
    obtain ⟨ub', h1, h2, h3⟩ := hrest
    have b1 := balloc w' (rstoreBlock lg v { l := ql, ps := l, turn := 0, dead := false })
    have b2 := bthen ha.below b1
    exact ⟨_, rfl, fun s e => (by cases e; exact ⟨w'.heap.size, lg, v, rfl, ⟨heap_new w' _, hla.below b2, ha.pairs.below b1⟩, Nat.le_trans hww ha.below.size, hlg, fun g e => Nat.le_trans hww (ha.fresh g e)⟩), fun e => (by cases e), ub', h1.below b2, h2, Touch.trans h3 (Touch.of_below b2) (fun _ _ e => e)⟩)
  obtain ⟨hgl, hgc⟩ := strs_cells hrow
  have HG : Hid (∀ w', Below w1.heap.size w1 w' → ∀ j r, rs[j]? = some r → w'.cell? ⟨g, j, none⟩ = some (.string ⟨r.toArray⟩)) := Lib.hid (fun w' hb j r hj => cell_later hb (hgc j r hj))
  clear hs hrest hla hrow hgc HX0 HX1 HN
  by_cases hsn : sn = []
  case pos =>
    have hse : sn.isEmpty = true := by rw [hsn]; rfl
    have HOP : Hid (SS.opened ⟨ql, sn, rs⟩ = SS.replay [] rs) := Lib.hid (by unfold SS.opened SS.snapPairs; rw [if_pos hsn]; rfl)
    clear hsn
    go_wp2_with fail
    have b2 := balloc w1 (.cells #[] 97)
    have n2 := heap_new w1 (.cells #[] 97)
    obtain ⟨p, hp⟩ : ∃ b, w1.heap.size = b := ⟨_, rfl⟩
    rw [hp] at n2
    obtain ⟨w2, hw2⟩ : ∃ W, w1.alloc (.cells #[] 97) = W := ⟨_, rfl⟩
    rw [hw2] at b2 n2
    have HA : Hid (RopAt w1 (.slice (some ⟨p, 0, none⟩) 0 0) [] w2) := Lib.hid ⟨⟨rfl, .inr ⟨p, 0, rfl, Nat.zero_le _, heap_lt n2, Nat.le_refl _, by decide, fun j hj => by omega, fun j u hu => by simp [pCells] at hu⟩⟩, fun g e => by cases e; exact Nat.le_of_eq hp, b2, Sto.Good.nil, rfl⟩
    rw [hp, hw2]
    clear hp hw2 b2 n2
    go_loopw [8, 14] (fun v i wr => ∃ (j : Nat) (l : Sto.Pairs), i = .int .i64 j ∧ j ≤ rs.length ∧ SS.replay [] (rs.take j) = some l ∧ RopAt w1 v l wr) (fun _ i _ => rs.length - (intOf i).toNat)
    case atStart => exact ⟨0, [], rfl, Nat.zero_le _, rfl, HA.out⟩
    case round =>
      obtain ⟨j, l, rfl, hj, hst, hop⟩ := hrel
      have HST := Lib.hid hst
      have HO1 := Lib.hid hop
      clear hst hop
      by_cases hlt : j < rs.length
      · obtain ⟨r, hr⟩ : ∃ x, rs[j]? = some x := ⟨_, List.getElem?_eq_getElem hlt⟩
        have cr := HG.out _ HO1.out.below j r hr
        have hrl := HF3.out r (List.mem_of_getElem? hr)
        have HRJ := Lib.hid hr
        clear hr
        go_wp2_with fail
        have hde := rdecode11_any r 2 512 wr (by omega) (by decide) (by decide)
        cases hdc : Sto.decode r 2 512 with
        | none =>
          rw [hdc] at hde
          have HDE := Lib.hid hde
          have HN := Lib.hid (HOP.out.trans (SS.replay_bad HST.out HRJ.out (by unfold SS.rec1; rw [hdc]; try rfl)))
          clear hdc hde cr
          refine HDE.out.mono ?_
          rintro e w6 ⟨v, rfl, cz, _, _, b6⟩
          have HB6 := Lib.hid (bthen HO1.out.below b6)
          clear b6
          go_wp2
          go_ret2
          exact HFAIL.out _ HB6.out HN.out
        | some ch =>
        rw [hdc] at hde
        have HDE := Lib.hid hde
        have HF := Lib.hid (Sto.decode_fine hdc)
        have HR1 : Hid (SS.rec1 l r = Sto.does l ch) := Lib.hid (by unfold SS.rec1; rw [hdc]; try rfl)
        clear hdc hde cr
        refine HDE.out.mono ?_
        rintro e w6 ⟨v6, rfl, cz, hcz, hce, b6⟩
        obtain rfl := hce _ rfl
        have HO6 := Lib.hid (HO1.out.later b6)
        have HC6 := Lib.hid hcz
        clear b6 hcz hce HDE HO1
        go_wp2_with fail
        refine (rdoes11_any _ _ l cz w6 HO6.out.pairs HC6.out HO6.out.good HF.out.2.2.1 (by have h1 := few_fits HO6.out.fits; have h2 := HF.out.1; omega)).mono ?_
        rintro e w7 ⟨v7, rfl, hp7, hv7, b7⟩
        have HP7 := Lib.hid hp7
        have HV7 := Lib.hid hv7
        have HB7 := Lib.hid b7
        clear hp7 hv7 b7
        cases hdo : Sto.does l cz with
        | none =>
          have HN := Lib.hid (HOP.out.trans (SS.replay_bad HST.out HRJ.out (HR1.out.trans hdo)))
          clear hdo
          go_wp2
          go_ret2
          exact HFAIL.out _ (HO6.out.later HB7.out).below HN.out
        | some l1 =>
        have HST1 : Hid (SS.replay [] (rs.take (j + 1)) = some l1) := Lib.hid ((SS.replay_next HST.out HRJ.out).trans (HR1.out.trans hdo))
        have HG1 := Lib.hid (HO6.out.good.does HF.out.2.2.1 hdo)
        have HO7 := Lib.hid (HO6.out.turned (HP7.out l1 hdo) HV7.out HB7.out HG1.out.1 HG1.out.2)
        clear hdo HP7 HV7 HB7 HO6 HC6 HF HG1
        go_wp2_with fail
        go_roundw
        all_goals first
          | (simp [intOf]; omega)
          | exact ⟨j + 1, l1, by go_num, by omega, HST1.out, HO7.out⟩
      · have hjr : j = rs.length := by omega
        have HN : Hid (SS.opened ⟨ql, sn, rs⟩ = some l) := Lib.hid (HOP.out.trans (by have := HST.out; rw [hjr, List.take_length] at this; exact this))
        have hjb : ¬ (j : Int) < rs.length := by omega
        clear hjr
        obtain ⟨pao, pcap, rfl, _⟩ := HO1.out.pairs.read
        go_wp2
        go_ret2
        exact HGOOD.out _ _ _ HO1.out HN.out
  have hse : sn.isEmpty = false := by cases sn with | nil => exact absurd rfl hsn | cons a r => rfl
  have HOP : Hid (SS.opened ⟨ql, sn, rs⟩ = ((Sto.decode sn 4 2048).bind fun c => if c.all (·.put) then Sto.does [] c else none).bind fun l => SS.replay l rs) := Lib.hid (by unfold SS.opened SS.snapPairs; rw [if_neg hsn])
  clear hsn
  go_wp2_with fail
  have b2 := balloc w1 (.cells #[] 97)
  have n2 := heap_new w1 (.cells #[] 97)
  obtain ⟨p, hp⟩ : ∃ b, w1.heap.size = b := ⟨_, rfl⟩
  rw [hp] at n2
  obtain ⟨w2, hw2⟩ : ∃ W, w1.alloc (.cells #[] 97) = W := ⟨_, rfl⟩
  rw [hw2] at b2 n2
  have HA : Hid (RopAt w1 (.slice (some ⟨p, 0, none⟩) 0 0) [] w2) := Lib.hid ⟨⟨rfl, .inr ⟨p, 0, rfl, Nat.zero_le _, heap_lt n2, Nat.le_refl _, by decide, fun j hj => by omega, fun j u hu => by simp [pCells] at hu⟩⟩, fun g e => by cases e; exact Nat.le_of_eq hp, b2, Sto.Good.nil, rfl⟩
  rw [hp, hw2]
  clear hp hw2 b2 n2
  have hde := rdecode11_any sn 4 2048 w2 (by omega) (by decide) (by decide)
  obtain ⟨D, hD⟩ : ∃ D, Sto.decode sn 4 2048 = D := ⟨_, rfl⟩
  rw [hD] at hde
  have HDD := Lib.hid hD
  clear hD
  refine hde.mono ?_
  clear hde
  rintro e w3 ⟨v, rfl, cz, hcz, hce, b3⟩
  have HA3 := Lib.hid (HA.out.later b3)
  have HC3 := Lib.hid hcz
  have HCE := Lib.hid hce
  obtain ⟨ao, cap3, rfl, hn3, hn3', hrd⟩ := chsAt_read hcz
  have HRD := Lib.hid hrd
  clear b3 hcz hce HA hrd
  go_wp2_with fail
  go_loopw [10, 11] (fun b i wr => ∃ (j : Nat) (ok : Bool), b = .bool ok ∧ i = .int .i64 j ∧ j ≤ cz.length ∧ ok = (D.isSome && (cz.take j).all (·.put)) ∧ Below w3.heap.size w3 wr) (fun _ i _ => cz.length - (intOf i).toNat)
  case atStart => exact ⟨0, D.isSome, rfl, rfl, Nat.zero_le _, by simp, Below.refl _ _⟩
  case round =>
    obtain ⟨j, ok, rfl, rfl, hj, hok, hb⟩ := hrel
    have HOK := Lib.hid hok
    have HB := Lib.hid hb
    clear hok hb
    by_cases hlt : j < cz.length
    · obtain ⟨ch, hch⟩ : ∃ x, cz[j]? = some x := ⟨_, List.getElem?_eq_getElem hlt⟩
      obtain ⟨gc, rfl, hgc, a0, _, _⟩ := HRD.out j ch hch
      have c0 := cell_later HB.out a0
      have HT : Hid ((cz.take (j + 1)).all (·.put) = ((cz.take j).all (·.put) && ch.put)) := Lib.hid (by rw [List.take_add_one, hch]; simp)
      clear a0 hch
      cases ok with
      | false =>
        have HO1 : Hid (false = (D.isSome && (cz.take (j + 1)).all (·.put))) := Lib.hid (by rw [HT.out, ← Bool.and_assoc, ← HOK.out]; rfl)
        go_wp2_with fail
        go_roundw
        all_goals first
          | (simp [intOf]; omega)
          | exact ⟨j + 1, false, rfl, by go_num, by omega, HO1.out, HB.out⟩
      | true =>
        have HO1 : Hid (ch.put = (D.isSome && (cz.take (j + 1)).all (·.put))) := Lib.hid (by rw [HT.out, ← Bool.and_assoc, ← HOK.out]; rfl)
        go_wp2_with fail
        go_roundw
        all_goals first
          | (simp [intOf]; omega)
          | exact ⟨j + 1, ch.put, rfl, by go_num, by omega, HO1.out, HB.out⟩
    · have hjc : j = cz.length := by omega
      subst hjc
      have HOK2 : Hid (ok = (D.isSome && cz.all (·.put))) := Lib.hid (by have := HOK.out; rw [List.take_length] at this; exact this)
      have HA4 := Lib.hid (HA3.out.later HB.out)
      have HC4 := Lib.hid (HC3.out.below HB.out)
      clear HOK HA3 HC3 HRD
      cases ok with
      | false =>
        have HN : Hid (SS.opened ⟨ql, sn, rs⟩ = none) := Lib.hid (by
          rw [HOP.out, HDD.out]
          cases D with
          | none => rfl
          | some k =>
            obtain rfl := HCE.out k rfl
            have h1 : cz.all (·.put) = false := by have := HOK2.out; simp only [Option.isSome, Bool.true_and] at this; exact this.symm
            show (if cz.all (·.put) then Sto.does [] cz else none).bind _ = none
            rw [h1]
            rfl)
        go_wp2
        go_ret2
        exact HFAIL.out _ HA4.out.below HN.out
      | true =>
      have HX : Hid (D = some cz ∧ cz.all (·.put) = true) := Lib.hid (by
        have := HOK2.out
        cases D with
        | none => cases this
        | some k =>
          obtain rfl := HCE.out k rfl
          exact ⟨rfl, by simp only [Option.isSome, Bool.true_and] at this; exact this.symm⟩)
      have HF := Lib.hid (Sto.decode_fine (HDD.out.trans HX.out.1))
      have HOR : Hid (SS.opened ⟨ql, sn, rs⟩ = (Sto.does [] cz).bind fun l => SS.replay l rs) := Lib.hid (by
        rw [HOP.out, HDD.out, HX.out.1]
        show (if cz.all (·.put) then Sto.does [] cz else none).bind _ = _
        rw [HX.out.2]
        rfl)
      clear HOK2 HX HDD HCE HOP
      go_wp2_with fail
      refine (rdoes11_any _ _ [] cz wr HA4.out.pairs HC4.out Sto.Good.nil HF.out.2.2.1 (by have := HF.out.1; simp; omega)).mono ?_
      rintro e w5 ⟨v5, rfl, hp5, hv5, b5⟩
      have HP5 := Lib.hid hp5
      have HV5 := Lib.hid hv5
      have HB5 := Lib.hid b5
      clear hp5 hv5 b5
      cases hdo : Sto.does [] cz with
      | none =>
        have HN := Lib.hid (HOR.out.trans (by rw [hdo]; try rfl))
        clear hdo
        go_wp2
        go_ret2
        exact HFAIL.out _ (HA4.out.later HB5.out).below HN.out
      | some l0 =>
      have HOS : Hid (SS.opened ⟨ql, sn, rs⟩ = SS.replay l0 rs) := Lib.hid (HOR.out.trans (by rw [hdo]; try rfl))
      have HG0 := Lib.hid (Sto.Good.nil.does HF.out.2.2.1 hdo)
      have HA5 := Lib.hid (HA4.out.turned (HP5.out l0 hdo) HV5.out HB5.out HG0.out.1 HG0.out.2)
      clear hdo HOR HP5 HV5 HB5 HA4 HC4 HF HG0
      go_wp2_with fail
      go_loopw [8, 14] (fun v i wr => ∃ (j : Nat) (l : Sto.Pairs), i = .int .i64 j ∧ j ≤ rs.length ∧ SS.replay l0 (rs.take j) = some l ∧ RopAt w1 v l wr) (fun _ i _ => rs.length - (intOf i).toNat)
      case atStart => exact ⟨0, l0, rfl, Nat.zero_le _, rfl, HA5.out⟩
      case round =>
        obtain ⟨j, l, rfl, hj, hst, hop⟩ := hrel
        have HST := Lib.hid hst
        have HO1 := Lib.hid hop
        clear hst hop
        by_cases hlt : j < rs.length
        · obtain ⟨r, hr⟩ : ∃ x, rs[j]? = some x := ⟨_, List.getElem?_eq_getElem hlt⟩
          have cr := HG.out _ HO1.out.below j r hr
          have hrl := HF3.out r (List.mem_of_getElem? hr)
          have HRJ := Lib.hid hr
          clear hr
          go_wp2_with fail
          have hde := rdecode11_any r 2 512 wr (by omega) (by decide) (by decide)
          cases hdc : Sto.decode r 2 512 with
          | none =>
            rw [hdc] at hde
            have HDE := Lib.hid hde
            have HN := Lib.hid (HOS.out.trans (SS.replay_bad HST.out HRJ.out (by unfold SS.rec1; rw [hdc]; try rfl)))
            clear hdc hde cr
            refine HDE.out.mono ?_
            rintro e w6 ⟨v, rfl, cz, _, _, b6⟩
            have HB6 := Lib.hid (bthen HO1.out.below b6)
            clear b6
            go_wp2
            go_ret2
            exact HFAIL.out _ HB6.out HN.out
          | some ch =>
          rw [hdc] at hde
          have HDE := Lib.hid hde
          have HF := Lib.hid (Sto.decode_fine hdc)
          have HR1 : Hid (SS.rec1 l r = Sto.does l ch) := Lib.hid (by unfold SS.rec1; rw [hdc]; try rfl)
          clear hdc hde cr
          refine HDE.out.mono ?_
          rintro e w6 ⟨v6, rfl, cz, hcz, hce, b6⟩
          obtain rfl := hce _ rfl
          have HO6 := Lib.hid (HO1.out.later b6)
          have HC6 := Lib.hid hcz
          clear b6 hcz hce HDE HO1
          go_wp2_with fail
          refine (rdoes11_any _ _ l cz w6 HO6.out.pairs HC6.out HO6.out.good HF.out.2.2.1 (by have h1 := few_fits HO6.out.fits; have h2 := HF.out.1; omega)).mono ?_
          rintro e w7 ⟨v7, rfl, hp7, hv7, b7⟩
          have HP7 := Lib.hid hp7
          have HV7 := Lib.hid hv7
          have HB7 := Lib.hid b7
          clear hp7 hv7 b7
          cases hdo : Sto.does l cz with
          | none =>
            have HN := Lib.hid (HOS.out.trans (SS.replay_bad HST.out HRJ.out (HR1.out.trans hdo)))
            clear hdo
            go_wp2
            go_ret2
            exact HFAIL.out _ (HO6.out.later HB7.out).below HN.out
          | some l1 =>
          have HST1 : Hid (SS.replay l0 (rs.take (j + 1)) = some l1) := Lib.hid ((SS.replay_next HST.out HRJ.out).trans (HR1.out.trans hdo))
          have HG1 := Lib.hid (HO6.out.good.does HF.out.2.2.1 hdo)
          have HO7 := Lib.hid (HO6.out.turned (HP7.out l1 hdo) HV7.out HB7.out HG1.out.1 HG1.out.2)
          clear hdo HP7 HV7 HB7 HO6 HC6 HF HG1
          go_wp2_with fail
          go_roundw
          all_goals first
            | (simp [intOf]; omega)
            | exact ⟨j + 1, l1, by go_num, by omega, HST1.out, HO7.out⟩
        · have hjr : j = rs.length := by omega
          have HN : Hid (SS.opened ⟨ql, sn, rs⟩ = some l) := Lib.hid (HOS.out.trans (by have := HST.out; rw [hjr, List.take_length] at this; exact this))
          have hjb : ¬ (j : Int) < rs.length := by omega
          clear hjr
          obtain ⟨pao, pcap, rfl, _⟩ := HO1.out.pairs.read
          go_wp2
          go_ret2
          exact HGOOD.out _ _ _ HO1.out HN.out
end Go.Proofs.YtpjpknndfhablaaGreat
namespace Go.Proofs.YtpjpknndfhablaaGreat
open Go.RowKit
theorem made_two : DS.made [[], []] = (some {}, 0) := by simp [DS.made]
set_option maxHeartbeats 2000000 in
set_option maxRecDepth 100000 in
theorem laid11_any (w : World) : Calls Tryz.prog 21 #[] w fun e w' => ∃ c x, e = .returned (.tuple #[.pointer (some ⟨c, 0, none⟩), .pointer (some ⟨x, 0, none⟩)]) ∧ Sone w w' x c FixS.s0 Wal.e0 1 := by
  have E0 := Lib.hid made_two
  go_enter Tryz.func21, Tryz.ntmps21
  go_wp2_with fail
  have hn0 := heap_new w (.cells #[.string ⟨#[]⟩, .string ⟨#[]⟩] 9)
  obtain ⟨x0, x1, _, _⟩ := cells2 hn0
  have HT : Hid (Texts (w.alloc (.cells #[.string ⟨#[]⟩, .string ⟨#[]⟩] 9)) (some ⟨w.heap.size, 0, none⟩) [[], []]) := ⟨by decide, fun i s hi => ⟨w.heap.size, 0, rfl, by
    match i, hi with
    | 0, hi => simp at hi; subst hi; exact x0
    | 1, hi => simp at hi; subst hi; exact x1⟩⟩
  clear hn0 x0 x1
  refine (new_any _ (some ⟨w.heap.size, 0, none⟩) 2 [[], []] HT.out).mono ?_
  rw [E0.out]
  rintro e w1 ⟨hb1, ⟨h, _⟩ | ⟨d, c, hd, rfl, hc, hat⟩⟩
  · cases h
  obtain rfl := Option.some.inj hd
  have HAT := Lib.hid hat
  have hc' : w.heap.size ≤ c := by have := hc; simp at this; omega
  have HB := Lib.hid (bthen (balloc w _) hb1)
  clear hb1 hd hat HT hc
  go_wp2_with fail
  have hw := new11_any c w1 {} 0 none HAT.out (by decide)
  rw [FixS.new_s] at hw
  refine hw.mono ?_
  clear hw
  rintro e w2 ⟨v, rfl, h1, _, rb', hd2, hn2, ht2, _⟩
  obtain ⟨x, lg, mb, rfl, hst, hx, hlg, hmb⟩ := h1 _ rfl
  have hold : Below w.heap.size w w2 := HB.out.trans (ht2.below HB.out.size fun k hk ho => by
    rcases ho with rfl | ho
    · omega
    · cases ho)
  have HO : Hid (Sone w w2 x c FixS.s0 Wal.e0 1) := ⟨lg, mb, rb', hst, hd2, hold, Nat.le_trans HB.out.size hx, Nat.le_trans HB.out.size hlg, Nat.le_trans HB.out.size hmb, hc', fun k hk => (hn2 k hk).elim (fun e => by cases e) (Nat.le_trans HB.out.size)⟩
  clear h1 hd2 hn2 ht2 hx hlg hmb hst hold
  go_wp2
  refine bodyPost_ret (results_tmp2 rfl _ _ _) rfl ?_
  exact ⟨c, x, rfl, HO.out⟩
set_option maxHeartbeats 4000000 in
set_option maxRecDepth 100000 in
theorem fixed11_any (w : World) : Calls Tryz.prog 9 #[] w fun e w' => e = .returned (.bool true) ∧ Below w.heap.size w w' := by
  have HP1 := Lib.hid FixS.put_1
  have HP2 := Lib.hid FixS.put_2
  have HP3 := Lib.hid FixS.put_3
  have HG1 := Lib.hid FixS.get_t
  have HG2 := Lib.hid FixS.get_s
  have HC := Lib.hid FixS.commit_s
  have HC2 := Lib.hid FixS.commit_again
  have HS := Lib.hid FixS.sync_s
  have HK := Lib.hid FixS.told_s
  have HO := Lib.hid FixS.open_s
  have HSC := Lib.hid FixS.scan_s
  have HQ := Lib.hid FixS.qa_few
  go_enter Tryz.func9, Tryz.ntmps9
  go_wp2_with fail
  refine (laid11_any w).mono ?_
  rintro e w1 ⟨c, x, rfl, h1⟩
  have H1 := Lib.hid h1
  clear h1
  go_wp2_with fail
  refine (begin_sone H1.out).mono ?_
  rintro e w2 ⟨y, rfl, h2⟩
  have H2 := Lib.hid h2
  clear h2
  go_wp2_with fail
  refine (put_stx H2.out [98] [50] (by decide) (by decide) (by decide)).mono ?_
  rw [HP1.out]
  rintro e w3 ⟨rfl, h3⟩
  have H3 := Lib.hid h3
  clear h3
  go_wp2_with fail
  refine (put_stx H3.out [97] [] (by decide) (by decide) (by decide)).mono ?_
  rw [HP2.out]
  rintro e w4 ⟨rfl, h4⟩
  have H4 := Lib.hid h4
  clear h4
  go_wp2_with fail
  refine (put_stx H4.out [] [] (by decide) (by decide) (by decide)).mono ?_
  rw [HP3.out]
  rintro e w5 ⟨rfl, h5⟩
  have H5 := Lib.hid h5
  clear h5
  go_wp2_with fail
  refine (get_stx H5.out [98] (by decide)).mono ?_
  rw [HG1.out.1, HG1.out.2]
  rintro e w6 ⟨rfl, rfl⟩
  go_wp2_with fail
  refine (get_sone H5.out.one [98] (by decide)).mono ?_
  rw [HG2.out.1, HG2.out.2]
  rintro e w6 ⟨rfl, rfl⟩
  go_wp2_with fail
  refine (commit_stx H5.out (by decide) (by decide) (by decide) (by decide) (by decide) (by decide)).mono ?_
  rw [HC.out]
  rintro e w7 ⟨rfl, h7, _⟩
  have H7 := Lib.hid h7
  clear h7
  go_wp2_with fail
  refine (commit_stx (t := FixS.t2.ends) H7.out (by decide) HQ.out.2 HQ.out.1 (by decide) (by decide) (by decide)).mono ?_
  rw [HC2.out]
  rintro e w8 ⟨rfl, h8, _⟩
  have H8 := Lib.hid h8.one
  clear h8
  go_wp2_with fail
  refine (sync_sone H8.out).mono ?_
  rw [HS.out]
  rintro e w9 ⟨rfl, h9, _⟩
  have H9 := Lib.hid h9
  clear h9
  go_wp2_with fail
  refine (keys_sone H9.out).mono ?_
  rw [HK.out.1]
  rintro e wa ⟨rfl, rfl⟩
  go_wp2_with fail
  refine (bytes_sone H9.out).mono ?_
  rw [HK.out.2]
  rintro e wa ⟨rfl, rfl⟩
  obtain ⟨u, ec, ho1, ho2⟩ := HO.out
  have HO1 := Lib.hid ho1
  have HO2 := Lib.hid ho2
  clear ho1 ho2 HO
  go_wp2_with fail
  have ho := open_sone H9.out.disk
  rw [HO1.out] at ho
  refine ho.mono ?_
  clear ho
  rintro e wb ⟨v, rfl, hb, _, _, _⟩
  obtain ⟨xb, rfl, hb1⟩ := hb _ rfl
  have HB := Lib.hid hb1
  clear hb hb1
  go_wp2_with fail
  refine (scan_sone HB.out [] 9 (by decide) (by decide)).mono ?_
  rintro e wc ⟨v, rfl, hv, _, bc⟩
  have hv2 : PairsAt wc v FixS.ps := by
    have e1 : Sto.scan u.ps [] (9 : Int).toNat = FixS.ps := by rw [HO2.out]; exact HSC.out
    rw [e1] at hv
    exact hv
  have HOLD := Lib.hid ((HB.out.below bc).old)
  obtain ⟨ao, cap, rfl, hn, hcap, hcell⟩ := hv2.read
  obtain ⟨g, rfl, _, a0, a1⟩ := hcell 0 ([97], []) rfl
  obtain ⟨g', e', _, b0, b1⟩ := hcell 1 ([98], [50]) rfl
  cases e'
  clear hv hv2 hcell bc
  have hl2 : FixS.ps.length = 2 := rfl
  rw [hl2] at hn
  have z0 : wc.cell? ⟨g, 0, none⟩ = some (.string ⟨#[97]⟩) := a0
  have z1 : wc.cell? ⟨g, 1, none⟩ = some (.string ⟨#[]⟩) := a1
  have z2 : wc.cell? ⟨g, 2, none⟩ = some (.string ⟨#[98]⟩) := b0
  have z3 : wc.cell? ⟨g, 3, none⟩ = some (.string ⟨#[50]⟩) := b1
  clear a0 a1 b0 b1
  rw [hl2]
  go_wp2_with fail
  go_ret
  exact ⟨rfl, HOLD.out⟩
end Go.Proofs.YtpjpknndfhablaaGreat
