/- The document's Decode. The plain store's pairs as a map's datum: rising pairs are the datum's own entries. Maps that hold rising pairs; the program's reader and its numbers. The program's numbers: read and written. -/
import Derived.Maps.OwnSet
import Derived.Maps.StringElems
import Derived.Maps.OwnOps
import Derived.Test.YtpjpknndfhablaaGreatK5
import Derived.Test.YtpjpknndfhablaaGreatK6
namespace Go.Proofs.YtpjpknndfhablaaGreat
open Go.RowKit
namespace Sto
theorem numAt_bound (s : S) (p : Int) (m : Nat) : -1 ≤ (numAt s p m).2 ∧ (numAt s p m).2 ≤ s.length ∧ (numAt s p m).1 < 256 ^ m := by
 have h0 : 0 < 256 ^ m := Nat.pow_pos (by decide)
 unfold numAt
 split
 ·exact ⟨by simp, by simp only; omega, h0⟩
 ·refine ⟨by simp only; omega, by simp only; omega, ?_⟩
  have h1 := Wal.val_lt ((s.drop p.toNat).take m)
  have h2 : 256 ^ ((s.drop p.toNat).take m).length ≤ 256 ^ m := Nat.pow_le_pow_right (by decide) (by simp; omega)
  exact Nat.lt_of_lt_of_le h1 h2
theorem textAt_bound (s : S) (p : Int) (m : Nat) : -1 ≤ (textAt s p m).2 ∧ (textAt s p m).2 ≤ s.length ∧ (textAt s p m).1.length ≤ s.length := by
 unfold textAt
 split
 ·exact ⟨by simp, by simp only; omega, by simp⟩
 ·exact ⟨by simp only; omega, by simp only; omega, by simp; omega⟩
end Sto
/-- What a reading of changes hands back: they lie there where the bytes are some. -/
def DecAt (r : Option (List Sto.Ch)) (w w' : World) (v : Value) : Prop := ∃ c, ChsAt w' v c ∧ (∀ k, r = some k → c = k) ∧ Below w.heap.size w w'
theorem DecAt.no {w w' : World} (hb : Below w.heap.size w w') : DecAt none w w' (.slice none 0 0) := ⟨[], ChsAt.nil _, fun _ h => (by cases h), hb⟩
set_option maxHeartbeats 4000000 in
set_option maxRecDepth 100000 in
theorem rdecode11_any (s : Sto.S) (count most : Nat) (w : World) (hs : s.length ≤ 4611686018427387000) (hc : count ≤ 4) (hm : most ≤ 2048) :
  Calls Tryz.prog 53 #[.string ⟨s.toArray⟩, .int .i64 count, .int .i64 most] w fun e w' => ∃ v, e = .returned (.tuple #[v, .bool (Sto.decode s count most).isSome]) ∧ DecAt (Sto.decode s count most) w w' v := by
 by_cases h1 : s.length < count
 ·have hd : Sto.decode s count most = none := by unfold Sto.decode; rw [if_pos h1]
  have HD := Lib.hid hd
  have hn := rnumber11_any s 0 count w (by omega) (by decide) (by decide) hc
  rw [Sto.numAt_bad (.inr (by omega))] at hn
  have HN := Lib.hid hn
  clear hn hd
  go_enter Tryz.func53, Tryz.ntmps53
  go_wp2_with fail
  refine HN.out.mono ?_
  rintro e w1 ⟨rfl, rfl⟩
  go_wp2
  go_ret2
  exact ⟨_, by rw [HD.out]; rfl, by rw [HD.out]; exact DecAt.no (Below.refl _ _)⟩
 have hcnt : count ≤ s.length := Nat.le_of_not_lt h1
 have hn := rnumber11_any s 0 count w (by omega) (by decide) (by decide) hc
 rw [show (0 : Int) = ((0 : Nat) : Int) from rfl, Sto.numAt_ok (by omega), List.drop_zero, Nat.zero_add] at hn
 have hNb := (Sto.numAt_bound s ((0 : Nat) : Int) count).2.2
 rw [Sto.numAt_ok (by omega), List.drop_zero] at hNb
 have hNb2 : Sha.val (s.take count) ≤ 4294967296 := by
  have : 256 ^ count ≤ 256 ^ 4 := Nat.pow_le_pow_right (by decide) hc
  simp only at hNb
  have : (256 : Nat) ^ 4 = 4294967296 := rfl
  omega
 obtain ⟨N, hN⟩ : ∃ N, Sha.val (s.take count) = N := ⟨_, rfl⟩
 rw [hN] at hn hNb2
 clear hNb
 have HN := Lib.hid hn
 clear hn
 by_cases h2 : N < 1 ∨ most < N
 ·have HD : Hid (Sto.decode s count most = none) := Lib.hid (by unfold Sto.decode; rw [if_neg h1, hN, if_pos h2])
  clear hN
  rcases h2 with h2 | h2
  all_goals go_enter Tryz.func53, Tryz.ntmps53
  all_goals go_wp2_with fail
  all_goals refine HN.out.mono ?_
  all_goals rintro e w1 ⟨rfl, rfl⟩
  all_goals go_wp2
  all_goals go_ret2
  all_goals exact ⟨_, by rw [HD.out]; rfl, by rw [HD.out]; exact DecAt.no (Below.refl _ _)⟩
 have HD : Hid (Sto.decode s count most = Sto.dec N (s.drop count) none) := Lib.hid (by unfold Sto.decode; rw [if_neg h1, hN, if_neg h2])
 have h3 : 1 ≤ N := by omega
 have h4 : N ≤ most := by omega
 have hmN : decide (most < N) = false := decide_eq_false (by omega)
 have hmN2 : decide ((N : Int) < 1) = false := decide_eq_false (by omega)
 have hmN3 : decide ((count : Int) < 0) = false := decide_eq_false (by omega)
 clear hN h1 h2
 go_enter Tryz.func53, Tryz.ntmps53
 go_wp2_with fail
 refine HN.out.mono ?_
 rintro e w1 ⟨rfl, rfl⟩
 go_wp2
 go_loopw [9, 10, 11] (fun pv v i wr => ∃ (j p : Nat) (c : List Sto.Ch), pv = .int .i64 p ∧ i = .int .i64 j ∧ j ≤ N ∧ p ≤ s.length ∧ c.length = j ∧ OwnF wr w.heap.size 3 v c.length (cCells c) ∧ Sto.Read N (s.drop count) c (N - j) (s.drop p) ∧ Below w.heap.size w wr) (fun _ _ i _ => N - (intOf i).toNat)
 case atStart =>
  exact ⟨0, count, [], rfl, rfl, by omega, hcnt, rfl, OwnF.of_owns (w := w.alloc (.cells #[] 58)) (e := 58) (World.ownsRow_made w #[] 0 (Nat.le_refl _) (by decide) (by simp)), Sto.Read.start _ _, balloc _ _⟩
 case round =>
  obtain ⟨j, p, c, rfl, rfl, hj, hp, hcl, hown, hrd, hbl⟩ := hrel
  have HOW := Lib.hid hown
  have HRD := Lib.hid hrd
  have HB := Lib.hid hbl
  clear hown hrd hbl
  subst hcl
  by_cases hlt : c.length < N
  ·have b1 := Sto.numAt_bound s (p : Int) 1
   have e1 : Sto.numAt s (p : Int) 1 = Sto.kindAt s p := rfl
   have n1 := fun W => rnumber11_any s (p : Int) 1 W (by omega) (by omega) (by omega) (by omega)
   rw [e1] at b1 n1
   have HO1 := Lib.hid (Sto.one_del_bad (s := s) (p := p))
   have HO2 := Lib.hid (Sto.one_del_ok (s := s) (p := p))
   have HO3 := Lib.hid (Sto.one_put (s := s) (p := p))
   have e2 : Sto.numAt s (Sto.kindAt s p).2 1 = Sto.manyAt s p := rfl
   have b2 := Sto.numAt_bound s (Sto.kindAt s p).2 1
   have n2 := fun W => rnumber11_any s (Sto.kindAt s p).2 1 W (by omega) (by omega) (by omega) (by omega)
   rw [e2] at b2 n2
   have e3 : Sto.textAt s (Sto.manyAt s p).2 (Sto.manyAt s p).1 = Sto.keyAt s p := rfl
   have b3 := Sto.textAt_bound s (Sto.manyAt s p).2 (Sto.manyAt s p).1
   have n3 := fun W => rtext11_any s (Sto.manyAt s p).2 (Sto.manyAt s p).1 W (by omega) (by omega) (by omega) (by omega)
   rw [e3] at b3 n3
   have e4 : Sto.numAt s (Sto.keyAt s p).2 2 = Sto.lenAt s p := rfl
   have b4 := Sto.numAt_bound s (Sto.keyAt s p).2 2
   have n4 := fun W => rnumber11_any s (Sto.keyAt s p).2 2 W (by omega) (by omega) (by omega) (by omega)
   rw [e4] at b4 n4
   have e5 : Sto.textAt s (Sto.lenAt s p).2 (Sto.lenAt s p).1 = Sto.valAt s p := rfl
   have b5 := Sto.textAt_bound s (Sto.lenAt s p).2 (Sto.lenAt s p).1
   have n5 := fun W => rtext11_any s (Sto.lenAt s p).2 (Sto.lenAt s p).1 W (by omega) (by omega) (by omega) (by omega)
   rw [e5] at b5 n5
   obtain ⟨K, A, hKA⟩ : ∃ K A, Sto.kindAt s p = (K, A) := ⟨_, _, rfl⟩
   obtain ⟨M, B, hMB⟩ : ∃ K A, Sto.manyAt s p = (K, A) := ⟨_, _, rfl⟩
   obtain ⟨T, q, hTq⟩ : ∃ K A, Sto.keyAt s p = (K, A) := ⟨_, _, rfl⟩
   obtain ⟨L, C, hLC⟩ : ∃ K A, Sto.lenAt s p = (K, A) := ⟨_, _, rfl⟩
   obtain ⟨X, z, hXz⟩ : ∃ K A, Sto.valAt s p = (K, A) := ⟨_, _, rfl⟩
   rw [hKA] at b1 n1 n2
   rw [hMB] at b2 n2 n3
   rw [hTq] at b3 n3 n4
   rw [hLC] at b4 n4 n5
   rw [hXz] at b5 n5
   rw [hKA, hTq] at HO1 HO2
   rw [hKA, hTq, hXz] at HO3
   have HN1 := Lib.hid n1
   have HN2 := Lib.hid n2
   have HN3 := Lib.hid n3
   have HN4 := Lib.hid n4
   have HN5 := Lib.hid n5
   simp only at b1 b2 b3 b4 b5
   have k1 := b1.2.2
   have k3 := b3.1
   have k3' := b3.2.1
   have k3'' := b3.2.2
   have k5 := b5.1
   have k5' := b5.2.1
   have k5'' := b5.2.2
   clear n1 n2 n3 n4 n5 b1 b2 b3 b4 b5 e1 e2 e3 e4 e5 hKA hMB hTq hLC hXz
   by_cases hK : K = 1
   ·have hkb0 : ((K : Int) == 1) = true := beq_iff_eq.2 (by omega)
    go_wp2_with fail
    refine (HN1.out _).mono ?_
    rintro e w1 ⟨rfl, rfl⟩
    go_wp2_with fail
    refine (HN2.out _).mono ?_
    rintro e w1 ⟨rfl, rfl⟩
    go_wp2_with fail
    refine (HN3.out _).mono ?_
    rintro e w1 ⟨rfl, rfl⟩
    go_wp2_with fail
    refine (HN4.out _).mono ?_
    rintro e w1 ⟨rfl, rfl⟩
    go_wp2_with fail
    refine (HN5.out _).mono ?_
    rintro e w1 ⟨rfl, rfl⟩
    go_wp2_with fail
    have HBAD : Hid (z < 0 → Sto.one (s.drop p) = none) := Lib.hid (fun hz => by rcases HO3.out hK with h | h; exact h.2; omega)
    have HGOOD : Hid (0 ≤ z → K ≤ 1 → Sto.one (s.drop p) = some (⟨true, T, X⟩, s.drop z.toNat) ∧ z ≤ s.length ∧ (p : Int) < z) := Lib.hid (fun hz _ => by rcases HO3.out hK with h | h; omega; exact h.2)
    have hnew := heap_new wr (.cells #[.bool true, .string ⟨T.toArray⟩, .string ⟨X.toArray⟩] 58)
    have hbw := balloc wr (.cells #[.bool true, .string ⟨T.toArray⟩, .string ⟨X.toArray⟩] 58)
    obtain ⟨W1, hW1⟩ : ∃ W, wr.alloc (.cells #[.bool true, .string ⟨T.toArray⟩, .string ⟨X.toArray⟩] 58) = W := ⟨_, rfl⟩
    rw [hW1] at hnew hbw ⊢
    clear hW1
    obtain ⟨d0, d1, d2, _⟩ : W1.cell? ⟨wr.heap.size, 0, none⟩ = some (.bool true) ∧ W1.cell? ⟨wr.heap.size, 1, none⟩ = some (.string ⟨T.toArray⟩) ∧ W1.cell? ⟨wr.heap.size, 2, none⟩ = some (.string ⟨X.toArray⟩) ∧ True := ⟨cell_of hnew rfl, cell_of hnew rfl, cell_of hnew rfl, trivial⟩
    have HB1 := Lib.hid hbw
    clear hbw hnew HN1 HN2 HN3 HN4 HN5 HO1 HO2 HO3
    obtain ⟨kb, hkb2⟩ : ∃ b, Sto.keyOk T = b := ⟨_, rfl⟩
    have HKY : Hid (∀ W, Calls Tryz.prog 107 #[.string ⟨T.toArray⟩] W fun e w' => e = .returned (.bool kb) ∧ w' = W) := Lib.hid (fun W => by
     have := rkey_any T W
     rw [hkb2] at this
     exact this.mono fun _ _ h => ⟨h.1, h.2.symm⟩)
    have HKB := Lib.hid hkb2
    clear hkb2
    rcases (show z < 0 ∨ (¬ z < 0 ∧ (1 : Int) < K) ∨ (¬ z < 0 ∧ ¬ (1 : Int) < K) by omega) with h1 | ⟨h1, h2⟩ | ⟨h1, h2⟩
    ·have HX : Hid (Sto.decode s count most = none) := Lib.hid (by rw [HD.out]; exact Sto.Read.bad (n := N - c.length - 1) (by rw [show N - c.length - 1 + 1 = N - c.length by omega]; exact HRD.out) (HBAD.out h1))
     go_quiet (fail)
     go_wp2
     go_ret2
     exact ⟨_, by rw [HX.out]; rfl, by rw [HX.out]; exact DecAt.no (below_drewN (bthen HB.out HB1.out) _)⟩
    ·omega
    obtain ⟨g1, g2, g3⟩ := HGOOD.out (by omega) (by omega)
    have HG1 := Lib.hid g1
    clear g1
    cases kb with
    | false =>
     have HX : Hid (Sto.decode s count most = none) := Lib.hid (by rw [HD.out]; exact Sto.Read.bad' (n := N - c.length - 1) (by rw [show N - c.length - 1 + 1 = N - c.length by omega]; exact HRD.out) HG1.out (by (try simp only); rw [HKB.out]; rfl))
     go_quiet (first | (go_at_call 107; exact Calls.quiet_of_same (HKY.out _)))
     go_wp2
     go_ret2
     exact ⟨_, by rw [HX.out]; rfl, by rw [HX.out]; exact DecAt.no (below_drewN (bthen HB.out HB1.out) _)⟩
    | true =>
     rcases Nat.lt_or_ge 4096 X.length with hxl | hxl
     ·have HX : Hid (Sto.decode s count most = none) := Lib.hid (by rw [HD.out]; exact Sto.Read.bad' (n := N - c.length - 1) (by rw [show N - c.length - 1 + 1 = N - c.length by omega]; exact HRD.out) HG1.out (by simp only [Sto.valueOk, decide_eq_false (Nat.not_le.2 hxl)]; rw [HKB.out]; rfl))
      have hxi : (4096 : Int) < (X.length : Int) := by omega
      go_quiet (first | (go_at_call 107; exact Calls.quiet_of_same (HKY.out _)))
      go_wp2
      go_ret2
      exact ⟨_, by rw [HX.out]; rfl, by rw [HX.out]; exact DecAt.no (below_drewN (bthen HB.out HB1.out) _)⟩
     have hxi : ¬ (4096 : Int) < (X.length : Int) := by omega
     have HVO : Hid (Sto.valueOk X = true) := Lib.hid (by unfold Sto.valueOk; rw [decide_eq_true hxl])
     by_cases hj0 : 0 < c.length
     ·obtain ⟨x, hx⟩ : ∃ x, c[c.length - 1]? = some x := ⟨_, List.getElem?_eq_getElem (by omega)⟩
      obtain ⟨ao, cap, rfl, hn1, hn2, hrd⟩ := chsAt_read (HOW.out)
      obtain ⟨g, rfl, hg, _, ck, _⟩ := hrd _ _ hx
      have ck1 := cell_later HB1.out ck
      have hlast : c.getLast?.map (·.key) = some x.key := by rw [List.getLast?_eq_getElem?, hx]; rfl
      have HLA := Lib.hid hlast
      obtain ⟨lk, hlk⟩ : ∃ k, x.key = k := ⟨_, rfl⟩
      rw [hlk] at HLA ck1
      clear hx hrd ck hlk hlast
      rcases Sto.lt_total T lk with hq | hq | hq
      ·have hle : Op.bytesLess T lk = true := hq
       have hlt2 := Sto.lt_asymm hq
       have HX : Hid (Sto.decode s count most = none) := Lib.hid (by rw [HD.out]; exact Sto.Read.bad' (n := N - c.length - 1) (by rw [show N - c.length - 1 + 1 = N - c.length by omega]; exact HRD.out) HG1.out (by (try simp only); rw [HLA.out, show Sto.after (some lk) T = Sto.lt lk T from rfl, hlt2, Bool.and_false]))
       go_quiet (first | (go_at_call 107; exact Calls.quiet_of_same (HKY.out _)))
       go_wp2
       go_ret2
       exact ⟨_, by rw [HX.out]; rfl, by rw [HX.out]; exact DecAt.no (below_drewN (bthen HB.out HB1.out) _)⟩
      ·have hle : Op.bytesLess T lk = false := by have := Sto.lt_irrefl lk; rw [← hq] at this ⊢; exact this
       have heq : (T == lk) = true := beq_iff_eq.2 hq
       have hlt2 : Sto.lt lk T = false := by rw [hq]; exact Sto.lt_irrefl lk
       clear hq
       have HX : Hid (Sto.decode s count most = none) := Lib.hid (by rw [HD.out]; exact Sto.Read.bad' (n := N - c.length - 1) (by rw [show N - c.length - 1 + 1 = N - c.length by omega]; exact HRD.out) HG1.out (by (try simp only); rw [HLA.out, show Sto.after (some lk) T = Sto.lt lk T from rfl, hlt2, Bool.and_false]))
       go_quiet (first | (go_at_call 107; exact Calls.quiet_of_same (HKY.out _)))
       go_wp2
       go_ret2
       exact ⟨_, by rw [HX.out]; rfl, by rw [HX.out]; exact DecAt.no (below_drewN (bthen HB.out HB1.out) _)⟩
      ·have hle : Op.bytesLess T lk = false := Sto.lt_asymm hq
       have heq : (T == lk) = false := beq_eq_false_iff_ne.2 (fun e => Sto.lt_ne hq e.symm)
       have HQ := Lib.hid hq
       clear hq
       have HR2 : Hid (Sto.Read N (s.drop count) (c ++ [⟨true, T, X⟩]) (N - (c.length + 1)) (s.drop z.toNat)) := Lib.hid (by
        rw [show N - (c.length + 1) = N - c.length - 1 by omega]
        exact Sto.Read.next (n := N - c.length - 1) (by rw [show N - c.length - 1 + 1 = N - c.length by omega]; exact HRD.out) HG1.out (by (try simp only); rw [HKB.out, HVO.out, HLA.out, show Sto.after (some lk) T = Sto.lt lk T from rfl, HQ.out]; rfl))
       go_quiet (first | (go_at_call 107; exact Calls.quiet_of_same (HKY.out _)))
       have HBQ := Lib.hid (below_drewN (bthen HB.out HB1.out) nq)
       have HOW2 := Lib.hid (HOW.out.touch (S := fun _ => False) (.of_below (below_drewN HB1.out nq)) (fun _ _ h => h))
       have hcb : c.length + 1 ≤ 3298534883328 := by omega
       have d0' : (W1.drewN nq).cell? ⟨wr.heap.size, 0, none⟩ = some (.bool true) := cell_later (below_drewN (Below.refl _ W1) nq) d0
       have d1' : (W1.drewN nq).cell? ⟨wr.heap.size, 1, none⟩ = some (.string ⟨T.toArray⟩) := cell_later (below_drewN (Below.refl _ W1) nq) d1
       have d2' : (W1.drewN nq).cell? ⟨wr.heap.size, 2, none⟩ = some (.string ⟨X.toArray⟩) := cell_later (below_drewN (Below.refl _ W1) nq) d2
       go_wp2_with (at_builtin; refine wpList_append_ch _ rfl (.tmp 112) (.tmp 114) 48 58 chInfo11 Tryz.underlying48 rfl w.heap.size _ c ⟨true, T, X⟩ W1.heap.size rfl rfl (HOW2.out.touch (S := fun _ => False) (.of_below (balloc (W1.drewN nq) _)) (fun _ _ h => h)) (fun i u hi => cell_of (heap_new (W1.drewN nq) _) (by simpa [cCells] using hi)) hcb (bthen HBQ.out (balloc (W1.drewN nq) _)).size ?_; intro v' w' ho' hgr' hbk'; have HO2 := Lib.hid ho'; have HB2 := Lib.hid (below_grown (bthen HBQ.out (balloc (W1.drewN nq) _)) (bthen HBQ.out (balloc (W1.drewN nq) _)).size hgr' (fun k hk => (HOW2.out.lt k hk).1)); clear ho' hgr' hbk')
       go_roundw
       all_goals first
        | (simp [intOf]; omega)
        | exact ⟨c.length + 1, z.toNat, _, by rw [Int.toNat_of_nonneg (by omega)], by go_num, by omega, by omega, by simp, HO2.out, HR2.out, HB2.out⟩
     ·have HLN : Hid (Sto.after (c.getLast?.map (·.key)) T = true) := Lib.hid (by rw [List.eq_nil_of_length_eq_zero (show c.length = 0 by omega)]; rfl)
      have HR2 : Hid (Sto.Read N (s.drop count) (c ++ [⟨true, T, X⟩]) (N - (c.length + 1)) (s.drop z.toNat)) := Lib.hid (by
       rw [show N - (c.length + 1) = N - c.length - 1 by omega]
       exact Sto.Read.next (n := N - c.length - 1) (by rw [show N - c.length - 1 + 1 = N - c.length by omega]; exact HRD.out) HG1.out (by (try simp only); rw [HKB.out, HVO.out, HLN.out]; rfl))
      go_quiet (first | (go_at_call 107; exact Calls.quiet_of_same (HKY.out _)))
      have HBQ := Lib.hid (below_drewN (bthen HB.out HB1.out) nq)
      have HOW2 := Lib.hid (HOW.out.touch (S := fun _ => False) (.of_below (below_drewN HB1.out nq)) (fun _ _ h => h))
      have hcb : c.length + 1 ≤ 3298534883328 := by omega
      have d0' : (W1.drewN nq).cell? ⟨wr.heap.size, 0, none⟩ = some (.bool true) := cell_later (below_drewN (Below.refl _ W1) nq) d0
      have d1' : (W1.drewN nq).cell? ⟨wr.heap.size, 1, none⟩ = some (.string ⟨T.toArray⟩) := cell_later (below_drewN (Below.refl _ W1) nq) d1
      have d2' : (W1.drewN nq).cell? ⟨wr.heap.size, 2, none⟩ = some (.string ⟨X.toArray⟩) := cell_later (below_drewN (Below.refl _ W1) nq) d2
      go_wp2_with (at_builtin; refine wpList_append_ch _ rfl (.tmp 112) (.tmp 114) 48 58 chInfo11 Tryz.underlying48 rfl w.heap.size _ c ⟨true, T, X⟩ W1.heap.size rfl rfl (HOW2.out.touch (S := fun _ => False) (.of_below (balloc (W1.drewN nq) _)) (fun _ _ h => h)) (fun i u hi => cell_of (heap_new (W1.drewN nq) _) (by simpa [cCells] using hi)) hcb (bthen HBQ.out (balloc (W1.drewN nq) _)).size ?_; intro v' w' ho' hgr' hbk'; have HO2 := Lib.hid ho'; have HB2 := Lib.hid (below_grown (bthen HBQ.out (balloc (W1.drewN nq) _)) (bthen HBQ.out (balloc (W1.drewN nq) _)).size hgr' (fun k hk => (HOW2.out.lt k hk).1)); clear ho' hgr' hbk')
      go_roundw
      all_goals first
       | (simp [intOf]; omega)
       | exact ⟨c.length + 1, z.toNat, _, by rw [Int.toNat_of_nonneg (by omega)], by go_num, by omega, by omega, by simp, HO2.out, HR2.out, HB2.out⟩
   ·have hkb0 : ((K : Int) == 1) = false := beq_eq_false_iff_ne.2 (by omega)
    go_wp2_with fail
    refine (HN1.out _).mono ?_
    rintro e w1 ⟨rfl, rfl⟩
    go_wp2_with fail
    refine (HN2.out _).mono ?_
    rintro e w1 ⟨rfl, rfl⟩
    go_wp2_with fail
    refine (HN3.out _).mono ?_
    rintro e w1 ⟨rfl, rfl⟩
    go_wp2_with fail
    have HBAD : Hid (q < 0 ∨ 1 < K → Sto.one (s.drop p) = none) := Lib.hid (HO1.out hK)
    have HGOOD : Hid (0 ≤ q → K ≤ 1 → Sto.one (s.drop p) = some (⟨false, T, []⟩, s.drop q.toNat) ∧ q ≤ s.length ∧ (p : Int) < q) := Lib.hid (HO2.out hK)
    have hnew := heap_new wr (.cells #[.bool false, .string ⟨T.toArray⟩, .string ⟨#[]⟩] 58)
    have hbw := balloc wr (.cells #[.bool false, .string ⟨T.toArray⟩, .string ⟨#[]⟩] 58)
    obtain ⟨W1, hW1⟩ : ∃ W, wr.alloc (.cells #[.bool false, .string ⟨T.toArray⟩, .string ⟨#[]⟩] 58) = W := ⟨_, rfl⟩
    rw [hW1] at hnew hbw ⊢
    clear hW1
    obtain ⟨d0, d1, d2, _⟩ : W1.cell? ⟨wr.heap.size, 0, none⟩ = some (.bool false) ∧ W1.cell? ⟨wr.heap.size, 1, none⟩ = some (.string ⟨T.toArray⟩) ∧ W1.cell? ⟨wr.heap.size, 2, none⟩ = some (.string ⟨#[]⟩) ∧ True := ⟨cell_of hnew rfl, cell_of hnew rfl, cell_of hnew rfl, trivial⟩
    have HB1 := Lib.hid hbw
    clear hbw hnew HN1 HN2 HN3 HN4 HN5 HO1 HO2 HO3 k5 k5' k5''
    obtain ⟨kb, hkb2⟩ : ∃ b, Sto.keyOk T = b := ⟨_, rfl⟩
    have HKY : Hid (∀ W, Calls Tryz.prog 107 #[.string ⟨T.toArray⟩] W fun e w' => e = .returned (.bool kb) ∧ w' = W) := Lib.hid (fun W => by
     have := rkey_any T W
     rw [hkb2] at this
     exact this.mono fun _ _ h => ⟨h.1, h.2.symm⟩)
    have HKB := Lib.hid hkb2
    clear hkb2
    rcases (show q < 0 ∨ (¬ q < 0 ∧ (1 : Int) < K) ∨ (¬ q < 0 ∧ ¬ (1 : Int) < K) by omega) with h1 | ⟨h1, h2⟩ | ⟨h1, h2⟩
    ·have HX : Hid (Sto.decode s count most = none) := Lib.hid (by rw [HD.out]; exact Sto.Read.bad (n := N - c.length - 1) (by rw [show N - c.length - 1 + 1 = N - c.length by omega]; exact HRD.out) (HBAD.out (.inl h1)))
     go_quiet (fail)
     go_wp2
     go_ret2
     exact ⟨_, by rw [HX.out]; rfl, by rw [HX.out]; exact DecAt.no (below_drewN (bthen HB.out HB1.out) _)⟩
    ·have HX : Hid (Sto.decode s count most = none) := Lib.hid (by rw [HD.out]; exact Sto.Read.bad (n := N - c.length - 1) (by rw [show N - c.length - 1 + 1 = N - c.length by omega]; exact HRD.out) (HBAD.out (.inr (by omega))))
     go_quiet (fail)
     go_wp2
     go_ret2
     exact ⟨_, by rw [HX.out]; rfl, by rw [HX.out]; exact DecAt.no (below_drewN (bthen HB.out HB1.out) _)⟩
    obtain ⟨g1, g2, g3⟩ := HGOOD.out (by omega) (by omega)
    have HG1 := Lib.hid g1
    clear g1
    cases kb with
    | false =>
     have HX : Hid (Sto.decode s count most = none) := Lib.hid (by rw [HD.out]; exact Sto.Read.bad' (n := N - c.length - 1) (by rw [show N - c.length - 1 + 1 = N - c.length by omega]; exact HRD.out) HG1.out (by (try simp only); rw [HKB.out]; rfl))
     go_quiet (first | (go_at_call 107; exact Calls.quiet_of_same (HKY.out _)))
     go_wp2
     go_ret2
     exact ⟨_, by rw [HX.out]; rfl, by rw [HX.out]; exact DecAt.no (below_drewN (bthen HB.out HB1.out) _)⟩
    | true =>
     by_cases hj0 : 0 < c.length
     ·obtain ⟨x, hx⟩ : ∃ x, c[c.length - 1]? = some x := ⟨_, List.getElem?_eq_getElem (by omega)⟩
      obtain ⟨ao, cap, rfl, hn1, hn2, hrd⟩ := chsAt_read (HOW.out)
      obtain ⟨g, rfl, hg, _, ck, _⟩ := hrd _ _ hx
      have ck1 := cell_later HB1.out ck
      have hlast : c.getLast?.map (·.key) = some x.key := by rw [List.getLast?_eq_getElem?, hx]; rfl
      have HLA := Lib.hid hlast
      obtain ⟨lk, hlk⟩ : ∃ k, x.key = k := ⟨_, rfl⟩
      rw [hlk] at HLA ck1
      clear hx hrd ck hlk hlast
      rcases Sto.lt_total T lk with hq | hq | hq
      ·have hle : Op.bytesLess T lk = true := hq
       have hlt2 := Sto.lt_asymm hq
       have HX : Hid (Sto.decode s count most = none) := Lib.hid (by rw [HD.out]; exact Sto.Read.bad' (n := N - c.length - 1) (by rw [show N - c.length - 1 + 1 = N - c.length by omega]; exact HRD.out) HG1.out (by (try simp only); rw [HLA.out, show Sto.after (some lk) T = Sto.lt lk T from rfl, hlt2, Bool.and_false]))
       go_quiet (first | (go_at_call 107; exact Calls.quiet_of_same (HKY.out _)))
       go_wp2
       go_ret2
       exact ⟨_, by rw [HX.out]; rfl, by rw [HX.out]; exact DecAt.no (below_drewN (bthen HB.out HB1.out) _)⟩
      ·have hle : Op.bytesLess T lk = false := by have := Sto.lt_irrefl lk; rw [← hq] at this ⊢; exact this
       have heq : (T == lk) = true := beq_iff_eq.2 hq
       have hlt2 : Sto.lt lk T = false := by rw [hq]; exact Sto.lt_irrefl lk
       clear hq
       have HX : Hid (Sto.decode s count most = none) := Lib.hid (by rw [HD.out]; exact Sto.Read.bad' (n := N - c.length - 1) (by rw [show N - c.length - 1 + 1 = N - c.length by omega]; exact HRD.out) HG1.out (by (try simp only); rw [HLA.out, show Sto.after (some lk) T = Sto.lt lk T from rfl, hlt2, Bool.and_false]))
       go_quiet (first | (go_at_call 107; exact Calls.quiet_of_same (HKY.out _)))
       go_wp2
       go_ret2
       exact ⟨_, by rw [HX.out]; rfl, by rw [HX.out]; exact DecAt.no (below_drewN (bthen HB.out HB1.out) _)⟩
      ·have hle : Op.bytesLess T lk = false := Sto.lt_asymm hq
       have heq : (T == lk) = false := beq_eq_false_iff_ne.2 (fun e => Sto.lt_ne hq e.symm)
       have HQ := Lib.hid hq
       clear hq
       have HR2 : Hid (Sto.Read N (s.drop count) (c ++ [⟨false, T, []⟩]) (N - (c.length + 1)) (s.drop q.toNat)) := Lib.hid (by
        rw [show N - (c.length + 1) = N - c.length - 1 by omega]
        exact Sto.Read.next (n := N - c.length - 1) (by rw [show N - c.length - 1 + 1 = N - c.length by omega]; exact HRD.out) HG1.out (by (try simp only); rw [HKB.out, (show Sto.valueOk [] = true from rfl), HLA.out, show Sto.after (some lk) T = Sto.lt lk T from rfl, HQ.out]; rfl))
       go_quiet (first | (go_at_call 107; exact Calls.quiet_of_same (HKY.out _)))
       have HBQ := Lib.hid (below_drewN (bthen HB.out HB1.out) nq)
       have HOW2 := Lib.hid (HOW.out.touch (S := fun _ => False) (.of_below (below_drewN HB1.out nq)) (fun _ _ h => h))
       have hcb : c.length + 1 ≤ 3298534883328 := by omega
       have d0' : (W1.drewN nq).cell? ⟨wr.heap.size, 0, none⟩ = some (.bool false) := cell_later (below_drewN (Below.refl _ W1) nq) d0
       have d1' : (W1.drewN nq).cell? ⟨wr.heap.size, 1, none⟩ = some (.string ⟨T.toArray⟩) := cell_later (below_drewN (Below.refl _ W1) nq) d1
       have d2' : (W1.drewN nq).cell? ⟨wr.heap.size, 2, none⟩ = some (.string ⟨#[]⟩) := cell_later (below_drewN (Below.refl _ W1) nq) d2
       go_wp2_with (at_builtin; refine wpList_append_ch _ rfl (.tmp 112) (.tmp 114) 48 58 chInfo11 Tryz.underlying48 rfl w.heap.size _ c ⟨false, T, []⟩ W1.heap.size rfl rfl (HOW2.out.touch (S := fun _ => False) (.of_below (balloc (W1.drewN nq) _)) (fun _ _ h => h)) (fun i u hi => cell_of (heap_new (W1.drewN nq) _) (by simpa [cCells] using hi)) hcb (bthen HBQ.out (balloc (W1.drewN nq) _)).size ?_; intro v' w' ho' hgr' hbk'; have HO2 := Lib.hid ho'; have HB2 := Lib.hid (below_grown (bthen HBQ.out (balloc (W1.drewN nq) _)) (bthen HBQ.out (balloc (W1.drewN nq) _)).size hgr' (fun k hk => (HOW2.out.lt k hk).1)); clear ho' hgr' hbk')
       go_roundw
       all_goals first
        | (simp [intOf]; omega)
        | exact ⟨c.length + 1, q.toNat, _, by rw [Int.toNat_of_nonneg (by omega)], by go_num, by omega, by omega, by simp, HO2.out, HR2.out, HB2.out⟩
     ·have HLN : Hid (Sto.after (c.getLast?.map (·.key)) T = true) := Lib.hid (by rw [List.eq_nil_of_length_eq_zero (show c.length = 0 by omega)]; rfl)
      have HR2 : Hid (Sto.Read N (s.drop count) (c ++ [⟨false, T, []⟩]) (N - (c.length + 1)) (s.drop q.toNat)) := Lib.hid (by
       rw [show N - (c.length + 1) = N - c.length - 1 by omega]
       exact Sto.Read.next (n := N - c.length - 1) (by rw [show N - c.length - 1 + 1 = N - c.length by omega]; exact HRD.out) HG1.out (by (try simp only); rw [HKB.out, (show Sto.valueOk [] = true from rfl), HLN.out]; rfl))
      go_quiet (first | (go_at_call 107; exact Calls.quiet_of_same (HKY.out _)))
      have HBQ := Lib.hid (below_drewN (bthen HB.out HB1.out) nq)
      have HOW2 := Lib.hid (HOW.out.touch (S := fun _ => False) (.of_below (below_drewN HB1.out nq)) (fun _ _ h => h))
      have hcb : c.length + 1 ≤ 3298534883328 := by omega
      have d0' : (W1.drewN nq).cell? ⟨wr.heap.size, 0, none⟩ = some (.bool false) := cell_later (below_drewN (Below.refl _ W1) nq) d0
      have d1' : (W1.drewN nq).cell? ⟨wr.heap.size, 1, none⟩ = some (.string ⟨T.toArray⟩) := cell_later (below_drewN (Below.refl _ W1) nq) d1
      have d2' : (W1.drewN nq).cell? ⟨wr.heap.size, 2, none⟩ = some (.string ⟨#[]⟩) := cell_later (below_drewN (Below.refl _ W1) nq) d2
      go_wp2_with (at_builtin; refine wpList_append_ch _ rfl (.tmp 112) (.tmp 114) 48 58 chInfo11 Tryz.underlying48 rfl w.heap.size _ c ⟨false, T, []⟩ W1.heap.size rfl rfl (HOW2.out.touch (S := fun _ => False) (.of_below (balloc (W1.drewN nq) _)) (fun _ _ h => h)) (fun i u hi => cell_of (heap_new (W1.drewN nq) _) (by simpa [cCells] using hi)) hcb (bthen HBQ.out (balloc (W1.drewN nq) _)).size ?_; intro v' w' ho' hgr' hbk'; have HO2 := Lib.hid ho'; have HB2 := Lib.hid (below_grown (bthen HBQ.out (balloc (W1.drewN nq) _)) (bthen HBQ.out (balloc (W1.drewN nq) _)).size hgr' (fun k hk => (HOW2.out.lt k hk).1)); clear ho' hgr' hbk')
      go_roundw
      all_goals first
       | (simp [intOf]; omega)
       | exact ⟨c.length + 1, q.toNat, _, by rw [Int.toNat_of_nonneg (by omega)], by go_num, by omega, by omega, by simp, HO2.out, HR2.out, HB2.out⟩
  ·have hcN : c.length = N := by omega
   rw [hcN, Nat.sub_self] at HRD
   have HX : Hid (Sto.decode s count most = if s.drop p = [] then some c else none) := Lib.hid (by rw [HD.out]; exact Sto.Read.done HRD.out)
   by_cases hpe : p = s.length
   ·have hpb : ((p : Int) == (s.length : Int)) = true := beq_iff_eq.2 (by omega)
    have HX2 : Hid (Sto.decode s count most = some c) := Lib.hid (by rw [HX.out, if_pos (by rw [hpe, List.drop_length])])
    go_wp2
    go_ret2
    exact ⟨_, by rw [HX2.out]; first | rfl | (rw [hpb]; rfl), by rw [HX2.out]; exact ⟨c, HOW.out.zero, fun k hk => Option.some.inj hk, HB.out⟩⟩
   ·have hpb : ((p : Int) == (s.length : Int)) = false := beq_eq_false_iff_ne.2 (by omega)
    have HX2 : Hid (Sto.decode s count most = none) := Lib.hid (by rw [HX.out, if_neg (fun h => by have := congrArg List.length h; rw [List.length_drop] at this; simp at this; omega)])
    go_wp2
    go_ret2
    exact ⟨_, by rw [HX2.out]; first | rfl | (rw [hpb]; rfl), by rw [HX2.out]; exact ⟨c, HOW.out.zero, fun k hk => (by cases hk), HB.out⟩⟩
end Go.Proofs.YtpjpknndfhablaaGreat
namespace Go.Proofs.YtpjpknndfhablaaGreat
namespace Sto
variable {H : Type}
theorem before_eq : ∀ a b : S, bytesBefore a b = lt a b
 | [], [] => rfl
 | [], _ :: _ => rfl
 | _ :: _, [] => rfl
 | x :: a, y :: b => by
  have ih := before_eq a b
  simp only [lt] at ih
  simp [bytesBefore, lt, Op.bytesLess, ih]
def entry (p : S × S) : Lit × DataW H := (.string p.1, .lit (.string p.2))
def mapOf (l : Pairs) : DataW H := .map (l.map entry)
theorem same_string (a b : S) : (Lit.string a).sameKey (.string b) = (a == b) := rfl
theorem filter_above {k : S} : ∀ (l : Pairs), (∀ p ∈ l, lt k p.1 = true) → (l.map (entry (H := H))).filter (fun p => !p.1.sameKey (.string k)) = l.map entry := by
 intro l h
 rw [List.filter_eq_self]
 intro x hx
 obtain ⟨p, hp, rfl⟩ := List.mem_map.1 hx
 have := lt_ne (h p hp)
 simp only [entry, same_string, Bool.not_eq_true', beq_eq_false_iff_ne]
 exact fun e => this e.symm
theorem insert_above {k v : S} : ∀ (l : Pairs), (∀ p ∈ l, lt k p.1 = true) → DataW.insert (entry (H := H) (k, v)) (l.map entry) = (l.map entry).cons (entry (k, v))
 | [], _ => rfl
 | p :: r, h => by
  have h1 := h p (by simp)
  have e : ((entry (H := H) (k, v)).1.before (entry (H := H) p).1) = true := by
   show bytesBefore k p.1 = true
   rw [before_eq]; exact h1
  simp only [List.map_cons, DataW.insert, e, if_true]
theorem mapOf_put : ∀ (l : Pairs) (k v : S), Rise l → (mapOf l : DataW H).put (.string k) (.lit (.string v)) = mapOf (put l k v) := by
 have key : ∀ (l : Pairs) (k v : S), Rise l → DataW.insert (entry (H := H) (k, v)) ((l.map entry).filter (fun p => !p.1.sameKey (.string k))) = (put l k v).map entry := by
  intro l
  induction l with
  | nil => intro k v _; rfl
  | cons p r ih =>
   intro k v h
   have A : ∀ x ∈ r, lt p.1 x.1 = true := fun x hx => List.rel_of_pairwise_cons h hx
   by_cases h1 : lt p.1 k = true
   ·have hne := lt_ne h1
    have e1 : (entry (H := H) p).1.sameKey (.string k) = false := by simp only [entry, same_string, beq_eq_false_iff_ne]; exact hne
    have e2 : ((entry (H := H) (k, v)).1.before (entry (H := H) p).1) = false := by
     show bytesBefore k p.1 = false
     rw [before_eq]; exact lt_asymm h1
    rw [put, if_pos h1, List.map_cons, List.filter_cons, e1]
    simp only [Bool.not_false, if_true, DataW.insert, e2, Bool.false_eq_true, if_false, List.map_cons]
    rw [ih k v (List.Pairwise.of_cons h)]
   ·rw [put, if_neg h1]
    by_cases h2 : p.1 = k
    ·have e1 : (entry (H := H) p).1.sameKey (.string k) = true := by simp only [entry, same_string, beq_iff_eq]; exact h2
     rw [if_pos h2, List.map_cons, List.filter_cons, e1]
     simp only [Bool.not_true, Bool.false_eq_true, if_false, List.map_cons]
     rw [filter_above r (by rw [← h2]; exact A), insert_above r (by rw [← h2]; exact A)]
    ·have h3 : lt k p.1 = true := by
      rcases lt_total p.1 k with h | h | h
      ·exact absurd h h1
      ·exact absurd h h2
      ·exact h
     have hall : ∀ x ∈ p :: r, lt k x.1 = true := by
      intro x hx
      rcases List.mem_cons.1 hx with rfl | hx
      ·exact h3
      ·exact lt_trans h3 (A x hx)
     rw [if_neg h2, filter_above _ hall, insert_above _ hall]
     rfl
 intro l k v h
 show DataW.map _ = DataW.map _
 rw [← key l k v h]
 rfl
theorem mapOf_del : ∀ (l : Pairs) (k : S), Rise l → (mapOf l : DataW H).del (.string k) = mapOf (del l k) := by
 have key : ∀ (l : Pairs) (k : S), Rise l → (l.map (entry (H := H))).filter (fun p => !p.1.sameKey (.string k)) = (del l k).map entry := by
  intro l
  induction l with
  | nil => intro k _; rfl
  | cons p r ih =>
   intro k h
   have A : ∀ x ∈ r, lt p.1 x.1 = true := fun x hx => List.rel_of_pairwise_cons h hx
   by_cases h1 : lt p.1 k = true
   ·have hne := lt_ne h1
    have e1 : (entry (H := H) p).1.sameKey (.string k) = false := by simp only [entry, same_string, beq_eq_false_iff_ne]; exact hne
    rw [del, if_pos h1, List.map_cons, List.filter_cons, e1]
    simp only [Bool.not_false, if_true, List.map_cons]
    rw [ih k (List.Pairwise.of_cons h)]
   ·rw [del, if_neg h1]
    by_cases h2 : p.1 = k
    ·have e1 : (entry (H := H) p).1.sameKey (.string k) = true := by simp only [entry, same_string, beq_iff_eq]; exact h2
     rw [if_pos h2, List.map_cons, List.filter_cons, e1]
     simp only [Bool.not_true, Bool.false_eq_true, if_false]
     exact filter_above r (by rw [← h2]; exact A)
    ·have h3 : lt k p.1 = true := by
      rcases lt_total p.1 k with h | h | h
      ·exact absurd h h1
      ·exact absurd h h2
      ·exact h
     rw [if_neg h2]
     refine filter_above _ ?_
     intro x hx
     rcases List.mem_cons.1 hx with rfl | hx
     ·exact h3
     ·exact lt_trans h3 (A x hx)
 intro l k h
 show DataW.map _ = DataW.map _
 rw [← key l k h]
theorem find_none {k : S} : ∀ (l : Pairs), (∀ p ∈ l, lt k p.1 = true) → (l.map (entry (H := H))).find? (fun p => p.1.sameKey (.string k)) = none := by
 intro l h
 rw [List.find?_eq_none]
 intro x hx
 obtain ⟨p, hp, rfl⟩ := List.mem_map.1 hx
 have := lt_ne (h p hp)
 simp only [entry, same_string, beq_iff_eq]
 exact fun e => this e.symm
theorem find_get : ∀ (l : Pairs) (k : S), Rise l → (l.map (entry (H := H))).find? (fun p => p.1.sameKey (.string k)) = (get l k).map fun v => entry (k, v) := by
 intro l
 induction l with
 | nil => intro k _; rfl
 | cons p r ih =>
  intro k h
  have A : ∀ x ∈ r, lt p.1 x.1 = true := fun x hx => List.rel_of_pairwise_cons h hx
  by_cases h1 : lt p.1 k = true
  ·have hne := lt_ne h1
   have e1 : (entry (H := H) p).1.sameKey (.string k) = false := by simp only [entry, same_string, beq_eq_false_iff_ne]; exact hne
   rw [get, if_pos h1, List.map_cons, List.find?_cons, e1]
   exact ih k (List.Pairwise.of_cons h)
  ·rw [get, if_neg h1]
   by_cases h2 : p.1 = k
   ·have e1 : (entry (H := H) p).1.sameKey (.string k) = true := by simp only [entry, same_string, beq_iff_eq]; exact h2
    rw [if_pos h2, List.map_cons, List.find?_cons, e1]
    simp [entry, h2]
   ·have h3 : lt k p.1 = true := by
     rcases lt_total p.1 k with h | h | h
     ·exact absurd h h1
     ·exact absurd h h2
     ·exact h
    rw [if_neg h2]
    refine find_none _ ?_
    intro x hx
    rcases List.mem_cons.1 hx with rfl | hx
    ·exact h3
    ·exact lt_trans h3 (A x hx)
theorem mapOf_atKey (l : Pairs) (k : S) (h : Rise l) (z : DataW H) : (mapOf l : DataW H).atKey (.string k) z = match get l k with | some v => .lit (.string v) | none => z := by
 unfold mapOf DataW.atKey
 simp only []
 rw [find_get l k h]
 cases get l k <;> rfl
theorem mapOf_has (l : Pairs) (k : S) (h : Rise l) : Maps.has (mapOf l : DataW H) (.string k) = here l k := by
 unfold mapOf here
 rw [Maps.has_eq]
 have h1 := find_get (H := H) l k h
 cases hg : get l k with
 | none =>
  rw [hg] at h1
  simp only [Option.map_none, List.find?_eq_none] at h1
  rw [Option.isSome_none, List.any_eq_false]
  exact h1
 | some v =>
  rw [hg] at h1
  simp only [Option.map_some] at h1
  rw [Option.isSome_some, List.any_eq_true]
  exact ⟨_, List.mem_of_find?_eq_some h1, by have := List.find?_some h1; exact this⟩
theorem mapOf_size (l : Pairs) : Maps.size (mapOf l : DataW H) = l.length := by simp [mapOf, Maps.size_eq]
end Sto
end Go.Proofs.YtpjpknndfhablaaGreat
namespace Go.Proofs.YtpjpknndfhablaaGreat
open Go.RowKit
/-- Block b is a map that holds these pairs. -/
def MapAt (w : World) (b : Nat) (l : Sto.Pairs) : Prop := w.ownsMap Tryz.prog 9 (plainElem (H := Unit) Tryz.prog 9) b l.length (Sto.mapOf l)
theorem MapAt.of {w : World} {b n : Nat} {l : Sto.Pairs} (h : w.ownsMap Tryz.prog 9 (plainElem (H := Unit) Tryz.prog 9) b n (Sto.mapOf l)) : MapAt w b l := by
 have hs := Sto.mapOf_size (H := Unit) l
 obtain ⟨es, clock, hb, F, _, hD⟩ := h
 refine ⟨es, clock, hb, F, ?_, hD⟩
 rw [hD] at hs
 have e1 : Maps.size (DataW.map ((es.toList.map (WideElems.rg Tryz.prog 9 (plainElem (H := Unit) Tryz.prog 9))).foldr DataW.insert [])) = es.size := by simp [Maps.size, DataW.length_sorted]
 rw [e1] at hs
 omega
theorem MapAt.lt {w : World} {b : Nat} {l : Sto.Pairs} (h : MapAt w b l) : b < w.heap.size := World.ownsMap.lt h
theorem MapAt.touch {S : Nat → Prop} {w w' : World} {b : Nat} {l : Sto.Pairs} (h : MapAt w b l) (ht : Touch S w w') (hS : ¬ S b) : MapAt w' b l := by
 have hlt := h.lt
 obtain ⟨es, clock, hb, r⟩ := h
 exact ⟨es, clock, (ht.block b hlt hS).trans hb, r⟩
theorem MapAt.below {w w' : World} {b : Nat} {l : Sto.Pairs} (h : MapAt w b l) (hb : Below w.heap.size w w') : MapAt w' b l :=
 h.touch (Touch.of_below (S := fun _ => False) hb) (fun h => h)
theorem MapAt.isMap {w : World} {b : Nat} {l : Sto.Pairs} (h : MapAt w b l) : ∃ es clock, w.heap[b]? = some (.map es clock) := by
 obtain ⟨es, clock, hb, _⟩ := h
 exact ⟨es, clock, hb⟩
theorem MapAt.made (w : World) : MapAt (w.alloc (.map #[] 0)) w.heap.size [] := World.ownsMap_made w _ _ _
theorem strKeyed : Maps.Keyed Tryz.prog 9 := Maps.string_keyed Tryz.underlying9
theorem keyOf_str1 (k : Sto.S) (hk : k.length ≤ maxLen) : keyOf Tryz.prog 9 (.string ⟨k.toArray⟩) = some (.string k) :=
 WideMaps.keyOf_string_mk Tryz.underlying9 (s := ⟨k.toArray⟩) (by simpa [ByteArray.size] using hk)
theorem plain_string {s : Sto.S} (h : s.length ≤ maxLen) : plainElem (H := Unit) Tryz.prog 9 (.string ⟨s.toArray⟩) = some (.lit (.string s), []) :=
 plainElem_string Tryz.underlying9 (s := ⟨s.toArray⟩) (by simpa [ByteArray.size] using h)
theorem MapAt.look {w : World} {b : Nat} {l : Sto.Pairs} (h : MapAt w b l) (hr : Sto.Rise l) (k : Sto.S) (hk : k.length ≤ maxLen) :
  (Instr.lookup 101 (.map (some b)) (.string ⟨k.toArray⟩) true).run Tryz.prog w = .ok (.tuple #[.string ⟨((Sto.get l k).getD []).toArray⟩, .bool (Sto.here l k)]) w := by
 obtain ⟨v, ps, hrun, hv⟩ := World.ownsMap.look_ok h strKeyed Tryz.underlying101 (Tryz.zeroValue9 w) (plainElem_string (H := Unit) Tryz.underlying9 (s := ⟨#[]⟩) (by decide)) (keyOf_str1 k hk)
 rw [hrun, Sto.mapOf_has l k hr]
 rw [Sto.mapOf_atKey l k hr] at hv
 obtain ⟨s, rfl, hz, _⟩ := plainElem_string_inv Tryz.underlying9 hv
 have e : s.data.toList = (Sto.get l k).getD [] := by
  cases hg : Sto.get l k with
  | none => rw [hg] at hz; have hz1 := congrArg Prod.fst hz; simp at hz1; simpa using hz1.symm
  | some x => rw [hg] at hz; have hz1 := congrArg Prod.fst hz; simp at hz1; simp [← hz1]
 rw [← e]
theorem MapAt.look1 {w : World} {b : Nat} {l : Sto.Pairs} (h : MapAt w b l) (hr : Sto.Rise l) (k : Sto.S) (hk : k.length ≤ maxLen) :
  (Instr.lookup 101 (.map (some b)) (.string ⟨k.toArray⟩) false).run Tryz.prog w = .ok (.string ⟨((Sto.get l k).getD []).toArray⟩) w := by
 obtain ⟨v, ps, hrun, hv⟩ := World.ownsMap.lookup h strKeyed Tryz.underlying101 (Tryz.zeroValue9 w) (plainElem_string (H := Unit) Tryz.underlying9 (s := ⟨#[]⟩) (by decide)) (keyOf_str1 k hk)
 rw [hrun]
 rw [Sto.mapOf_atKey l k hr] at hv
 obtain ⟨s, rfl, hz, _⟩ := plainElem_string_inv Tryz.underlying9 hv
 have e : s.data.toList = (Sto.get l k).getD [] := by
  cases hg : Sto.get l k with
  | none => rw [hg] at hz; have hz1 := congrArg Prod.fst hz; simp at hz1; simpa using hz1.symm
  | some x => rw [hg] at hz; have hz1 := congrArg Prod.fst hz; simp at hz1; simp [← hz1]
 rw [← e]
theorem MapAt.put {w : World} {b : Nat} {l : Sto.Pairs} (h : MapAt w b l) (hr : Sto.Rise l) (hl : l.length < maxLen) (k v : Sto.S) (hk : k.length ≤ maxLen) (hv : v.length ≤ maxLen) :
  ∃ w', (Instr.mapUpdate 101 (.map (some b)) (.string ⟨k.toArray⟩) (.string ⟨v.toArray⟩)).run Tryz.prog w = .ok () w' ∧ MapAt w' b (Sto.put l k v) ∧ w.grownBy w' (some b) := by
 obtain ⟨w', hrun, h1, h2⟩ := World.ownsMap.update h strKeyed Tryz.underlying101 hl (keyOf_str1 k hk) (plain_string hv)
 rw [Sto.mapOf_put l k v hr] at h1
 exact ⟨w', hrun, MapAt.of h1, h2⟩
theorem MapAt.del {w : World} {b : Nat} {l : Sto.Pairs} (h : MapAt w b l) (hr : Sto.Rise l) (k : Sto.S) (hk : k.length ≤ maxLen) (ty : TypeId) :
  ∃ w', (Builtin.delete_ #[101, 9] ty #[.map (some b), .string ⟨k.toArray⟩]).run Tryz.prog w = .ok (.tuple #[]) w' ∧ MapAt w' b (Sto.del l k) ∧ w.grownBy w' (some b) := by
 obtain ⟨w', hrun, h1, es, clock, es', clock', hb, rfl⟩ := World.ownsMap.drop h strKeyed Tryz.underlying101 (keyOf_str1 k hk) ty
 rw [Sto.mapOf_del l k hr] at h1
 exact ⟨_, hrun, MapAt.of h1, ⟨rfl, rfl, rfl, by simp [ChangeMaps.setBlock], fun i _ hi => ChangeMaps.heap_setBlock_other hb _ (fun e => hi (by rw [e]))⟩⟩
theorem MapAt.len {w : World} {b : Nat} {l : Sto.Pairs} (h : MapAt w b l) (ty : TypeId) : (Builtin.len_ #[101] ty #[.map (some b)]).run Tryz.prog w = .ok (.int .i64 l.length) w := by
 have := World.ownsMap.len h Tryz.underlying101 ty
 rwa [Sto.mapOf_size] at this
end Go.Proofs.YtpjpknndfhablaaGreat
namespace Go.Proofs.YtpjpknndfhablaaGreat
open Go.RowKit
theorem ReaderAt.below {w w' : World} {b : Nat} {s : Sto.S} {lost : Bool} (h : ReaderAt w b s lost) (hb : Below w.heap.size w w') : ReaderAt w' b s lost := stays h hb
namespace Sto
/-- What the reader's take gives, what is left, whether it was overrun. -/
def rtake (s : S) (lost : Bool) (n : Nat) : S × S × Bool := if lost = true ∨ s.length < n then ([], s, true) else (s.take n, s.drop n, false)
theorem rtake_length (s : S) (lost : Bool) (n : Nat) : (rtake s lost n).1.length ≤ n ∧ (rtake s lost n).2.1.length ≤ s.length ∧ (rtake s lost n).1.length ≤ s.length := by
 unfold rtake
 split
 ·exact ⟨by simp, Nat.le_refl _, by simp⟩
 ·exact ⟨by simp; omega, by simp, by simp; omega⟩
end Sto
theorem rtake_any (b : Nat) (s : Sto.S) (lost : Bool) (n : Nat) (w : World) (h : ReaderAt w b s lost) :
  Calls Tryz.prog 100 #[.pointer (some ⟨b, 0, none⟩), .int .i64 n] w fun e w' => e = .returned (.string ⟨(Sto.rtake s lost n).1.toArray⟩) ∧ ReaderAt w' b (Sto.rtake s lost n).2.1 (Sto.rtake s lost n).2.2 ∧ Touch (· = b) w w' := by
 cases lost with
 | true => rw [show Sto.rtake s true n = ([], s, true) from by unfold Sto.rtake; rw [if_pos (.inl rfl)]]; exact take_lost b s n w h
 | false =>
  by_cases hn : s.length < n
  ·rw [show Sto.rtake s false n = ([], s, true) from by unfold Sto.rtake; rw [if_pos (.inr hn)]]; exact take_short b s n w h hn
  ·rw [show Sto.rtake s false n = (s.take n, s.drop n, false) from by unfold Sto.rtake; rw [if_neg (by simp; omega)]]; exact take_some b s n w h (Nat.le_of_not_lt hn)
theorem i64_or_low (n b : Nat) (hn : n * 256 < 4611686018427387904) (hb : b < 256) : bits .or .i64 ((n : Int) * 256) (b : Int) = ((n * 256 + b : Nat) : Int) := by
 have h := u64_or_low n b (by omega) hb
 have e : ∀ x : Int, 0 ≤ x → x < 4611686018427387904 → IntKind.i64.wrap x = x := fun x h0 h1 => IntWalk.i64_in _ (by omega)
 have h2 : bits .or .i64 ((n : Int) * 256) (b : Int) = IntKind.i64.wrap (bits .or .u64 ((n : Int) * 256) (b : Int)) := by
  rw [h]
  unfold bits at h ⊢
  simp only [IntKind.bits] at h ⊢
  rw [IntWalk.u64_in _ ⟨by omega, by have := (BitVec.isLt (BitVec.ofInt 64 ((n : Int) * 256) ||| BitVec.ofInt 64 (b : Int))); omega⟩] at h
  exact congrArg IntKind.i64.wrap h
 rw [h2, h, e _ (by omega) (by omega)]
set_option maxHeartbeats 2000000 in
set_option maxRecDepth 100000 in
theorem rdnumber_any (b : Nat) (s : Sto.S) (lost : Bool) (n : Nat) (w : World) (h : ReaderAt w b s lost) (hn : n ≤ 4) :
  Calls Tryz.prog 99 #[.pointer (some ⟨b, 0, none⟩), .int .i64 n] w fun e w' => e = .returned (.int .i64 (Sha.val (Sto.rtake s lost n).1)) ∧ ReaderAt w' b (Sto.rtake s lost n).2.1 (Sto.rtake s lost n).2.2 ∧ Touch (· = b) w w' := by
 have hT := rtake_any b s lost n w h
 obtain ⟨hl1, _⟩ := Sto.rtake_length s lost n
 obtain ⟨T, r, lo, hR⟩ : ∃ T r lo, Sto.rtake s lost n = (T, r, lo) := ⟨_, _, _, rfl⟩
 rw [hR] at hT hl1
 simp only at hT hl1
 rw [hR]
 have HT := Lib.hid hT
 have hlt : b < w.heap.size := heap_lt h
 have hTl : T.length ≤ maxLen := by unfold maxLen; omega
 clear hT h hR
 go_enter Tryz.func99, Tryz.ntmps99
 go_wp2_with (first
  | (go_at_call 100; refine HT.out.mono ?_; rintro e w1 ⟨rfl, hr1, ht1⟩; have HR1 := Lib.hid hr1; have HT1 := Lib.hid ht1; clear hr1 ht1)
  | (refine wpList_convert_bytes w1 rfl 9 175 5 (.tmp 10) rfl Tryz.underlying9 Tryz.underlying175 Tryz.underlying5 T rfl hTl w1.heap.size (Nat.le_refl _) ?_; intro v2 w2 ho2 hb2 hv2; have HO2 := Lib.hid ho2; have HB2 := Lib.hid hb2; obtain ⟨ao, cap, rfl, hc1, hc2⟩ := ho2.slice; clear ho2 hb2 hv2))
 have hcell : ∀ (j : Nat) (x : UInt8), T[j]? = some x → ∃ g, ao = some ⟨g, 0, none⟩ ∧ w2.cell? ⟨g, j, none⟩ = some (.int .u8 x.toNat) := fun j x hj => by
  rcases HO2.out.2 with ⟨hv, h0⟩ | ⟨g, cap', hv, _, _, _, _, _, hx⟩
  ·have := (List.getElem?_eq_some_iff.1 hj).1; omega
  ·have e1 : ao = some ⟨g, 0, none⟩ := by injection hv
   exact ⟨g, e1, hx j _ (by simp [bytesOf, hj])⟩
 have HC := Lib.hid hcell
 clear hcell
 go_loop [5, 7, 13] (fun m c i => ∃ j k : Nat, j ≤ T.length ∧ i = .int .i64 j ∧ m = .int .i64 k ∧ k = Sha.val (T.take j)) (fun _ _ i => T.length - (intOf i).toNat)
 case atStart => exact ⟨0, 0, by omega, rfl, rfl, by simp [Sha.val]⟩
 case round =>
  obtain ⟨j, k, hj, rfl, rfl, hk⟩ := hrel
  have hlt2 := Sha.val_lt (T.take j)
  rw [← hk] at hlt2
  have HK := Lib.hid hk
  clear hk
  by_cases hjl : j < T.length
  ·have hp : (256 : Nat) ^ (T.take j).length ≤ 256 ^ 3 := Nat.pow_le_pow_right (by decide) (by simp; omega)
   have hm' : k * 256 < 4611686018427387904 := by
    have : (256 : Nat) ^ 3 = 16777216 := rfl
    omega
   obtain ⟨x, hx⟩ : ∃ x, T[j]? = some x := ⟨_, List.getElem?_eq_getElem hjl⟩
   obtain ⟨g, rfl, hc⟩ := HC.out j x hx
   have hb := x.toNat_lt
   have HS : Hid (Sha.val (T.take (j + 1)) = k * 256 + x.toNat) := Lib.hid (by
    rw [List.take_add_one, hx]
    simp only [Option.toList_some]
    rw [Sha.val_snoc, HK.out])
   have hor := i64_or_low k x.toNat hm' hb
   clear hlt2 hp hx
   go_wp2
   go_round
   case rel => exact ⟨j + 1, _, by omega, by go_num, rfl, HS.out.symm⟩
   case measure => simp [intOf]; omega
  ·have hjT : j = T.length := by omega
   clear hlt2
   go_wp2
   go_ret
   exact ⟨ret_int (by rw [HK.out, hjT, List.take_length]), HR1.out.below HB2.out, Touch.trans HT1.out (Touch.of_below HB2.out) (fun _ _ h => h)⟩
set_option maxHeartbeats 2000000 in
set_option maxRecDepth 100000 in
theorem number11_any (n k : Nat) (w : World) (hk : k ≤ 4) (_hn : n < 4611686018427387904) :
  Calls Tryz.prog 123 #[.int .i64 n, .int .i64 k] w fun e w' => e = .returned (.string ⟨(Sha.big n k).toArray⟩) ∧ Below w.heap.size w w' := by
 obtain ⟨w1, hmk, hr1, hb1⟩ := make8 k k rfl (by omega) w
 have R1 := Lib.hid hr1
 have B1 := Lib.hid hb1
 clear hr1 hb1
 obtain ⟨L, hL⟩ : ∃ L, Sha.big n k = L := ⟨_, rfl⟩
 have hLl : L.length = k := by rw [← hL]; exact Sha.big_length _ _
 have hat : ∀ (j : Nat) (h : j < L.length), (L[j]'h) = UInt8.ofNat (n / 256 ^ (k - 1 - j)) := fun j h => by
  have h1 := Sha.big_take n k j (by omega)
  rw [hL, List.take_succ_eq_append_getElem h] at h1
  simpa using List.append_cancel_left h1
 have HAT := Lib.hid hat
 rw [hL]
 clear hL hat
 go_enter Tryz.func123, Tryz.ntmps123
 go_wp2_with fail
 clear hmk
 go_loopw [11] (fun i wr => ∃ j : Nat, j ≤ k ∧ i = .int .i64 j ∧ RowB wr w.heap.size (L.take j ++ List.replicate (k - j) 0) ∧ Below w.heap.size w wr) (fun i _ => k - (intOf i).toNat)
 case atStart => exact ⟨0, by omega, rfl, by simpa using R1.out, B1.out⟩
 case round =>
  obtain ⟨j, hj, rfl, hr, hb⟩ := hrel
  have HR := Lib.hid hr
  have HB := Lib.hid hb
  clear hr hb
  by_cases hjk : j < k
  ·have hjl : j < L.length := by omega
   have hsh : (8 * ((k : Int) - 1 - j)).toNat = 8 * (k - 1 - j) := by omega
   have HV := Lib.hid (u8_big n (k - 1 - j))
   have hc := HR.out.2 j 0 (by rw [List.getElem?_append_right (by simp; omega), List.length_take, Nat.min_eq_left (by omega), Nat.sub_self, show k - j = (k - j - 1) + 1 by omega]; rfl)
   have hc1 := hc.1
   have hc2 := hc.2
   clear hc
   go_wp2
   refine ⟨⟨j + 1, by omega, by go_num, ?_, HB.out.setCell (p := ⟨w.heap.size, j, none⟩) (Nat.le_refl _) _⟩, by simp [intOf]; omega⟩
   have h := HR.out.set j (L[j]'hjl)
   rw [bytes_set_front L k j hjl hjk, HAT.out j hjl, ← HV.out] at h
   first
    | exact h
    | (rw [Int.natCast_emod, Int.natCast_ediv, Int.natCast_pow] at h; exact h)
  ·obtain rfl : j = k := by omega
   have hr2 : RowB wr w.heap.size L := by
    have h := HR.out
    rw [Nat.sub_self, List.replicate_zero, List.append_nil, List.take_of_length_le (by omega)] at h
    exact h
   have HO := Lib.hid (ownF_row hr2 (Nat.le_refl _) (by unfold maxLen; omega))
   rw [hLl] at HO
   clear hr2
   go_wp2_with (first | (refine wpList_convert_string _ rfl 175 9 5 (.tmp 26) rfl Tryz.underlying175 Tryz.underlying5 Tryz.underlying9 rfl (by rw [hLl]; exact HO.out) ?_))
   go_ret
   exact ⟨rfl, HB.out⟩
end Go.Proofs.YtpjpknndfhablaaGreat
