/- The program's decode. -/
import Derived.Test.YtpjpknndfhablaaGreatK7
namespace Go.Proofs.YtpjpknndfhablaaGreat
open Go.RowKit
theorem bthenB {B : Nat} {w w1 w2 : World} (h : Below B w w1) (h' : Below w1.heap.size w1 w2) (hs : B ≤ w1.heap.size) : Below B w w2 := h.trans (h'.mono hs)
theorem ReaderAt.touch {S : Nat → Prop} {w w' : World} {b : Nat} {s : Sto.S} {lost : Bool} (h : ReaderAt w b s lost) (ht : Touch S w w') (hS : ¬ S b) : ReaderAt w' b s lost := (ht.block b (heap_lt h) hS).trans h
namespace Sto
theorem rtake_ok {s : S} {n : Nat} (h : n ≤ s.length) : rtake s false n = (s.take n, s.drop n, false) := by unfold rtake; rw [if_neg (by simp; omega)]
theorem rtake_bad {s : S} {lost : Bool} {n : Nat} (h : lost = true ∨ s.length < n) : rtake s lost n = ([], s, true) := by unfold rtake; rw [if_pos h]
/-- What the program's reader gives of one change. -/
def pk (s : S) : S × S × Bool := rtake s false 1
def pm (s : S) : S × S × Bool := rtake (pk s).2.1 (pk s).2.2 1
def pt (s : S) : S × S × Bool := rtake (pm s).2.1 (pm s).2.2 (Sha.val (pm s).1)
def pl (s : S) : S × S × Bool := rtake (pt s).2.1 (pt s).2.2 2
def px (s : S) : S × S × Bool := rtake (pl s).2.1 (pl s).2.2 (Sha.val (pl s).1)
theorem pheads (s : S) : (s.length < 2 ∧ (pt s).2.2 = true ∧ (pt s).1 = [] ∧ one s = none) ∨
  ∃ x y r, s = x :: y :: r ∧ pk s = ([x], y :: r, false) ∧ pm s = ([y], r, false) := by
 rcases s with _ | ⟨x, _ | ⟨y, r⟩⟩
 ·left
  have h1 : pk [] = ([], [], true) := rtake_bad (.inr (by simp))
  have h2 : pm [] = ([], [], true) := by unfold pm; rw [h1]; exact rtake_bad (.inl rfl)
  have h3 : pt [] = ([], [], true) := by unfold pt; rw [h2]; exact rtake_bad (.inl rfl)
  rw [h3]
  exact ⟨by simp, rfl, rfl, rfl⟩
 ·left
  have h1 : pk [x] = ([x], [], false) := rtake_ok (by simp)
  have h2 : pm [x] = ([], [], true) := by unfold pm; rw [h1]; exact rtake_bad (.inr (by simp))
  have h3 : pt [x] = ([], [], true) := by unfold pt; rw [h2]; exact rtake_bad (.inl rfl)
  rw [h3]
  exact ⟨by simp, rfl, rfl, rfl⟩
 ·right
  have h1 : pk (x :: y :: r) = ([x], y :: r, false) := rtake_ok (by simp)
  exact ⟨x, y, r, rfl, h1, by unfold pm; rw [h1]; exact rtake_ok (by simp)⟩
theorem pt_cases {s : S} {y : UInt8} {r : S} (hm : pm s = ([y], r, false)) : (r.length < y.toNat ∧ pt s = ([], r, true)) ∨ (y.toNat ≤ r.length ∧ pt s = (r.take y.toNat, r.drop y.toNat, false)) := by
 have hv : Sha.val [y] = y.toNat := val_one y
 rcases Nat.lt_or_ge r.length y.toNat with h | h
 ·exact .inl ⟨h, by unfold pt; rw [hm]; simp only; rw [hv]; exact rtake_bad (.inr h)⟩
 ·exact .inr ⟨h, by unfold pt; rw [hm]; simp only; rw [hv]; exact rtake_ok h⟩
theorem p_del {s : S} (h1 : Sha.val (pk s).1 ≠ 1) : ((pt s).2.2 = true ∨ 1 < Sha.val (pk s).1 → one s = none) ∧ ((pt s).2.2 = false → Sha.val (pk s).1 ≤ 1 → one s = some (⟨false, (pt s).1, []⟩, (pt s).2.1)) := by
 rcases pheads s with ⟨_, h2, _, h3⟩ | ⟨x, y, r, rfl, hk, hm⟩
 ·exact ⟨fun _ => h3, fun h => by rw [h2] at h; cases h⟩
 ·rw [hk] at h1 ⊢
  simp only [val_one] at h1 ⊢
  have hx1 : x ≠ 1 := fun e => h1 (by rw [e]; rfl)
  rcases pt_cases hm with ⟨a, b⟩ | ⟨a, b⟩
  ·rw [b]
   exact ⟨fun _ => by simp only [one, if_pos a], fun h => by cases h⟩
  ·rw [b]
   refine ⟨fun h => ?_, fun _ h => ?_⟩
   ·have hx0 : x ≠ 0 := fun e => by rw [e] at h; rcases h with h | h; cases h; simp at h
    simp only [one, if_neg (Nat.not_lt.2 a), if_neg hx0, if_neg hx1]
   ·have hx : x = 0 := toNat_zero (by omega)
    simp only [one, if_neg (Nat.not_lt.2 a), hx, if_true]
theorem p_put {s : S} (h1 : Sha.val (pk s).1 = 1) : ((px s).2.2 = true → one s = none) ∧ ((px s).2.2 = false → one s = some (⟨true, (pt s).1, (px s).1⟩, (px s).2.1)) := by
 rcases pheads s with ⟨_, h2, _, h3⟩ | ⟨x, y, r, rfl, hk, hm⟩
 ·have hl : pl s = ([], (pt s).2.1, true) := by unfold pl; exact rtake_bad (.inl h2)
  have hx : px s = ([], (pt s).2.1, true) := by unfold px; rw [hl]; exact rtake_bad (.inl rfl)
  rw [hx]
  exact ⟨fun _ => h3, fun h => by cases h⟩
 ·rw [hk] at h1
  simp only [val_one] at h1
  have hx : x = 1 := toNat_one h1
  have h10 : ¬ ((1 : UInt8) = 0) := by decide
  rcases pt_cases hm with ⟨a, b⟩ | ⟨a, b⟩
  ·have hl : pl (x :: y :: r) = ([], r, true) := by unfold pl; rw [b]; exact rtake_bad (.inl rfl)
   have hx' : px (x :: y :: r) = ([], r, true) := by unfold px; rw [hl]; exact rtake_bad (.inl rfl)
   rw [hx']
   exact ⟨fun _ => by simp only [one, if_pos a], fun h => by cases h⟩
  ·by_cases hc : (r.drop y.toNat).length < 2
   ·have hl : pl (x :: y :: r) = ([], r.drop y.toNat, true) := by unfold pl; rw [b]; exact rtake_bad (.inr hc)
    have hx' : px (x :: y :: r) = ([], r.drop y.toNat, true) := by unfold px; rw [hl]; exact rtake_bad (.inl rfl)
    rw [hx']
    exact ⟨fun _ => by simp only [one, if_neg (Nat.not_lt.2 a), hx, h10, if_false, if_true, if_pos hc], fun h => by cases h⟩
   ·have hl : pl (x :: y :: r) = ((r.drop y.toNat).take 2, (r.drop y.toNat).drop 2, false) := by unfold pl; rw [b]; exact rtake_ok (by simp only; omega)
    by_cases hv : ((r.drop y.toNat).drop 2).length < Sha.val ((r.drop y.toNat).take 2)
    ·have hx' : px (x :: y :: r) = ([], (r.drop y.toNat).drop 2, true) := by unfold px; rw [hl]; exact rtake_bad (.inr hv)
     rw [hx']
     exact ⟨fun _ => by simp only [one, if_neg (Nat.not_lt.2 a), hx, h10, if_false, if_true, if_neg hc, if_pos hv], fun h => by cases h⟩
    ·have hx' : px (x :: y :: r) = (((r.drop y.toNat).drop 2).take (Sha.val ((r.drop y.toNat).take 2)), ((r.drop y.toNat).drop 2).drop (Sha.val ((r.drop y.toNat).take 2)), false) := by unfold px; rw [hl]; exact rtake_ok (by simp only; omega)
     rw [hx', b]
     exact ⟨fun h => (by cases h), fun _ => by simp only [one, if_neg (Nat.not_lt.2 a), hx, h10, if_false, if_true, if_neg hc, if_neg hv]⟩
end Sto
theorem touch_b {b : Nat} {w w1 w2 : World} (h : Touch (· = b) w w1) (h' : Touch (· = b) w1 w2) : Touch (· = b) w w2 := Touch.trans h h' (fun _ _ e => e)
set_option maxHeartbeats 4000000 in
set_option maxRecDepth 100000 in
theorem decode11_any (s : Sto.S) (count most : Nat) (w : World) (_hs : s.length ≤ 4611686018427387000) (hc : count ≤ 4) (hm : most ≤ 2048) :
  Calls Tryz.prog 48 #[.string ⟨s.toArray⟩, .int .i64 count, .int .i64 most] w fun e w' => ∃ v, e = .returned (.tuple #[v, .bool (Sto.decode s count most).isSome]) ∧ DecAt (Sto.decode s count most) w w' v := by
 obtain ⟨b, hb⟩ : ∃ b, w.heap.size = b := ⟨_, rfl⟩
 have hnew := heap_new w (.cells #[.string ⟨s.toArray⟩, .bool false] 162)
 have hba := balloc w (.cells #[.string ⟨s.toArray⟩, .bool false] 162)
 have hsz : (w.alloc (.cells #[.string ⟨s.toArray⟩, .bool false] 162)).heap.size = b + 1 := by simp [hb]
 rw [hb] at hnew hba
 obtain ⟨wa, hwa⟩ : ∃ W, w.alloc (.cells #[.string ⟨s.toArray⟩, .bool false] 162) = W := ⟨_, rfl⟩
 rw [hwa] at hnew hba hsz
 have HRA : Hid (ReaderAt wa b s false) := Lib.hid hnew
 have HBA := Lib.hid hba
 have hn := rdnumber_any b s false count wa HRA.out hc
 obtain ⟨hle1, _⟩ := Sto.rtake_length s false count
 have hNb := Sha.val_lt (Sto.rtake s false count).1
 have hNb2 : Sha.val (Sto.rtake s false count).1 ≤ 4294967296 := by
  have h1 : 256 ^ (Sto.rtake s false count).1.length ≤ 256 ^ 4 := Nat.pow_le_pow_right (by decide) (by omega)
  have h2 : (256 : Nat) ^ 4 = 4294967296 := rfl
  omega
 have hdn : s.length < count → Sha.val (Sto.rtake s false count).1 = 0 := fun h => by rw [Sto.rtake_bad (.inr h)]; rfl
 have hdo : ¬ s.length < count → Sto.rtake s false count = (s.take count, s.drop count, false) := fun h => Sto.rtake_ok (by omega)
 obtain ⟨N, hN⟩ : ∃ N, Sha.val (Sto.rtake s false count).1 = N := ⟨_, rfl⟩
 rw [hN] at hn hNb2 hdn
 have HN := Lib.hid hn
 clear hn hNb hnew hba
 by_cases h2 : N < 1 ∨ most < N
 ·have HD : Hid (Sto.decode s count most = none) := Lib.hid (by
   unfold Sto.decode
   by_cases h1 : s.length < count
   ·rw [if_pos h1]
   ·have := hdo h1
    rw [this] at hN
    rw [if_neg h1, show Sha.val (s.take count) = N from hN, if_pos h2])
  clear hN hdo hdn
  rcases h2 with h2 | h2
  all_goals go_enter Tryz.func48, Tryz.ntmps48
  all_goals go_wp2_with fail
  all_goals try rw [hwa]
  all_goals try rw [hb]
  all_goals refine HN.out.mono ?_
  all_goals rintro e w1 ⟨rfl, _, ht1⟩
  all_goals have HB1 := Lib.hid (HBA.out.trans (ht1.below (B := b) (by omega) (fun k hk e => by omega)))
  all_goals clear ht1
  all_goals go_wp2
  all_goals go_ret2
  all_goals exact ⟨_, by rw [HD.out]; rfl, by rw [HD.out]; exact DecAt.no (by rw [hb]; exact HB1.out)⟩
 have h1 : ¬ s.length < count := fun h => by have := hdn h; omega
 have hrt := hdo h1
 rw [hrt] at hN HN
 have HD : Hid (Sto.decode s count most = Sto.dec N (s.drop count) none) := Lib.hid (by unfold Sto.decode; rw [if_neg h1, show Sha.val (s.take count) = N from hN, if_neg h2])
 have h3 : 1 ≤ N := by omega
 have h4 : N ≤ most := by omega
 have hmN : decide (most < N) = false := decide_eq_false (by omega)
 have hmN2 : decide ((N : Int) < 1) = false := decide_eq_false (by omega)
 clear hN h1 h2 hdo hdn hrt hle1
 go_enter Tryz.func48, Tryz.ntmps48
 go_wp2_with fail
 try rw [hwa]
 try rw [hb]
 refine HN.out.mono ?_
 rintro e w1 ⟨rfl, hr1, ht1⟩
 have HB1 := Lib.hid (HBA.out.trans (ht1.below (B := b) (by omega) (fun k hk e => by omega)))
 have HR1 := Lib.hid hr1
 have hsz1 : b + 1 ≤ w1.heap.size := by have := ht1.size; omega
 clear hr1 ht1 hwa hsz
 go_wp2_with fail
 go_loopw [10, 11] (fun v i wr => ∃ (c : List Sto.Ch) (r : Sto.S) (lost : Bool), i = .int .i64 c.length ∧ c.length ≤ N ∧ r.length ≤ s.length ∧ ReaderAt wr b r lost ∧ OwnF wr (b + 1) 3 v c.length (cCells c) ∧ (lost = false → Sto.Read N (s.drop count) c (N - c.length) r) ∧ (lost = true → Sto.decode s count most = none) ∧ Below b w wr) (fun _ i _ => N - (intOf i).toNat)
 case atStart => exact ⟨[], s.drop count, false, rfl, Nat.zero_le _, by simp, HR1.out, ⟨rfl, .inl ⟨rfl, rfl⟩⟩, fun _ => Sto.Read.start _ _, fun h => (by cases h), HB1.out⟩
 case round =>
  obtain ⟨c, r, lost, rfl, hj, hrl, hrd, hown, hread, hlo, hbl⟩ := hrel
  obtain ⟨q0, q1, _, _⟩ := hrd.cells
  have HRD := Lib.hid hrd
  have HOW := Lib.hid hown
  have HRE := Lib.hid hread
  have HLO := Lib.hid hlo
  have HB := Lib.hid hbl
  have hszr : b + 1 ≤ wr.heap.size := by have := heap_lt hrd; omega
  clear hown hread hlo hbl hrd
  have hend : (lost = true ∧ c.length < N) ∨ N ≤ c.length ∨ (lost = false ∧ c.length < N) := by
   rcases Nat.lt_or_ge c.length N with h | h
   ·cases lost
    ·exact .inr (.inr ⟨rfl, h⟩)
    ·exact .inl ⟨rfl, h⟩
   ·exact .inr (.inl h)
  rcases hend with ⟨rfl, hlt⟩ | hge | ⟨rfl, hlt⟩
  ·-- it was overrun
   have HX : Hid (Sto.decode s count most = none) := Lib.hid (HLO.out rfl)
   go_wp2
   go_quiet (fail)
   go_wp2
   go_ret2
   exact ⟨_, by rw [HX.out]; rfl, by rw [HX.out]; exact ⟨c, (HOW.out.touch (S := fun _ => False) (.of_below (below_drewN (Below.refl _ wr) _)) (fun _ _ h => h)).zero, fun k hk => (by cases hk), by rw [hb]; exact below_drewN HB.out _⟩⟩
  ·-- all are read
   have hcN : c.length = N := by omega
   cases lost with
   | true =>
    have HX : Hid (Sto.decode s count most = none) := Lib.hid (HLO.out rfl)
    go_wp2
    go_quiet (fail)
    go_wp2
    go_ret2
    exact ⟨_, by rw [HX.out]; rfl, by rw [HX.out]; exact ⟨c, (HOW.out.touch (S := fun _ => False) (.of_below (below_drewN (Below.refl _ wr) _)) (fun _ _ h => h)).zero, fun k hk => (by cases hk), by rw [hb]; exact below_drewN HB.out _⟩⟩
   | false =>
    have hre := HRE.out rfl
    rw [hcN, Nat.sub_self] at hre
    have HX : Hid (Sto.decode s count most = if r = [] then some c else none) := Lib.hid (by rw [HD.out]; exact Sto.Read.done hre)
    clear hre
    by_cases hpe : r = []
    ·have hpb : (r == []) = true := beq_iff_eq.2 hpe
     rw [if_pos hpe] at HX
     go_wp2
     go_quiet (fail)
     go_wp2
     go_ret2
     exact ⟨_, by rw [HX.out]; first | rfl | (rw [hpb]; rfl), by rw [HX.out]; exact ⟨c, (HOW.out.touch (S := fun _ => False) (.of_below (below_drewN (Below.refl _ wr) _)) (fun _ _ h => h)).zero, fun k hk => Option.some.inj hk, by rw [hb]; exact below_drewN HB.out _⟩⟩
    ·have hpb : (r == []) = false := beq_eq_false_iff_ne.2 hpe
     rw [if_neg hpe] at HX
     go_wp2
     go_quiet (fail)
     go_wp2
     go_ret2
     exact ⟨_, by rw [HX.out]; first | rfl | (rw [hpb]; rfl), by rw [HX.out]; exact ⟨c, (HOW.out.touch (S := fun _ => False) (.of_below (below_drewN (Below.refl _ wr) _)) (fun _ _ h => h)).zero, fun k hk => (by cases hk), by rw [hb]; exact below_drewN HB.out _⟩⟩
  ·-- a round
   have HRD0 := Lib.hid (HRE.out rfl)
   have hPD := Sto.p_del (s := r)
   have hPP := Sto.p_put (s := r)
   have e1 : Sto.rtake r false 1 = Sto.pk r := rfl
   have e2 : Sto.rtake (Sto.pk r).2.1 (Sto.pk r).2.2 1 = Sto.pm r := rfl
   have e3 : Sto.rtake (Sto.pm r).2.1 (Sto.pm r).2.2 (Sha.val (Sto.pm r).1) = Sto.pt r := rfl
   have e4 : Sto.rtake (Sto.pt r).2.1 (Sto.pt r).2.2 2 = Sto.pl r := rfl
   have e5 : Sto.rtake (Sto.pl r).2.1 (Sto.pl r).2.2 (Sha.val (Sto.pl r).1) = Sto.px r := rfl
   have b1 := Sto.rtake_length r false 1
   have b2 := Sto.rtake_length (Sto.pk r).2.1 (Sto.pk r).2.2 1
   have b3 := Sto.rtake_length (Sto.pm r).2.1 (Sto.pm r).2.2 (Sha.val (Sto.pm r).1)
   have b4 := Sto.rtake_length (Sto.pt r).2.1 (Sto.pt r).2.2 2
   have b5 := Sto.rtake_length (Sto.pl r).2.1 (Sto.pl r).2.2 (Sha.val (Sto.pl r).1)
   have n1 := fun W h => rdnumber_any b r false 1 W h (by decide)
   have n2 := fun W h => rdnumber_any b (Sto.pk r).2.1 (Sto.pk r).2.2 1 W h (by decide)
   have n3 := fun W h => rtake_any b (Sto.pm r).2.1 (Sto.pm r).2.2 (Sha.val (Sto.pm r).1) W h
   have n4 := fun W h => rdnumber_any b (Sto.pt r).2.1 (Sto.pt r).2.2 2 W h (by decide)
   have n5 := fun W h => rtake_any b (Sto.pl r).2.1 (Sto.pl r).2.2 (Sha.val (Sto.pl r).1) W h
   rw [e1] at b1 n1
   rw [e2] at b2 n2
   rw [e3] at b3 n3
   rw [e4] at b4 n4
   rw [e5] at b5 n5
   have hkl := Sha.val_lt (Sto.pk r).1
   have hkl2 : Sha.val (Sto.pk r).1 < 256 := Nat.lt_of_lt_of_le hkl (Nat.le_trans (Nat.pow_le_pow_right (by decide) b1.1) (by decide))
   clear e1 e2 e3 e4 e5 hkl
   obtain ⟨K1, s1, l1, h1⟩ : ∃ a b c, Sto.pk r = (a, b, c) := ⟨_, _, _, rfl⟩
   obtain ⟨M, s2, l2, h2⟩ : ∃ a b c, Sto.pm r = (a, b, c) := ⟨_, _, _, rfl⟩
   obtain ⟨T, s3, l3, h3'⟩ : ∃ a b c, Sto.pt r = (a, b, c) := ⟨_, _, _, rfl⟩
   obtain ⟨L, s4, l4, h4'⟩ : ∃ a b c, Sto.pl r = (a, b, c) := ⟨_, _, _, rfl⟩
   obtain ⟨X, s5, l5, h5⟩ : ∃ a b c, Sto.px r = (a, b, c) := ⟨_, _, _, rfl⟩
   rw [h1] at b1 b2 n1 n2 hPD hPP hkl2
   rw [h2] at b2 b3 n2 n3
   rw [h3'] at b3 b4 n3 n4 hPD hPP
   rw [h4'] at b4 b5 n4 n5
   rw [h5] at b5 n5 hPP
   simp only at b1 b2 b3 b4 b5 n1 n2 n3 n4 n5 hPD hPP hkl2
   obtain ⟨K, hKK⟩ : ∃ K, Sha.val K1 = K := ⟨_, rfl⟩
   obtain ⟨M', hMM⟩ : ∃ K, Sha.val M = K := ⟨_, rfl⟩
   obtain ⟨L', hLL⟩ : ∃ K, Sha.val L = K := ⟨_, rfl⟩
   rw [hKK] at n1 hPD hPP hkl2
   rw [hMM] at n2 n3
   rw [hLL] at n4 n5
   have k3 := b3.2.1
   have k2 := b2.2.1
   have k1 := b1.2.1
   have k4 := b4.2.1
   have k5 := b5.2.1
   have HPD := Lib.hid hPD
   have HPP := Lib.hid hPP
   have HN1 := Lib.hid n1
   have HN2 := Lib.hid n2
   have HN3 := Lib.hid n3
   have HN4 := Lib.hid n4
   have HN5 := Lib.hid n5
   clear n1 n2 n3 n4 n5 b1 b2 b3 b4 b5 h1 h2 h3' h4' h5 hPD hPP hKK hMM hLL
   by_cases hK : K = 1
   ·have hkb0 : ((K : Int) == 1) = true := beq_iff_eq.2 (by omega)
    go_wp2_with fail
    refine (HN1.out _ HRD.out).mono ?_
    rintro e wx1 ⟨rfl, hrc, htc⟩
    have HR1 := Lib.hid hrc
    have HT1 := Lib.hid htc
    clear hrc htc
    go_wp2_with fail
    refine (HN2.out _ HR1.out).mono ?_
    rintro e wx2 ⟨rfl, hrc, htc⟩
    have HR2 := Lib.hid hrc
    have HT2 := Lib.hid (touch_b HT1.out htc)
    clear hrc htc
    go_wp2_with fail
    refine (HN3.out _ HR2.out).mono ?_
    rintro e wx3 ⟨rfl, hrc, htc⟩
    have HR3 := Lib.hid hrc
    have HT3 := Lib.hid (touch_b HT2.out htc)
    clear hrc htc
    go_wp2_with fail
    obtain ⟨gb, hgb⟩ : ∃ g, wx3.heap.size = g := ⟨_, rfl⟩
    have hnw := heap_new wx3 (.cells #[.bool true, .string ⟨T.toArray⟩, .string ⟨#[]⟩] 116)
    have hbw := balloc wx3 (.cells #[.bool true, .string ⟨T.toArray⟩, .string ⟨#[]⟩] 116)
    obtain ⟨wx4, hwx4⟩ : ∃ W, wx3.alloc (.cells #[.bool true, .string ⟨T.toArray⟩, .string ⟨#[]⟩] 116) = W := ⟨_, rfl⟩
    rw [hwx4] at hnw hbw ⊢
    rw [hgb] at hnw ⊢
    clear hwx4
    have HNW := Lib.hid hnw
    have HBW0 := Lib.hid hbw
    have HR3' := Lib.hid (HR3.out.below hbw)
    clear hnw hbw
    refine (HN4.out _ HR3'.out).mono ?_
    rintro e wx5 ⟨rfl, hrc, htc⟩
    have HR4 := Lib.hid hrc
    have HT4 := Lib.hid htc
    clear hrc htc
    go_wp2_with fail
    refine (HN5.out _ HR4.out).mono ?_
    rintro e wx6 ⟨rfl, hrc, htc⟩
    have HR5 := Lib.hid hrc
    have HT5 := Lib.hid (touch_b HT4.out htc)
    clear hrc htc
    have hgbb : gb ≠ b := by have := heap_lt HR3.out; omega
    have HNW6 := Lib.hid ((HT5.out.block gb (heap_lt HNW.out) hgbb).trans HNW.out)
    have hf6 := free_of HNW6.out 2
    have d0x := cell_of (i := 0) HNW6.out rfl
    have d2x := cell_of (i := 2) HNW6.out rfl
    go_wp2_with fail
    have hset := heap_set (i := 2) (.string ⟨X.toArray⟩) HNW6.out
    obtain ⟨W1, hW1⟩ : ∃ W, wx6.setCell ⟨gb, 2, none⟩ (.string ⟨X.toArray⟩) = W := ⟨_, rfl⟩
    have HTs : Hid (Touch (· = gb) wx6 W1) := Lib.hid (by rw [← hW1]; exact (Touch.refl (· = gb) wx6).setCell _ (fun _ => rfl))
    rw [hW1] at hset ⊢
    clear hW1
    have HTW : Hid (Touch (· = b) wr W1) := Lib.hid (Touch.trans (Touch.trans (Touch.trans HT3.out (Touch.of_below (S := fun _ => False) HBW0.out) (fun _ _ h => h.elim)) HT5.out (fun _ _ e => e)) HTs.out (fun k hk e => by have := HT3.out.size; omega))
    have HRD1 : Hid (ReaderAt W1 b s5 l5) := Lib.hid ((HTs.out.block b (heap_lt HR5.out) (fun e => hgbb e.symm)).trans HR5.out)
    obtain ⟨d0, d1, d2⟩ : W1.cell? ⟨gb, 0, none⟩ = some (.bool true) ∧ W1.cell? ⟨gb, 1, none⟩ = some (.string ⟨T.toArray⟩) ∧ W1.cell? ⟨gb, 2, none⟩ = some (.string ⟨X.toArray⟩) := ⟨cell_of hset rfl, cell_of hset rfl, cell_of hset rfl⟩
    clear hset d0x d2x hf6
    have HFAIL : Hid (¬ 1 < K → (Sto.keyOk T && Sto.valueOk X && Sto.after (c.getLast?.map (·.key)) T) = false → Sto.decode s count most = none) := Lib.hid (fun _ hf => by
     rw [HD.out]
     obtain ⟨p1, p2⟩ := HPP.out hK
     cases hl : l5 with
     | true => exact Sto.Read.bad (n := N - c.length - 1) (by rw [show N - c.length - 1 + 1 = N - c.length by omega]; exact HRD0.out) (p1 hl)
     | false => exact Sto.Read.bad' (n := N - c.length - 1) (by rw [show N - c.length - 1 + 1 = N - c.length by omega]; exact HRD0.out) (p2 hl) hf)
    have HGO : Hid (¬ 1 < K → (Sto.keyOk T && Sto.valueOk X && Sto.after (c.getLast?.map (·.key)) T) = true → (l5 = false → Sto.Read N (s.drop count) (c ++ [⟨true, T, X⟩]) (N - (c.length + 1)) s5) ∧ (l5 = true → Sto.decode s count most = none)) := Lib.hid (fun _ hf => by
     obtain ⟨p1, p2⟩ := HPP.out hK
     refine ⟨fun hl => ?_, fun hl => ?_⟩
     ·rw [show N - (c.length + 1) = N - c.length - 1 by omega]
      exact Sto.Read.next (n := N - c.length - 1) (by rw [show N - c.length - 1 + 1 = N - c.length by omega]; exact HRD0.out) (p2 hl) hf
     ·rw [HD.out]
      exact Sto.Read.bad (n := N - c.length - 1) (by rw [show N - c.length - 1 + 1 = N - c.length by omega]; exact HRD0.out) (p1 hl))
    have HOW1 := Lib.hid (HOW.out.touch HTW.out (fun k hk e => by have := (HOW.out.lt k hk).1; omega))
    have HBW : Hid (Below b w W1) := Lib.hid (HB.out.trans (HTW.out.below (B := b) (by omega) (fun k hk e => by omega)))
    have hszW : b + 1 ≤ W1.heap.size := Nat.le_trans hszr HTW.out.size
    clear HN1 HN2 HN3 HN4 HN5 HPD HPP q0 q1
    -- TAIL
    obtain ⟨kb, hkb2⟩ : ∃ b, Sto.keyOk T = b := ⟨_, rfl⟩
    have HKY : Hid (∀ W, Calls Tryz.prog 62 #[.string ⟨T.toArray⟩] W fun e w' => e = .returned (.bool kb) ∧ w' = W) := Lib.hid (fun W => by
     have := key_any T W
     rw [hkb2] at this
     exact this.mono fun _ _ h => ⟨h.1, h.2.symm⟩)
    have HKB := Lib.hid hkb2
    obtain ⟨vb, hvb2⟩ : ∃ b, Sto.valueOk X = b := ⟨_, rfl⟩
    have HVY : Hid (∀ W, Calls Tryz.prog 63 #[.string ⟨X.toArray⟩] W fun e w' => e = .returned (.bool vb) ∧ w' = W) := Lib.hid (fun W => by
     have := value11_any X W
     rw [hvb2] at this
     exact this.mono fun _ _ h => ⟨h.1, h.2.symm⟩)
    have HVB := Lib.hid hvb2
    clear hkb2 hvb2
    have hK1 : ¬ (1 : Int) < K := by omega
    cases kb with
    | false =>
     have HX : Hid (Sto.decode s count most = none) := Lib.hid (HFAIL.out (by omega) (by rw [HKB.out]; rfl))
     go_quiet (first | (go_at_call 62; exact Calls.quiet_of_same (HKY.out _)) | (go_at_call 63; exact Calls.quiet_of_same (HVY.out _)))
     go_wp2
     go_ret2
     exact ⟨_, by rw [HX.out]; rfl, by rw [HX.out]; exact DecAt.no (by rw [hb]; exact below_drewN HBW.out _)⟩
    | true =>
     cases vb with
     | false =>
      have HX : Hid (Sto.decode s count most = none) := Lib.hid (HFAIL.out (by omega) (by rw [HKB.out, HVB.out]; rfl))
      go_quiet (first | (go_at_call 62; exact Calls.quiet_of_same (HKY.out _)) | (go_at_call 63; exact Calls.quiet_of_same (HVY.out _)))
      go_wp2
      go_ret2
      exact ⟨_, by rw [HX.out]; rfl, by rw [HX.out]; exact DecAt.no (by rw [hb]; exact below_drewN HBW.out _)⟩
     | true =>
      by_cases hj0 : 0 < c.length
      ·obtain ⟨x, hx⟩ : ∃ x, c[c.length - 1]? = some x := ⟨_, List.getElem?_eq_getElem (by omega)⟩
       obtain ⟨ao, cap, rfl, hn1, hn2, hrd⟩ := chsAt_read (HOW1.out)
       obtain ⟨g, rfl, hg, _, ck, _⟩ := hrd _ _ hx
       have hlast : c.getLast?.map (·.key) = some x.key := by rw [List.getLast?_eq_getElem?, hx]; rfl
       have HLA := Lib.hid hlast
       obtain ⟨lk, hlk⟩ : ∃ k, x.key = k := ⟨_, rfl⟩
       rw [hlk] at HLA ck
       clear hx hrd hlk hlast
       rcases Sto.lt_total T lk with hq | hq | hq
       ·have hle : Op.bytesLess T lk = true := hq
        have hlt2 := Sto.lt_asymm hq
        have HX : Hid (Sto.decode s count most = none) := Lib.hid (HFAIL.out (by omega) (by rw [HLA.out, show Sto.after (some lk) T = Sto.lt lk T from rfl, hlt2, Bool.and_false]))
        go_quiet (first | (go_at_call 62; exact Calls.quiet_of_same (HKY.out _)) | (go_at_call 63; exact Calls.quiet_of_same (HVY.out _)))
        go_wp2
        go_ret2
        exact ⟨_, by rw [HX.out]; rfl, by rw [HX.out]; exact DecAt.no (by rw [hb]; exact below_drewN HBW.out _)⟩
       ·have hle : Op.bytesLess T lk = false := by have := Sto.lt_irrefl lk; rw [← hq] at this ⊢; exact this
        have heq : (T == lk) = true := beq_iff_eq.2 hq
        have hlt2 : Sto.lt lk T = false := by rw [hq]; exact Sto.lt_irrefl lk
        clear hq
        have HX : Hid (Sto.decode s count most = none) := Lib.hid (HFAIL.out (by omega) (by rw [HLA.out, show Sto.after (some lk) T = Sto.lt lk T from rfl, hlt2, Bool.and_false]))
        go_quiet (first | (go_at_call 62; exact Calls.quiet_of_same (HKY.out _)) | (go_at_call 63; exact Calls.quiet_of_same (HVY.out _)))
        go_wp2
        go_ret2
        exact ⟨_, by rw [HX.out]; rfl, by rw [HX.out]; exact DecAt.no (by rw [hb]; exact below_drewN HBW.out _)⟩
       ·have hle : Op.bytesLess T lk = false := Sto.lt_asymm hq
        have heq : (T == lk) = false := beq_eq_false_iff_ne.2 (fun e => Sto.lt_ne hq e.symm)
        have HQ := Lib.hid hq
        clear hq
        obtain ⟨go1, go2⟩ := HGO.out (by omega) (by rw [HKB.out, HVB.out, HLA.out, show Sto.after (some lk) T = Sto.lt lk T from rfl, HQ.out]; rfl)
        have HG1 := Lib.hid go1
        have HG2 := Lib.hid go2
        clear go1 go2
        go_quiet (first | (go_at_call 62; exact Calls.quiet_of_same (HKY.out _)) | (go_at_call 63; exact Calls.quiet_of_same (HVY.out _)))
        have HBQ := Lib.hid (below_drewN HBW.out nq)
        have HOW2 := Lib.hid (HOW1.out.touch (S := fun _ => False) (.of_below (below_drewN (Below.refl _ W1) nq)) (fun _ _ h => h))
        have HRD2 := Lib.hid (HRD1.out.below (below_drewN (Below.refl _ W1) nq))
        have hcb : c.length + 1 ≤ 3298534883328 := by omega
        have d0' : (W1.drewN nq).cell? ⟨gb, 0, none⟩ = some (.bool true) := cell_later (below_drewN (Below.refl _ W1) nq) d0
        have d1' : (W1.drewN nq).cell? ⟨gb, 1, none⟩ = some (.string ⟨T.toArray⟩) := cell_later (below_drewN (Below.refl _ W1) nq) d1
        have d2' : (W1.drewN nq).cell? ⟨gb, 2, none⟩ = some (.string ⟨X.toArray⟩) := cell_later (below_drewN (Below.refl _ W1) nq) d2
        go_wp2_with (at_builtin; refine wpList_append_ch _ rfl (.tmp 84) (.tmp 86) 111 116 chInfo Tryz.underlying111 rfl (b + 1) _ c ⟨true, T, X⟩ W1.heap.size rfl rfl (HOW2.out.touch (S := fun _ => False) (.of_below (balloc (W1.drewN nq) _)) (fun _ _ h => h)) (fun i u hi => cell_of (heap_new (W1.drewN nq) _) (by simpa [cCells] using hi)) hcb (Nat.le_trans hszW (balloc (W1.drewN nq) _).size) ?_; intro v' w' ho' hgr' hbk'; have HO2 := Lib.hid ho'; have HB2 := Lib.hid (below_grown (bthenB HBQ.out (balloc (W1.drewN nq) _) (Nat.le_trans (Nat.le_succ b) hszW)) (Nat.le_trans (Nat.le_trans (Nat.le_succ b) hszW) (balloc (W1.drewN nq) _).size) hgr' (fun k hk => Nat.le_of_succ_le (HOW2.out.lt k hk).1)); have HRD3 := Lib.hid ((HRD2.out.below (balloc (W1.drewN nq) _)).touch (touch_of_grown hgr') (fun hk => by have := (HOW2.out.lt b hk).1; omega)); clear ho' hgr' hbk')
        go_roundw
        all_goals first
         | (simp [intOf]; omega)
         | exact ⟨c ++ [⟨true, T, X⟩], s5, l5, by simp, by simp; omega, by omega, HRD3.out, HO2.out, (fun h => by rw [List.length_append]; exact HG1.out h), HG2.out, HB2.out⟩
      ·have HLN : Hid (Sto.after (c.getLast?.map (·.key)) T = true) := Lib.hid (by rw [List.eq_nil_of_length_eq_zero (show c.length = 0 by omega)]; rfl)
       obtain ⟨go1, go2⟩ := HGO.out (by omega) (by rw [HKB.out, HVB.out, HLN.out]; rfl)
       have HG1 := Lib.hid go1
       have HG2 := Lib.hid go2
       clear go1 go2
       go_quiet (first | (go_at_call 62; exact Calls.quiet_of_same (HKY.out _)) | (go_at_call 63; exact Calls.quiet_of_same (HVY.out _)))
       have HBQ := Lib.hid (below_drewN HBW.out nq)
       have HOW2 := Lib.hid (HOW1.out.touch (S := fun _ => False) (.of_below (below_drewN (Below.refl _ W1) nq)) (fun _ _ h => h))
       have HRD2 := Lib.hid (HRD1.out.below (below_drewN (Below.refl _ W1) nq))
       have hcb : c.length + 1 ≤ 3298534883328 := by omega
       have d0' : (W1.drewN nq).cell? ⟨gb, 0, none⟩ = some (.bool true) := cell_later (below_drewN (Below.refl _ W1) nq) d0
       have d1' : (W1.drewN nq).cell? ⟨gb, 1, none⟩ = some (.string ⟨T.toArray⟩) := cell_later (below_drewN (Below.refl _ W1) nq) d1
       have d2' : (W1.drewN nq).cell? ⟨gb, 2, none⟩ = some (.string ⟨X.toArray⟩) := cell_later (below_drewN (Below.refl _ W1) nq) d2
       go_wp2_with (at_builtin; refine wpList_append_ch _ rfl (.tmp 84) (.tmp 86) 111 116 chInfo Tryz.underlying111 rfl (b + 1) _ c ⟨true, T, X⟩ W1.heap.size rfl rfl (HOW2.out.touch (S := fun _ => False) (.of_below (balloc (W1.drewN nq) _)) (fun _ _ h => h)) (fun i u hi => cell_of (heap_new (W1.drewN nq) _) (by simpa [cCells] using hi)) hcb (Nat.le_trans hszW (balloc (W1.drewN nq) _).size) ?_; intro v' w' ho' hgr' hbk'; have HO2 := Lib.hid ho'; have HB2 := Lib.hid (below_grown (bthenB HBQ.out (balloc (W1.drewN nq) _) (Nat.le_trans (Nat.le_succ b) hszW)) (Nat.le_trans (Nat.le_trans (Nat.le_succ b) hszW) (balloc (W1.drewN nq) _).size) hgr' (fun k hk => Nat.le_of_succ_le (HOW2.out.lt k hk).1)); have HRD3 := Lib.hid ((HRD2.out.below (balloc (W1.drewN nq) _)).touch (touch_of_grown hgr') (fun hk => by have := (HOW2.out.lt b hk).1; omega)); clear ho' hgr' hbk')
       go_roundw
       all_goals first
        | (simp [intOf]; omega)
        | exact ⟨c ++ [⟨true, T, X⟩], s5, l5, by simp, by simp; omega, by omega, HRD3.out, HO2.out, (fun h => by rw [List.length_append]; exact HG1.out h), HG2.out, HB2.out⟩
   ·have hkb0 : ((K : Int) == 1) = false := beq_eq_false_iff_ne.2 (by omega)
    go_wp2_with fail
    refine (HN1.out _ HRD.out).mono ?_
    rintro e wx1 ⟨rfl, hrc, htc⟩
    have HR1 := Lib.hid hrc
    have HT1 := Lib.hid htc
    clear hrc htc
    go_wp2_with fail
    refine (HN2.out _ HR1.out).mono ?_
    rintro e wx2 ⟨rfl, hrc, htc⟩
    have HR2 := Lib.hid hrc
    have HT2 := Lib.hid (touch_b HT1.out htc)
    clear hrc htc
    go_wp2_with fail
    refine (HN3.out _ HR2.out).mono ?_
    rintro e wx3 ⟨rfl, hrc, htc⟩
    have HR3 := Lib.hid hrc
    have HT3 := Lib.hid (touch_b HT2.out htc)
    clear hrc htc
    go_wp2_with fail
    obtain ⟨gb, hgb⟩ : ∃ g, wx3.heap.size = g := ⟨_, rfl⟩
    have hnw := heap_new wx3 (.cells #[.bool false, .string ⟨T.toArray⟩, .string ⟨#[]⟩] 116)
    have hbw := balloc wx3 (.cells #[.bool false, .string ⟨T.toArray⟩, .string ⟨#[]⟩] 116)
    obtain ⟨W1, hW1⟩ : ∃ W, wx3.alloc (.cells #[.bool false, .string ⟨T.toArray⟩, .string ⟨#[]⟩] 116) = W := ⟨_, rfl⟩
    rw [hW1] at hnw hbw ⊢
    rw [hgb] at hnw ⊢
    clear hW1
    have HRD1 := Lib.hid (HR3.out.below hbw)
    have HTW : Hid (Touch (· = b) wr W1) := Lib.hid (Touch.trans HT3.out (Touch.of_below (S := fun _ => False) hbw) (fun _ _ h => h.elim))
    obtain ⟨d0, d1, d2⟩ : W1.cell? ⟨gb, 0, none⟩ = some (.bool false) ∧ W1.cell? ⟨gb, 1, none⟩ = some (.string ⟨T.toArray⟩) ∧ W1.cell? ⟨gb, 2, none⟩ = some (.string ⟨#[]⟩) := ⟨cell_of hnw rfl, cell_of hnw rfl, cell_of hnw rfl⟩
    clear hnw hbw
    have HBAD : Hid (1 < K → Sto.decode s count most = none) := Lib.hid (fun hk => by
     rw [HD.out]
     exact Sto.Read.bad (n := N - c.length - 1) (by rw [show N - c.length - 1 + 1 = N - c.length by omega]; exact HRD0.out) ((HPD.out hK).1 (.inr hk)))
    have HFAIL : Hid (¬ 1 < K → (Sto.keyOk T && Sto.valueOk [] && Sto.after (c.getLast?.map (·.key)) T) = false → Sto.decode s count most = none) := Lib.hid (fun hk hf => by
     rw [HD.out]
     obtain ⟨p1, p2⟩ := HPD.out hK
     cases hl : l3 with
     | true => exact Sto.Read.bad (n := N - c.length - 1) (by rw [show N - c.length - 1 + 1 = N - c.length by omega]; exact HRD0.out) (p1 (.inl hl))
     | false => exact Sto.Read.bad' (n := N - c.length - 1) (by rw [show N - c.length - 1 + 1 = N - c.length by omega]; exact HRD0.out) (p2 hl (by omega)) hf)
    have HGO : Hid (¬ 1 < K → (Sto.keyOk T && Sto.valueOk [] && Sto.after (c.getLast?.map (·.key)) T) = true → (l3 = false → Sto.Read N (s.drop count) (c ++ [⟨false, T, []⟩]) (N - (c.length + 1)) s3) ∧ (l3 = true → Sto.decode s count most = none)) := Lib.hid (fun hk hf => by
     obtain ⟨p1, p2⟩ := HPD.out hK
     refine ⟨fun hl => ?_, fun hl => ?_⟩
     ·rw [show N - (c.length + 1) = N - c.length - 1 by omega]
      exact Sto.Read.next (n := N - c.length - 1) (by rw [show N - c.length - 1 + 1 = N - c.length by omega]; exact HRD0.out) (p2 hl (by omega)) hf
     ·rw [HD.out]
      exact Sto.Read.bad (n := N - c.length - 1) (by rw [show N - c.length - 1 + 1 = N - c.length by omega]; exact HRD0.out) (p1 (.inl hl)))
    have HOW1 := Lib.hid (HOW.out.touch HTW.out (fun k hk e => by have := (HOW.out.lt k hk).1; omega))
    have HBW : Hid (Below b w W1) := Lib.hid (HB.out.trans (HTW.out.below (B := b) (by omega) (fun k hk e => by omega)))
    have hszW : b + 1 ≤ W1.heap.size := Nat.le_trans hszr HTW.out.size
    clear HN1 HN2 HN3 HN4 HN5 HPD HPP q0 q1
    -- TAIL
    obtain ⟨kb, hkb2⟩ : ∃ b, Sto.keyOk T = b := ⟨_, rfl⟩
    have HKY : Hid (∀ W, Calls Tryz.prog 62 #[.string ⟨T.toArray⟩] W fun e w' => e = .returned (.bool kb) ∧ w' = W) := Lib.hid (fun W => by
     have := key_any T W
     rw [hkb2] at this
     exact this.mono fun _ _ h => ⟨h.1, h.2.symm⟩)
    have HKB := Lib.hid hkb2
    obtain ⟨vb, hvb2⟩ : ∃ b, Sto.valueOk [] = b := ⟨_, rfl⟩
    have HVY : Hid (∀ W, Calls Tryz.prog 63 #[.string ⟨#[]⟩] W fun e w' => e = .returned (.bool vb) ∧ w' = W) := Lib.hid (fun W => by
     have := value11_any [] W
     rw [hvb2] at this
     exact this.mono fun _ _ h => ⟨h.1, h.2.symm⟩)
    have HVB := Lib.hid hvb2
    clear hkb2 hvb2
    by_cases hK1 : (1 : Int) < K
    ·have HX : Hid (Sto.decode s count most = none) := Lib.hid (HBAD.out (by omega))
     go_quiet (fail)
     go_wp2
     go_ret2
     exact ⟨_, by rw [HX.out]; rfl, by rw [HX.out]; exact DecAt.no (by rw [hb]; exact below_drewN HBW.out _)⟩
    cases kb with
    | false =>
     have HX : Hid (Sto.decode s count most = none) := Lib.hid (HFAIL.out (by omega) (by rw [HKB.out]; rfl))
     go_quiet (first | (go_at_call 62; exact Calls.quiet_of_same (HKY.out _)) | (go_at_call 63; exact Calls.quiet_of_same (HVY.out _)))
     go_wp2
     go_ret2
     exact ⟨_, by rw [HX.out]; rfl, by rw [HX.out]; exact DecAt.no (by rw [hb]; exact below_drewN HBW.out _)⟩
    | true =>
     cases vb with
     | false =>
      have HX : Hid (Sto.decode s count most = none) := Lib.hid (HFAIL.out (by omega) (by rw [HKB.out, HVB.out]; rfl))
      go_quiet (first | (go_at_call 62; exact Calls.quiet_of_same (HKY.out _)) | (go_at_call 63; exact Calls.quiet_of_same (HVY.out _)))
      go_wp2
      go_ret2
      exact ⟨_, by rw [HX.out]; rfl, by rw [HX.out]; exact DecAt.no (by rw [hb]; exact below_drewN HBW.out _)⟩
     | true =>
      by_cases hj0 : 0 < c.length
      ·obtain ⟨x, hx⟩ : ∃ x, c[c.length - 1]? = some x := ⟨_, List.getElem?_eq_getElem (by omega)⟩
       obtain ⟨ao, cap, rfl, hn1, hn2, hrd⟩ := chsAt_read (HOW1.out)
       obtain ⟨g, rfl, hg, _, ck, _⟩ := hrd _ _ hx
       have hlast : c.getLast?.map (·.key) = some x.key := by rw [List.getLast?_eq_getElem?, hx]; rfl
       have HLA := Lib.hid hlast
       obtain ⟨lk, hlk⟩ : ∃ k, x.key = k := ⟨_, rfl⟩
       rw [hlk] at HLA ck
       clear hx hrd hlk hlast
       rcases Sto.lt_total T lk with hq | hq | hq
       ·have hle : Op.bytesLess T lk = true := hq
        have hlt2 := Sto.lt_asymm hq
        have HX : Hid (Sto.decode s count most = none) := Lib.hid (HFAIL.out (by omega) (by rw [HLA.out, show Sto.after (some lk) T = Sto.lt lk T from rfl, hlt2, Bool.and_false]))
        go_quiet (first | (go_at_call 62; exact Calls.quiet_of_same (HKY.out _)) | (go_at_call 63; exact Calls.quiet_of_same (HVY.out _)))
        go_wp2
        go_ret2
        exact ⟨_, by rw [HX.out]; rfl, by rw [HX.out]; exact DecAt.no (by rw [hb]; exact below_drewN HBW.out _)⟩
       ·have hle : Op.bytesLess T lk = false := by have := Sto.lt_irrefl lk; rw [← hq] at this ⊢; exact this
        have heq : (T == lk) = true := beq_iff_eq.2 hq
        have hlt2 : Sto.lt lk T = false := by rw [hq]; exact Sto.lt_irrefl lk
        clear hq
        have HX : Hid (Sto.decode s count most = none) := Lib.hid (HFAIL.out (by omega) (by rw [HLA.out, show Sto.after (some lk) T = Sto.lt lk T from rfl, hlt2, Bool.and_false]))
        go_quiet (first | (go_at_call 62; exact Calls.quiet_of_same (HKY.out _)) | (go_at_call 63; exact Calls.quiet_of_same (HVY.out _)))
        go_wp2
        go_ret2
        exact ⟨_, by rw [HX.out]; rfl, by rw [HX.out]; exact DecAt.no (by rw [hb]; exact below_drewN HBW.out _)⟩
       ·have hle : Op.bytesLess T lk = false := Sto.lt_asymm hq
        have heq : (T == lk) = false := beq_eq_false_iff_ne.2 (fun e => Sto.lt_ne hq e.symm)
        have HQ := Lib.hid hq
        clear hq
        obtain ⟨go1, go2⟩ := HGO.out (by omega) (by rw [HKB.out, HVB.out, HLA.out, show Sto.after (some lk) T = Sto.lt lk T from rfl, HQ.out]; rfl)
        have HG1 := Lib.hid go1
        have HG2 := Lib.hid go2
        clear go1 go2
        go_quiet (first | (go_at_call 62; exact Calls.quiet_of_same (HKY.out _)) | (go_at_call 63; exact Calls.quiet_of_same (HVY.out _)))
        have HBQ := Lib.hid (below_drewN HBW.out nq)
        have HOW2 := Lib.hid (HOW1.out.touch (S := fun _ => False) (.of_below (below_drewN (Below.refl _ W1) nq)) (fun _ _ h => h))
        have HRD2 := Lib.hid (HRD1.out.below (below_drewN (Below.refl _ W1) nq))
        have hcb : c.length + 1 ≤ 3298534883328 := by omega
        have d0' : (W1.drewN nq).cell? ⟨gb, 0, none⟩ = some (.bool false) := cell_later (below_drewN (Below.refl _ W1) nq) d0
        have d1' : (W1.drewN nq).cell? ⟨gb, 1, none⟩ = some (.string ⟨T.toArray⟩) := cell_later (below_drewN (Below.refl _ W1) nq) d1
        have d2' : (W1.drewN nq).cell? ⟨gb, 2, none⟩ = some (.string ⟨#[]⟩) := cell_later (below_drewN (Below.refl _ W1) nq) d2
        go_wp2_with (at_builtin; refine wpList_append_ch _ rfl (.tmp 84) (.tmp 86) 111 116 chInfo Tryz.underlying111 rfl (b + 1) _ c ⟨false, T, []⟩ W1.heap.size rfl rfl (HOW2.out.touch (S := fun _ => False) (.of_below (balloc (W1.drewN nq) _)) (fun _ _ h => h)) (fun i u hi => cell_of (heap_new (W1.drewN nq) _) (by simpa [cCells] using hi)) hcb (Nat.le_trans hszW (balloc (W1.drewN nq) _).size) ?_; intro v' w' ho' hgr' hbk'; have HO2 := Lib.hid ho'; have HB2 := Lib.hid (below_grown (bthenB HBQ.out (balloc (W1.drewN nq) _) (Nat.le_trans (Nat.le_succ b) hszW)) (Nat.le_trans (Nat.le_trans (Nat.le_succ b) hszW) (balloc (W1.drewN nq) _).size) hgr' (fun k hk => Nat.le_of_succ_le (HOW2.out.lt k hk).1)); have HRD3 := Lib.hid ((HRD2.out.below (balloc (W1.drewN nq) _)).touch (touch_of_grown hgr') (fun hk => by have := (HOW2.out.lt b hk).1; omega)); clear ho' hgr' hbk')
        go_roundw
        all_goals first
         | (simp [intOf]; omega)
         | exact ⟨c ++ [⟨false, T, []⟩], s3, l3, by simp, by simp; omega, by omega, HRD3.out, HO2.out, (fun h => by rw [List.length_append]; exact HG1.out h), HG2.out, HB2.out⟩
      ·have HLN : Hid (Sto.after (c.getLast?.map (·.key)) T = true) := Lib.hid (by rw [List.eq_nil_of_length_eq_zero (show c.length = 0 by omega)]; rfl)
       obtain ⟨go1, go2⟩ := HGO.out (by omega) (by rw [HKB.out, HVB.out, HLN.out]; rfl)
       have HG1 := Lib.hid go1
       have HG2 := Lib.hid go2
       clear go1 go2
       go_quiet (first | (go_at_call 62; exact Calls.quiet_of_same (HKY.out _)) | (go_at_call 63; exact Calls.quiet_of_same (HVY.out _)))
       have HBQ := Lib.hid (below_drewN HBW.out nq)
       have HOW2 := Lib.hid (HOW1.out.touch (S := fun _ => False) (.of_below (below_drewN (Below.refl _ W1) nq)) (fun _ _ h => h))
       have HRD2 := Lib.hid (HRD1.out.below (below_drewN (Below.refl _ W1) nq))
       have hcb : c.length + 1 ≤ 3298534883328 := by omega
       have d0' : (W1.drewN nq).cell? ⟨gb, 0, none⟩ = some (.bool false) := cell_later (below_drewN (Below.refl _ W1) nq) d0
       have d1' : (W1.drewN nq).cell? ⟨gb, 1, none⟩ = some (.string ⟨T.toArray⟩) := cell_later (below_drewN (Below.refl _ W1) nq) d1
       have d2' : (W1.drewN nq).cell? ⟨gb, 2, none⟩ = some (.string ⟨#[]⟩) := cell_later (below_drewN (Below.refl _ W1) nq) d2
       go_wp2_with (at_builtin; refine wpList_append_ch _ rfl (.tmp 84) (.tmp 86) 111 116 chInfo Tryz.underlying111 rfl (b + 1) _ c ⟨false, T, []⟩ W1.heap.size rfl rfl (HOW2.out.touch (S := fun _ => False) (.of_below (balloc (W1.drewN nq) _)) (fun _ _ h => h)) (fun i u hi => cell_of (heap_new (W1.drewN nq) _) (by simpa [cCells] using hi)) hcb (Nat.le_trans hszW (balloc (W1.drewN nq) _).size) ?_; intro v' w' ho' hgr' hbk'; have HO2 := Lib.hid ho'; have HB2 := Lib.hid (below_grown (bthenB HBQ.out (balloc (W1.drewN nq) _) (Nat.le_trans (Nat.le_succ b) hszW)) (Nat.le_trans (Nat.le_trans (Nat.le_succ b) hszW) (balloc (W1.drewN nq) _).size) hgr' (fun k hk => Nat.le_of_succ_le (HOW2.out.lt k hk).1)); have HRD3 := Lib.hid ((HRD2.out.below (balloc (W1.drewN nq) _)).touch (touch_of_grown hgr') (fun hk => by have := (HOW2.out.lt b hk).1; omega)); clear ho' hgr' hbk')
       go_roundw
       all_goals first
        | (simp [intOf]; omega)
        | exact ⟨c ++ [⟨false, T, []⟩], s3, l3, by simp, by simp; omega, by omega, HRD3.out, HO2.out, (fun h => by rw [List.length_append]; exact HG1.out h), HG2.out, HB2.out⟩
end Go.Proofs.YtpjpknndfhablaaGreat
