/- The closure of otp.steps: its contract as an iterator (begun). -/
import Derived.RangeFuncNested
import Derived.RangeFuncBound
import Derived.RangeFuncCalls
import Derived.RangeFuncLeaves
import Derived.RangeFuncFrom
import Derived.Shelf.Abstract
import Derived.Shelf.RegionOpen
import Derived.WalkKit
import Derived.OwnWalkIn
import Derived.TacticsInMore
import Derived.LoopNIn
import Derived.LoopIn
import Derived.Test.YtommbdlkmkphpaaDoorOtpD
namespace Go.Proofs.YtommbdlkmkphpaaDoor
open Go.RowKit Go.Shelf
attribute [local go_sem] Oper.semAt_some
/-- The first k steps of a window, the last one first. -/
def winList (step win : Int) (k : Nat) : List Int := (List.range k).map fun (i : Nat) => step + win - (i : Int)
theorem winList_succ (step win : Int) (k : Nat) : winList step win (k + 1) = winList step win k ++ [step + win - (k : Int)] := by simp [winList, List.range_succ]
theorem winList_length (step win : Int) (k : Nat) : (winList step win k).length = k := by simp [winList]
set_option maxHeartbeats 4000000 in
set_option maxRecDepth 100000 in
theorem steps1_in (F : Fence) (n : Nat) (hF : F.fn 25) (hro : F.round = none) (hn : 1 ≤ n) (l b1 b2 n₀ S : Nat) (step win : Int) (hg : Otp.good step win) (hS : Otp.span step win = S) (J Jx : List Int → World → Prop)
    (hY : ∀ pre x W, J pre W → pre.length < S → 0 ≤ x → x ≤ 1099511627786 → YieldAt F (n - 1) Tryd.prog l #[.int .i64 x] W fun e W' =>
      (e = .returned (.bool true) ∧ J (pre ++ [x]) W' ∧ Below n₀ W W') ∨ (e = .returned (.bool false) ∧ Jx (pre ++ [x]) W'))
    (W : World) (c1 : W.cell? ⟨b1, 0, none⟩ = some (.int .i64 step)) (c2 : W.cell? ⟨b2, 0, none⟩ = some (.int .i64 win)) (hb1 : b1 < n₀) (hb2 : b2 < n₀) (h0 : J [] W) :
    CallsIn F n Tryd.prog 25 #[.func (.yield l) #[] #[], .pointer (some ⟨b1, 0, none⟩), .pointer (some ⟨b2, 0, none⟩)] W fun e W' => (∃ v, e = .returned v) ∧
      ((∃ ys, ys = winList step win S ∧ J ys W') ∨ (∃ k, k < S ∧ Jx (winList step win (k + 1)) W')) := by
  obtain ⟨g1, g2, g3, g4⟩ := hg
  have hSv : (S : Int) = step + win - max 0 (step - win) + 1 := by rw [← hS]; unfold Otp.span; omega
  have HSV := Lib.hid hSv
  clear hS hSv
  refine callsIn_of_wp Tryd.func25 rfl hF ?_ hro
  simp only [Tryd.ntmps25, List.size_toArray, List.length_cons, List.length_nil, Nat.reduceAdd, Nat.reduceSub, Array.replicate_succ, Array.replicate_zero, List.push_toArray, List.append_toArray, List.nil_append, List.cons_append]
  gi_wp2
  gi_loopw [4] (fun sv wr => ∃ k : Nat, k ≤ S ∧ sv = .int .i64 (step + win - k) ∧ Hid (J (winList step win k) wr) ∧ wr.cell? ⟨b1, 0, none⟩ = some (.int .i64 step) ∧ wr.cell? ⟨b2, 0, none⟩ = some (.int .i64 win)) (fun sv _ => ((intOf sv) + 1).toNat)
  case atStart => exact ⟨0, by omega, by go_num, Lib.hid h0, c1, c2⟩
  case round =>
    obtain ⟨k, hk, rfl, HJ, c1, c2⟩ := hrel
    by_cases hkS : k < S
    · have t1 : max 0 (step - win) ≤ step + win - (k : Int) := by have := HSV.out; omega
      obtain ⟨fn, tmps, assign, body, hy, hR⟩ := hY (winList step win k) (step + win - k) wr HJ.out (by rw [winList_length]; exact hkS) (by omega) (by omega)
      have HS2 := Lib.hid (winList_succ step win k)
      gi_wp2
      refine hR.mono ?_
      rintro e W3 (⟨rfl, hJ3, hk3⟩ | ⟨rfl, hJx3⟩)
      · have d1 : W3.cell? ⟨b1, 0, none⟩ = some (.int .i64 step) := (hk3.cell (p := ⟨b1, 0, none⟩) hb1).trans c1
        have d2 : W3.cell? ⟨b2, 0, none⟩ = some (.int .i64 win) := (hk3.cell (p := ⟨b2, 0, none⟩) hb2).trans c2
        have HJ3 : Hid (J (winList step win (k + 1)) W3) := by rw [HS2.out]; exact hJ3
        clear hJ3
        gi_wp2
        first
          | (go_roundw
             case rel => exact ⟨k + 1, by omega, by go_num, HJ3, d1, d2⟩
             case measure => simp [intOf]; omega)
          | exact ⟨⟨k + 1, by omega, by go_num, HJ3, d1, d2⟩, by simp [intOf]; omega⟩
      · have HJ3 : Hid (Jx (winList step win (k + 1)) W3) := by rw [HS2.out]; exact hJx3
        clear hJx3
        gi_wp2
        go_end0
        exact ⟨⟨_, rfl⟩, .inr ⟨k, hkS, HJ3.out⟩⟩
    · obtain rfl : k = S := by omega
      have t1 : ¬ (max 0 (step - win) ≤ step + win - (k : Int)) := by have := HSV.out; omega
      gi_wp2
      refine ⟨fun _ h => (by cases h), ?_⟩
      gi_wp2
      go_end0
      exact ⟨⟨_, rfl⟩, .inl ⟨_, rfl, HJ.out⟩⟩
end Go.Proofs.YtommbdlkmkphpaaDoor
