/- The iterator of otp.steps: its contract whatever the window. -/
import Derived.Test.YtommbdlkmkphpaaDoorOtpD2
import Derived.RangeFuncFrom
namespace Go.Proofs.YtommbdlkmkphpaaDoor
open Go.RowKit Go.Shelf
attribute [local go_sem] Oper.semAt_some
set_option maxHeartbeats 4000000 in
set_option maxRecDepth 100000 in
theorem steps1_bad (F : Fence) (n : Nat) (hF : F.fn 25) (hro : F.round = none) (l b1 b2 : Nat) (step win : Int) (hg : ¬ Otp.good step win)
    (W : World) (c1 : W.cell? ⟨b1, 0, none⟩ = some (.int .i64 step)) (c2 : W.cell? ⟨b2, 0, none⟩ = some (.int .i64 win)) :
    CallsIn F n Tryd.prog 25 #[.func (.yield l) #[] #[], .pointer (some ⟨b1, 0, none⟩), .pointer (some ⟨b2, 0, none⟩)] W fun e W' => (∃ v, e = .returned v) ∧ W' = W := by
  unfold Otp.good at hg
  rcases (show step < 0 ∨ (¬ step < 0 ∧ 1099511627776 < step) ∨ (¬ step < 0 ∧ ¬ 1099511627776 < step ∧ win < 0) ∨ (¬ step < 0 ∧ ¬ 1099511627776 < step ∧ ¬ win < 0 ∧ 10 < win) by omega) with h1 | ⟨h1, h2⟩ | ⟨h1, h2, h3⟩ | ⟨h1, h2, h3, h4⟩
  all_goals clear hg
  all_goals refine callsIn_of_wp Tryd.func25 rfl hF ?_ hro
  all_goals simp only [Tryd.ntmps25, List.size_toArray, List.length_cons, List.length_nil, Nat.reduceAdd, Nat.reduceSub, Array.replicate_succ, Array.replicate_zero, List.push_toArray, List.append_toArray, List.nil_append, List.cons_append]
  all_goals gi_wp2
  all_goals first
    | (refine bodyPost_ret (results_none rfl _ _ _) rfl ?_; exact ⟨⟨_, rfl⟩, rfl⟩)
    | (go_end0; exact ⟨⟨_, rfl⟩, rfl⟩)
/-- A step of a window. -/
abbrev Tick := { x : Int // 0 ≤ x ∧ x ≤ 1099511627786 }
/-- All steps of a window, the last one first. -/
def winAll (step win : Int) : List Int := if Otp.good step win then winList step win (Otp.span step win) else []
theorem steps_stops (F : Fence) (n : Nat) (hF : F.fn 25) (hro : F.round = none) (hn : 1 ≤ n) (b1 b2 n₀ : Nat) (step win : Int) (w : World) (h1 : b1 < n₀) (h2 : b2 < n₀) (hn₀ : n₀ ≤ w.heap.size)
    (c1 : w.cell? ⟨b1, 0, none⟩ = some (.int .i64 step)) (c2 : w.cell? ⟨b2, 0, none⟩ = some (.int .i64 win)) :
    SeqStopsK F n Tryd.prog 25 #[.pointer (some ⟨b1, 0, none⟩), .pointer (some ⟨b2, 0, none⟩)] (fun x : Tick => #[Value.int .i64 x.1]) (Below n₀) (fun xs => xs.map (·.1) = winAll step win)
      (fun pre => Otp.good step win ∧ ∃ k, k < Otp.span step win ∧ pre.map (·.1) = winList step win (k + 1)) (Otp.span step win) w := fun l J Jx W hW _ _ hY h0 => by
  have d1 := (hW.cell (p := ⟨b1, 0, none⟩) (show b1 < w.heap.size by omega)).trans c1
  have d2 := (hW.cell (p := ⟨b2, 0, none⟩) (show b2 < w.heap.size by omega)).trans c2
  by_cases hg : Otp.good step win
  · refine (steps1_in F n hF hro hn l b1 b2 n₀ (Otp.span step win) step win hg rfl (fun xs W => ∃ ys : List Tick, ys.map (·.1) = xs ∧ J ys W) (fun xs W => ∃ ys : List Tick, ys.map (·.1) = xs ∧ Jx ys W) ?_ W d1 d2 h1 h2 ⟨[], rfl, h0⟩).mono ?_
    · rintro pre x W1 ⟨ys, rfl, hJ⟩ hlen hx0 hx1
      refine (hY ys ⟨x, hx0, hx1⟩ W1 hJ (by simpa using hlen)).mono ?_
      rintro e W' (⟨he, hJ', hk⟩ | ⟨he, hJ'⟩)
      · exact .inl ⟨he, ⟨ys ++ [⟨x, hx0, hx1⟩], by simp, hJ'⟩, hk⟩
      · exact .inr ⟨he, ⟨ys ++ [⟨x, hx0, hx1⟩], by simp, hJ'⟩⟩
    · rintro e W' ⟨he, ⟨ys, rfl, zs, hz, hJ⟩ | ⟨k, hk, zs, hz, hJ⟩⟩
      · exact ⟨he, .inl ⟨zs, by unfold winAll; rw [if_pos hg]; exact hz, hJ⟩⟩
      · exact ⟨he, .inr ⟨zs, ⟨hg, k, hk, hz⟩, hJ⟩⟩
  · refine (steps1_bad F n hF hro l b1 b2 step win hg W d1 d2).mono ?_
    rintro e W' ⟨he, rfl⟩
    exact ⟨he, .inl ⟨[], by unfold winAll; rw [if_neg hg]; rfl, h0⟩⟩
end Go.Proofs.YtommbdlkmkphpaaDoor
