/- Walks of tells and plays. -/
import Derived.Test.YtpjpknndfhablaaBoth
import Derived.Test.YtpjpknndfhablaaArmD
namespace Go.Proofs.Ytpjpknndfhablaa
open Go.RowKit

set_option maxHeartbeats 2000000 in
set_option maxRecDepth 100000 in
theorem tells_any {w0 : World} (w : World) {L : List Ent} {i c y : Nat} {d : DS} {m : Nat} (h : HerdAt w0 w L i c y d d m) :
    Calls Try.prog 28 #[.pointer (some ⟨c, 0, none⟩), .pointer (some ⟨y, 0, none⟩)] w fun e w' => e = .returned (.bool true) ∧ Below w.heap.size w w' := by
  obtain ⟨rb, ub, h1, h2⟩ := h.one
  have H1 := Lib.hid h1
  obtain ⟨hok, us, h2, _⟩ := h2
  have HOK := Lib.hid hok
  have H2 := Lib.hid h2
  obtain ⟨_, _, c2, _, _, c5, _, hlt⟩ := h2.cells
  obtain ⟨ao, cap, rfl, hul, _⟩ := h2.slice
  have HB : Hid (∀ w' : World, Below w.heap.size w w' → (Below w.heap.size w w' ∧ w'.cell? ⟨y, 2, none⟩ = some (.slice ao d.u.length cap) ∧ w'.cell? ⟨y, 5, none⟩ = some (.bool d.dead))) :=
    fun w' hb => ⟨hb, cell_later hb c2, cell_later hb c5⟩
  clear h h1 h2 hok
  go_enter Try.func28, Try.ntmps28
  go_wp2
  go_region_held3 (fun w' => Below w.heap.size w w' ∧ w'.cell? ⟨y, 2, none⟩ = some (.slice ao d.u.length cap) ∧ w'.cell? ⟨y, 5, none⟩ = some (.bool d.dead))
    (first | exact HB.out _ (Below.refl _ _).drew | exact HB.out _ (bthen (by assumption : Below w.heap.size w _ ∧ _).1 (by assumption)))
    (first
      | (go_at_call 15; refine (files_any c _ d m rb (H1.out.below (by assumption : Below w.heap.size w _ ∧ _).1)).mono ?_; rintro e w1 ⟨q1, rfl, _, t1, hb⟩; have T1 := Lib.hid t1; clear t1)
      | (go_at_call 44; refine (rfiles_any y _ d _ (H2.out.below (by assumption : Below w.heap.size w _ ∧ _).1) HOK.out).mono ?_; rintro e w2 ⟨q2, rfl, _, t2, hb⟩; have T2 := Lib.hid t2; have T3 := Lib.hid (T1.out.below hb); clear t2)
      | (go_at_call 18; refine (same_any _ _ _ 2 2 _ _ T3.out.texts T2.out.texts).mono ?_; rw [show decide ([d.file false, d.file true] = [d.file false, d.file true]) = true from decide_eq_true rfl]; rintro e w3 ⟨rfl, hb⟩)
      | (go_at_call 17; obtain ⟨_, rs, r, h1, _, _⟩ := H1.out.below (by assumption : Below w.heap.size w _ ∧ _).1; refine (waiting_any c _ d rs r h1 HOK.out).mono ?_; clear h1; rintro e w4 ⟨rfl, hb⟩)
      | (go_at_call 32; refine (dead_any c _ d m rb (H1.out.below (by assumption : Below w.heap.size w _ ∧ _).1)).mono ?_; rintro e w5 ⟨rfl, rfl⟩; have hb := Below.refl w4.heap.size w4))
  go_wp2
  go_ret
  exact ⟨rfl, (by assumption : Below w.heap.size w _ ∧ _).1⟩
end Go.Proofs.Ytpjpknndfhablaa
