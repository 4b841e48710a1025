/- face: a piece of work on a log, and what it came to. -/
import Derived.Test.YtpjpknndfhablaaWalG
namespace Go.Proofs.Ytpjpknndfhablaa
open Go.RowKit
/-- What face makes of a log. -/
def faceL (l1 : Wal.LS) (r : Int) : Wal.LS := if r = 0 then l1 else { l1 with dead := true }
/-- What lies behind face. -/
structure FaceLeft (x c : Nat) (w w' W W1 : World) (l1 : Wal.LS) (S : Nat → Prop) (r : Int) (R : World → World → Prop) : Prop where
  below : Below w.heap.size w W
  size : W.heap.size = w.heap.size + 2
  post : R W W1
  log : LogAt W1 x c l1
  touch : Touch S W W1
  box : ∃ v, W1.heap[w.heap.size + 1]? = some (.cells #[v] 27 (0, 0))
  log' : LogAt w' x c (faceL l1 r)
  touch' : Touch (fun k => k = w.heap.size + 1 ∨ (r ≠ 0 ∧ k = x)) W1 w'
def FaceEnds (x c : Nat) (w : World) (l1 : Wal.LS) (S : Nat → Prop) (r : Int) (R : World → World → Prop) (e : Ending) (w' : World) : Prop :=
  e = .returned (.int .i64 (if r = 0 then 0 else 2)) ∧ ∃ W W1, FaceLeft x c w w' W W1 l1 S r R
set_option maxHeartbeats 4000000 in
set_option maxRecDepth 100000 in
theorem face_any (x c F : Nat) (cap : Array Value) (w : World) (l l1 : Wal.LS) (S : Nat → Prop) (r : Int) (R : World → World → Prop) (hF : ∀ (args : Array Value) (w : World), (callFunc F args).run Try.prog w = .ok (.enter F args) w) (hl : LogAt w x c l) (hd : l.dead = false) (hS : ∀ k, S k → k < w.heap.size)
    (hw : ∀ W, Below w.heap.size w W → Calls Try.prog F cap W fun e W' => Ends r e ∧ LogAt W' x c l1 ∧ Touch S W W' ∧ R W W') :
    Calls Try.prog 76 #[.pointer (some ⟨x, 0, none⟩), .func (.func F) #[] cap] w (FaceEnds x c w l1 S r R) := by
  obtain ⟨_, _, _, _, c4, _, hlt⟩ := hl.cells
  rw [hd] at c4
  have hmf : ∀ (fn : Fn) (first cap : Array Value) (w : World), (Instr.makeFunc fn first cap).run Try.prog w = .ok (.func fn first cap) w := fun _ _ _ _ => rfl
  have HL := Lib.hid hl
  have HW := Lib.hid hw
  have HS := Lib.hid hS
  clear hl hw hS
  go_enter_defers Try.func76, Try.ntmps76
  go_wp2_with fail
  have n0 := heap_new w (.cells #[.pointer (some ⟨x, 0, none⟩)] 59)
  have b0 := balloc w (.cells #[.pointer (some ⟨x, 0, none⟩)] 59)
  have z0 : (w.alloc (.cells #[.pointer (some ⟨x, 0, none⟩)] 59)).heap.size = w.heap.size + 1 := by simp
  generalize w.alloc (.cells #[.pointer (some ⟨x, 0, none⟩)] 59) = wa at n0 b0 z0 ⊢
  have n1 := heap_new wa (.cells #[.int .i64 0] 27)
  have b1 := balloc wa (.cells #[.int .i64 0] 27)
  have z1 : (wa.alloc (.cells #[.int .i64 0] 27)).heap.size = w.heap.size + 2 := by simp [z0]
  rw [z0] at n1
  generalize wa.alloc (.cells #[.int .i64 0] 27) = W at n1 b1 z1 ⊢
  have m0 := stays n0 b1
  have BW := Lib.hid (bthen b0 b1)
  clear b0 b1 n0 z0 hF
  refine (HW.out W BW.out).mono ?_
  rintro e W1 ⟨he, hl1, ht, hr⟩
  have k0 : W1.heap[w.heap.size]? = some (.cells #[.pointer (some ⟨x, 0, none⟩)] 59 (0, 0)) := (ht.block _ (by omega) (fun h => by have := HS.out _ h; omega)).trans m0
  have k1 : W1.heap[w.heap.size + 1]? = some (.cells #[.int .i64 0] 27 (0, 0)) := (ht.block _ (by omega) (fun h => by have := HS.out _ h; omega)).trans n1
  have HL1 := Lib.hid hl1
  have HT := Lib.hid ht
  have HR := Lib.hid hr
  have K0 := Lib.hid k0
  have K1 := Lib.hid k1
  have Z1 := Lib.hid z1
  clear hl1 ht hr k0 k1 m0 n1 c4 z1
  rcases he with ⟨h0, rfl⟩ | ⟨h0, rfl⟩
  · subst h0
    obtain ⟨g1, g2, _⟩ := cells1 K1.out
    have g3 := g2 0
    go_wp2
    refine leaves_cons (f := 99) (args := #[.pointer (some ⟨w.heap.size, 0, none⟩), .pointer (some ⟨w.heap.size + 1, 0, none⟩)]) (by simp) (by simp [go_sem]) ?_
    refine (catch_idle _ _ _).mono ?_
    rintro e u' w'' ⟨rfl, rfl, rfl⟩
    have hset := heap_set (i := 0) (.int .i64 0) K1.out
    have hst := stays hset (balloc _ (.cells #[] 133))
    have hcell := (cells1 hst).1
    refine ⟨.int .i64 0, ?_, rfl, W, W1, BW.out, Z1.out, HR.out, HL1.out, HT.out, ⟨_, K1.out⟩, ?_, ?_⟩
    · simp [results, Try.f76, go_sem, hcell]
    · unfold faceL
      rw [if_pos rfl]
      exact ((HL1.out.touch ((Touch.refl (· = w.heap.size + 1) W1).setCell _ (fun _ => rfl)) (by omega)).below (balloc _ _))
    · exact Touch.alloc ((Touch.refl _ W1).setCell _ (fun _ => .inl rfl)) _
  · obtain ⟨f0, _, _⟩ := cells1 K0.out
    obtain ⟨g1, g2, _⟩ := cells1 K1.out
    refine leaves_cons (f := 99) (args := #[.pointer (some ⟨w.heap.size, 0, none⟩), .pointer (some ⟨w.heap.size + 1, 0, none⟩)]) (by simp) (by simp [go_sem]) ?_
    refine (catch_gone _ _ x c l1 _ (.int .i64 0) [] f0 HL1.out g1 (g2 0) (by omega)).mono ?_
    rintro e u' w'' ⟨rfl, rfl, rfl⟩
    have bg := balloc W1 (.cells #[] 133)
    have lg := HL1.out.below bg
    have kg := stays K1.out bg
    have tg : Touch (fun k => k = w.heap.size + 1 ∨ (r ≠ 0 ∧ k = x)) W1 (W1.alloc (.cells #[] 133)) := Touch.of_below bg
    generalize W1.alloc (.cells #[] 133) = W2 at lg kg tg ⊢
    have ls := lg.setDead
    have ks : (W2.setCell ⟨x, 4, none⟩ (.bool true)).heap[w.heap.size + 1]? = some (.cells #[.int .i64 0] 27 (0, 0)) := (heap_set_ne _ (by omega)).trans kg
    have ts := tg.setCell (a := ⟨x, 4, none⟩) (.bool true) (fun _ => .inr ⟨h0, rfl⟩)
    generalize W2.setCell ⟨x, 4, none⟩ (.bool true) = W3 at ls ks ts ⊢
    have hcell := (cells1 (heap_set (i := 0) (.int .i64 2) ks)).1
    have lf : LogAt (W3.setCell ⟨w.heap.size + 1, 0, none⟩ (.int .i64 2)) x c { l1 with dead := true } := ls.touch ((Touch.refl (· = w.heap.size + 1) W3).setCell _ (fun _ => rfl)) (by omega)
    have tf := ts.setCell (a := ⟨w.heap.size + 1, 0, none⟩) (.int .i64 2) (fun _ => .inl rfl)
    have HLF := Lib.hid lf
    have HTF := Lib.hid tf
    have hfin : FaceEnds x c w l1 S r R (.returned (.int .i64 2)) (W3.setCell ⟨w.heap.size + 1, 0, none⟩ (.int .i64 2)) := by
      refine ⟨by rw [if_neg h0], W, W1, BW.out, Z1.out, HR.out, HL1.out, HT.out, ⟨_, K1.out⟩, ?_, HTF.out⟩
      unfold faceL
      rw [if_neg h0]
      exact HLF.out
    generalize W3.setCell ⟨w.heap.size + 1, 0, none⟩ (.int .i64 2) = W4 at hcell hfin ⊢
    have HFIN := Lib.hid hfin
    clear hfin lf tf ts ks ls
    simp [Leaves, settle, results, Try.f76, go_sem, hcell]
    exact HFIN.out
end Go.Proofs.Ytpjpknndfhablaa
