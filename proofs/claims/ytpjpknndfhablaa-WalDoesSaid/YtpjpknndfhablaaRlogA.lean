/- The document's log: where it lies; over, Sync, Room, Copy. -/
import Derived.Test.YtpjpknndfhablaaWalJ
import Derived.Test.YtpjpknndfhablaaWalD
import Derived.Test.YtpjpknndfhablaaRefJ
namespace Go.Proofs.Ytpjpknndfhablaa
open Go.RowKit
def rlogBlock (y : Nat) (l : Wal.LS) : Obj :=
  .cells #[.pointer (some ⟨y, 0, none⟩), .int .i64 (DS.fi l.f), .int .u64 l.g, .int .i64 l.n, .bool l.dead] 120 (0, 0)
/-- A log of the document lies in block x, over the disk in block y. -/
def RlogAt (w : World) (x y : Nat) (l : Wal.LS) : Prop := w.heap[x]? = some (rlogBlock y l)
theorem RlogAt.cells {w : World} {x y : Nat} {l : Wal.LS} (h : RlogAt w x y l) : w.cell? ⟨x, 0, none⟩ = some (.pointer (some ⟨y, 0, none⟩)) ∧ w.cell? ⟨x, 1, none⟩ = some (.int .i64 (DS.fi l.f)) ∧ w.cell? ⟨x, 2, none⟩ = some (.int .u64 l.g) ∧ w.cell? ⟨x, 3, none⟩ = some (.int .i64 l.n) ∧ w.cell? ⟨x, 4, none⟩ = some (.bool l.dead) ∧ (∀ i, w.frozen? ⟨x, i, none⟩ = false) ∧ x < w.heap.size :=
  ⟨cell_of h rfl, cell_of h rfl, cell_of h rfl, cell_of h rfl, cell_of h rfl, free_of h, heap_lt h⟩
theorem RlogAt.touch {S : Nat → Prop} {w w' : World} {x y : Nat} {l : Wal.LS} (h : RlogAt w x y l) (ht : Touch S w w') (hS : ¬ S x) : RlogAt w' x y l := (ht.block x (heap_lt h) hS).trans h
theorem RlogAt.below {w w' : World} {x y : Nat} {l : Wal.LS} (h : RlogAt w x y l) (hb : Below w.heap.size w w') : RlogAt w' x y l := stays h hb
theorem RlogAt.apart {w : World} {x y : Nat} {l : Wal.LS} (h : RlogAt w x y l) {y' : Nat} {d : DS} {ub : Option Nat} (hd : RefAt w y' d ub) : ¬ own2 y' ub x := by
  obtain ⟨_, us, hr, hrb⟩ := hd
  rintro (rfl | ho)
  · have := hr.blk; rw [h] at this; simp [refBlock, rlogBlock] at this
  · rw [← hrb] at ho
    rcases hr.own.2 with ⟨hv, _⟩ | ⟨g, cap, cur, hv, _, hg, _⟩
    · rw [hv] at ho; cases ho
    · rw [hv] at ho
      have e1 : g = x := Option.some.inj ho
      subst e1
      rw [h] at hg; simp [rlogBlock] at hg
theorem RlogAt.setDead {w : World} {x y : Nat} {l : Wal.LS} (h : RlogAt w x y l) : RlogAt (w.setCell ⟨x, 4, none⟩ (.bool true)) x y { l with dead := true } := by
  have := heap_set (i := 4) (.bool true) h
  simpa [RlogAt, rlogBlock] using this
theorem RlogAt.setN {w : World} {x y : Nat} {l : Wal.LS} (h : RlogAt w x y l) (n : Nat) : RlogAt (w.setCell ⟨x, 3, none⟩ (.int .i64 n)) x y { l with n := n } := by
  have := heap_set (i := 3) (.int .i64 n) h
  simpa [RlogAt, rlogBlock] using this
theorem RefAt.setLog {w : World} {y : Nat} {d : DS} {ub : Option Nat} (h : RefAt w y d ub) {x : Nat} {l : Wal.LS} (hl : RlogAt w x y l) (i : Nat) (v : Value) : RefAt (w.setCell ⟨x, i, none⟩ v) y d ub :=
  h.touch ((Touch.refl (· = x) w).setCell _ (fun _ => rfl)) (fun _ hk e => hl.apart h (e ▸ hk))
def ownR (y x : Nat) : Nat → Prop := fun k => k = y ∨ k = x
/-- What a piece of work on a log of the document leaves. -/
structure RWorked (x y : Nat) (l' : Wal.LS) (d' : DS) (ub : Option Nat) (w w' : World) : Prop where
  log : RlogAt w' x y l'
  disk : ∃ ub', RefAt w' y d' ub' ∧ Newer w ub ub'
  touch : Touch (ownR y x) w w'
theorem RWorked.stay {x y : Nat} {l : Wal.LS} {d : DS} {ub : Option Nat} {w w' : World} (hl : RlogAt w x y l) (h : RefAt w y d ub) (hb : Below w.heap.size w w') : RWorked x y l d ub w w' :=
  ⟨hl.below hb, ⟨ub, h.below hb, Newer.refl _ _⟩, Touch.of_below hb⟩
theorem RWorked.disked {x y : Nat} {l : Wal.LS} {d E : DS} {ub ub' : Option Nat} {w w1 w' : World} (hl : RlogAt w1 x y l) (h0 : RefAt w1 y d ub) (hb : Below w.heap.size w w1) (hd : RefAt w' y E ub') (hn : Newer w1 ub ub') (ht : Touch (· = y) w1 w') : RWorked x y l E ub w w' :=
  ⟨hl.touch ht (fun e => hl.apart h0 (.inl e)), ⟨ub', hd, hn.later hb.size⟩, Touch.trans (Touch.of_below hb) ht (fun _ _ h => .inl h)⟩
theorem RWorked.died {x y : Nat} {l : Wal.LS} {d : DS} {ub : Option Nat} {w w' : World} (h : RWorked x y l d ub w w') : RWorked x y { l with dead := true } d ub w (w'.setCell ⟨x, 4, none⟩ (.bool true)) := by
  obtain ⟨ub', h1, h2⟩ := h.disk
  exact ⟨h.log.setDead, ⟨ub', h1.setLog h.log 4 _, h2⟩, h.touch.setCell _ (fun _ => .inr rfl)⟩
theorem RWorked.counted {x y : Nat} {l : Wal.LS} {d : DS} {ub : Option Nat} {w w' : World} (h : RWorked x y l d ub w w') (n : Nat) : RWorked x y { l with n := n } d ub w (w'.setCell ⟨x, 3, none⟩ (.int .i64 n)) := by
  obtain ⟨ub', h1, h2⟩ := h.disk
  exact ⟨h.log.setN n, ⟨ub', h1.setLog h.log 3 _, h2⟩, h.touch.setCell _ (fun _ => .inr rfl)⟩
theorem RWorked.drew {x y : Nat} {l : Wal.LS} {d : DS} {ub : Option Nat} {w w' : World} (h : RWorked x y l d ub w w') : RWorked x y l d ub w w'.drew := by
  obtain ⟨ub', h1, h2⟩ := h.disk
  exact ⟨h.log.below ((Below.refl _ _).drew), ⟨ub', h1.below ((Below.refl _ _).drew), h2⟩, h.touch.drew⟩
theorem rsize_at (y : Nat) (w : World) (d : DS) (ub : Option Nat) (f : Bool) (h : RefAt w y d ub) : Calls Try.prog 67 #[.pointer (some ⟨y, 0, none⟩), .int .i64 (DS.fi f)] w fun e w' => e = .returned (.int .i64 (d.size f)) ∧ w = w' := by
  obtain ⟨ok, us, hr, _⟩ := h
  have := rsize_any y w d us (DS.fi f) hr ok
  have e : d.sizeI (DS.fi f) = (d.size f : Int) := by simp [DS.sizeI, DS.fileNo_of]
  rwa [e] at this
set_option maxHeartbeats 1000000 in
theorem rover_any (x y : Nat) (w : World) (l : Wal.LS) (hl : RlogAt w x y l) :
    Calls Try.prog 105 #[.pointer (some ⟨x, 0, none⟩)] w fun e w' => e = .returned (.int .i64 2) ∧ w' = w.setCell ⟨x, 4, none⟩ (.bool true) := by
  obtain ⟨_, _, _, _, c4, cf, _⟩ := hl.cells
  have cf4 := cf 4
  clear hl
  go_enter Try.func105, Try.ntmps105
  go_wp2
  go_ret
  exact ⟨rfl, rfl⟩
set_option maxHeartbeats 2000000 in
theorem rsyncL_any (x y : Nat) (w : World) (l : Wal.LS) (d : DS) (ub : Option Nat) (hl : RlogAt w x y l) (h : RefAt w y d ub) :
    Calls Try.prog 92 #[.pointer (some ⟨x, 0, none⟩)] w fun e w' => e = .returned (.int .i64 (Wal.sync l d).2.2) ∧ RWorked x y (Wal.sync l d).1 (Wal.sync l d).2.1 ub w w' := by
  obtain ⟨c0, _, _, _, c4, _, _⟩ := hl.cells
  have HL := Lib.hid hl
  have HD := Lib.hid h
  clear hl h
  cases hdd : l.dead with
  | true =>
    rw [hdd] at c4
    have HX : Hid (Wal.sync l d = (l, d, 2)) := Lib.hid (by unfold Wal.sync; rw [if_pos hdd])
    go_enter Try.func92, Try.ntmps92
    go_wp2_with fail
    go_ret
    rw [HX.out]
    exact ⟨rfl, RWorked.stay HL.out HD.out (Below.refl _ _)⟩
  | false =>
    rw [hdd] at c4
    obtain ⟨q, hq⟩ : ∃ q, d.sync.2 = q := ⟨_, rfl⟩
    have HQ := Lib.hid hq
    have HDD := Lib.hid hdd
    clear hq hdd
    go_enter Try.func92, Try.ntmps92
    go_wp2_with fail
    refine (rsync_any y _ d ub HD.out).mono ?_
    rw [HQ.out]
    rintro e w1 ⟨rfl, ub', hd1, hn1, ht1⟩
    have hw := RWorked.disked HL.out HD.out (Below.refl _ _) hd1 hn1 ht1
    have HW := Lib.hid hw
    clear hd1 hn1 ht1 hw
    by_cases hq0 : q = 0
    · subst hq0
      have HX : Hid (Wal.sync l d = (l, d.sync.1, 0)) := Lib.hid (by unfold Wal.sync; rw [if_neg (by simp [HDD.out]), if_neg (by simp [HQ.out])])
      go_wp2_with fail
      go_ret
      rw [HX.out]
      exact ⟨rfl, HW.out⟩
    · have HX : Hid (Wal.sync l d = ({ l with dead := true }, d.sync.1, 2)) := Lib.hid (by unfold Wal.sync; rw [if_neg (by simp [HDD.out]), if_pos (by rw [HQ.out]; exact hq0)])
      go_wp2_with fail
      refine (rover_any x y _ l HW.out.log).mono ?_
      rintro e w2 ⟨rfl, rfl⟩
      go_wp2_with fail
      go_ret
      rw [HX.out]
      exact ⟨rfl, HW.out.died⟩
set_option maxHeartbeats 2000000 in
set_option maxRecDepth 100000 in
theorem rroomL_any (x y : Nat) (w : World) (l : Wal.LS) (d : DS) (ub : Option Nat) (hl : RlogAt w x y l) (h : RefAt w y d ub) :
    Calls Try.prog 94 #[.pointer (some ⟨x, 0, none⟩)] w fun e w' => e = .returned (.int .i64 (Wal.room l d)) ∧ Below w.heap.size w w' := by
  obtain ⟨c0, c1, _⟩ := hl.cells
  have hz := h.1.base_len' l.f
  obtain ⟨z, hzz⟩ : ∃ z, d.size l.f = z := ⟨_, rfl⟩
  rw [hzz] at hz
  have HZ := Lib.hid hzz
  have HD := Lib.hid h
  have HB : Hid (∀ w' : World, Below w.heap.size w w' → (Below w.heap.size w w' ∧ w'.cell? ⟨x, 0, none⟩ = some (.pointer (some ⟨y, 0, none⟩)) ∧ w'.cell? ⟨x, 1, none⟩ = some (.int .i64 (DS.fi l.f)))) := fun w' hb => ⟨hb, cell_later hb c0, cell_later hb c1⟩
  have hw1 : IntKind.i64.wrap (1048576 - (z : Int)) = 1048576 - (z : Int) := IntWalk.i64_in _ (by omega)
  have hw2 : IntKind.i64.wrap (1048576 - (z : Int) - 8) = 1048576 - (z : Int) - 8 := IntWalk.i64_in _ (by omega)
  have hcase : (¬ (1048576 - (z : Int) - 8 < 65536) ∧ ¬ (1048576 - (z : Int) - 8 < 0)) ∨ (1048576 - (z : Int) - 8 < 65536 ∧ ¬ (1048576 - (z : Int) - 8 < 0)) ∨ (1048576 - (z : Int) - 8 < 0) := by omega
  clear hl h hzz
  rcases hcase with ⟨k1, k2⟩ | ⟨k1, k2⟩ | k2
  all_goals go_enter Try.func94, Try.ntmps94
  all_goals go_wp2
  all_goals go_region_held3 (fun w' => Below w.heap.size w w' ∧ w'.cell? ⟨x, 0, none⟩ = some (.pointer (some ⟨y, 0, none⟩)) ∧ w'.cell? ⟨x, 1, none⟩ = some (.int .i64 (DS.fi l.f)))
    (first | assumption | exact HB.out _ (Below.refl _ _).drew | exact HB.out _ (bthen (by assumption : Below w.heap.size w _ ∧ _).1 (by assumption)))
    (first | (go_at_call 67; refine (rsize_at y _ d ub l.f (HD.out.below (by assumption : Below w.heap.size w _ ∧ _).1)).mono ?_; rw [HZ.out]; rintro e w' ⟨rfl, rfl⟩))
  all_goals rename_i hheld
  all_goals go_wp2
  all_goals go_ret
  all_goals exact ⟨ret_int (by unfold Wal.room; rw [HZ.out]; omega), hheld.1⟩
end Go.Proofs.Ytpjpknndfhablaa
