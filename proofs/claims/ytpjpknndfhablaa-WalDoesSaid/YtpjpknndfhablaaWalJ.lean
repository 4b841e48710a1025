/- The log's methods Checkpoint, Room, Records, Dead, Clone; New. -/
import Derived.Test.YtpjpknndfhablaaWalI
namespace Go.Proofs.Ytpjpknndfhablaa
open Go.RowKit
theorem checkpoint_eq (l : Wal.LS) (d : DS) (s : List UInt8) (h1 : l.dead = false) (h2 : ¬ 524288 < s.length) (h3 : ¬ l.g = 4611686018427387904) : Wal.checkpoint l d s = (faceL (cpL l (cpD l d s).2) (cpD l d s).2, (cpD l d s).1, if (cpD l d s).2 = 0 then 0 else 2) := by
  unfold Wal.checkpoint
  rw [if_neg (by simp [h1]), if_neg h2, if_neg h3]
  by_cases h : (Wal.lays d (!l.f) (l.g + 1) s).2 = 0
  · have e : cpD l d s = (Wal.lays d (!l.f) (l.g + 1) s).1.cut (DS.fi l.f) 0 := by unfold cpD; rw [if_neg (fun h' => h' h)]
    rw [e, if_neg (fun h' => h' h)]
    generalize (Wal.lays d (!l.f) (l.g + 1) s).1.cut (DS.fi l.f) 0 = p
    unfold faceL cpL
    by_cases h0 : p.2 = 0
    · rw [if_neg (fun h' => h' h0), if_pos h0, if_pos h0, if_pos h0]
    · rw [if_pos h0, if_neg h0, if_neg h0, if_neg h0]
  · have e : cpD l d s = Wal.lays d (!l.f) (l.g + 1) s := by unfold cpD; rw [if_pos h]
    rw [e, if_pos h]
    generalize Wal.lays d (!l.f) (l.g + 1) s = p at h
    unfold faceL cpL
    rw [if_neg h, if_neg h, if_neg h]
set_option maxHeartbeats 4000000 in
set_option maxRecDepth 100000 in
theorem wcheck_any (x c : Nat) (w : World) (l : Wal.LS) (d : DS) (m : Nat) (rb : Option Nat) (s : List UInt8) (hl : LogAt w x c l) (h : DiskAt w c d m rb) (hm : m < 5000000000000) (hs : s.length ≤ 140737488355328) (hlg : l.g ≤ 4611686018427387904) :
    Calls Try.prog 39 #[.pointer (some ⟨x, 0, none⟩), .string ⟨s.toArray⟩] w fun e w' => e = .returned (.int .i64 (Wal.checkpoint l d s).2.2) ∧ Worked x c (Wal.checkpoint l d s).1 d (Wal.checkpoint l d s).2.1 (m + 1) rb w w' := by
  have hmf : ∀ (fn : Fn) (first cap : Array Value) (w : World), (Instr.makeFunc fn first cap).run Try.prog w = .ok (.func fn first cap) w := fun _ _ _ _ => rfl
  have HL := Lib.hid hl
  have HD := Lib.hid h
  obtain ⟨_, _, c2, _, c4, _, hlt⟩ := hl.cells
  clear hl h
  cases hdd : l.dead with
  | true =>
    rw [hdd] at c4
    have HX : Hid (Wal.checkpoint l d s = (l, d, 2)) := Lib.hid (by unfold Wal.checkpoint; rw [if_pos hdd])
    clear hdd
    go_enter Try.func39, Try.ntmps39
    go_wp2_with fail
    go_ret
    rw [HX.out]
    exact ⟨rfl, (Worked.stay HL.out HD.out (bthen (balloc _ _) (balloc _ _))).more (by omega)⟩
  | false =>
    rw [hdd] at c4
    have HDD := Lib.hid hdd
    clear hdd
    by_cases hlong : 524288 < s.length
    · have HX : Hid (Wal.checkpoint l d s = (l, d, 101)) := Lib.hid (by unfold Wal.checkpoint; rw [if_neg (by simp [HDD.out]), if_pos hlong])
      go_enter Try.func39, Try.ntmps39
      go_wp2_with fail
      go_ret
      rw [HX.out]
      exact ⟨rfl, (Worked.stay HL.out HD.out (bthen (balloc _ _) (balloc _ _))).more (by omega)⟩
    by_cases hfull : l.g = 4611686018427387904
    · have HX : Hid (Wal.checkpoint l d s = (l, d, 102)) := Lib.hid (by unfold Wal.checkpoint; rw [if_neg (by simp [HDD.out]), if_neg hlong, if_pos hfull])
      have c2' : w.cell? ⟨x, 2, none⟩ = some (.int .u64 4611686018427387904) := by rw [c2, hfull]; rfl
      clear c2 hfull
      go_enter Try.func39, Try.ntmps39
      go_wp2_with fail
      go_ret
      rw [HX.out]
      exact ⟨rfl, (Worked.stay HL.out HD.out (bthen (balloc _ _) (balloc _ _))).more (by omega)⟩
    · have hne : ((l.g : Int) == 4611686018427387904) = false := by simp; omega
      have HFU := Lib.hid hfull
      clear hfull
      go_enter Try.func39, Try.ntmps39
      go_wp2_with fail
      obtain ⟨wa, hwa⟩ : ∃ wa, wa = w.alloc (.cells #[.pointer (some ⟨x, 0, none⟩)] 59) := ⟨_, rfl⟩
      obtain ⟨w0, hw0⟩ : ∃ w0, w0 = wa.alloc (.cells #[.string ⟨s.toArray⟩] 9) := ⟨_, rfl⟩
      obtain ⟨n0, n1, b0, z0⟩ := log_box w x hwa s hw0
      rw [← hwa, ← hw0]
      clear hwa hw0
      have HLx := HL.out.below b0
      have HDx := HD.out.below b0
      obtain ⟨r, hr⟩ : ∃ r, (cpD l d s).2 = r := ⟨_, rfl⟩
      obtain ⟨E, hE⟩ : ∃ E, (cpD l d s).1 = E := ⟨_, rfl⟩
      refine (face_any x c 80 _ w0 l (cpL l r) (own3 c rb x) r (OnDisk c d E (m + 1) rb) (enters_of Try.func80 (by kernel_rfl) rfl) HLx HDD.out (own3_lt HLx HDx) (fun W hb => ?_)).mono ?_
      · have hn0 := stays n0 hb
        have hn1 := stays n1 hb
        have := check1_any x c w.heap.size (w.heap.size + 1) W l d m rb s (HLx.below hb) (HDx.below hb) hm (by omega) (by have := HFU.out; omega) (cells1 hn0).1 (cells1 hn1).1 (not_own hn0 (by decide) (by decide) (HDx.below hb)) (not_own hn1 (by decide) (by decide) (HDx.below hb)) (by omega) (cells1 hn0).2.2
        rw [hr, hE] at this
        exact this.mono fun e W' ⟨he, hw⟩ => ⟨he, hw.closure⟩
      · rintro e w1 ⟨rfl, W, W1, hfl⟩
        have HW : Hid (Worked x c (faceL (cpL l r) r) d E (m + 1) rb w w1) := Lib.hid ((Worked.face hfl (heap_lt HLx)).before b0)
        have HX : Hid (Wal.checkpoint l d s = (faceL (cpL l r) r, E, if r = 0 then 0 else 2)) := Lib.hid (by rw [checkpoint_eq l d s HDD.out hlong HFU.out, hr, hE])
        generalize (if r = 0 then (0 : Int) else 2) = q at HX ⊢
        clear HLx HDx hfl hr hE n0 n1 b0 z0 c2 c4
        go_wp2_with fail
        go_ret
        rw [HX.out]
        exact ⟨rfl, HW.out⟩
set_option maxHeartbeats 1000000 in
theorem records_any (x c : Nat) (w : World) (l : Wal.LS) (hl : LogAt w x c l) : Calls Try.prog 49 #[.pointer (some ⟨x, 0, none⟩)] w fun e w' => e = .returned (.int .i64 l.n) ∧ w = w' := by
  obtain ⟨_, _, _, c3, _⟩ := hl.cells
  clear hl
  go_enter Try.func49, Try.ntmps49
  go_wp2
  go_ret
  exact ⟨rfl, rfl⟩
set_option maxHeartbeats 1000000 in
theorem wdead_any (x c : Nat) (w : World) (l : Wal.LS) (hl : LogAt w x c l) : Calls Try.prog 75 #[.pointer (some ⟨x, 0, none⟩)] w fun e w' => e = .returned (.bool l.dead) ∧ w = w' := by
  obtain ⟨_, _, _, _, c4, _⟩ := hl.cells
  clear hl
  go_enter Try.func75, Try.ntmps75
  go_wp2
  go_ret
  exact ⟨rfl, rfl⟩
set_option maxHeartbeats 2000000 in
set_option maxRecDepth 100000 in
theorem room_any (x c : Nat) (w : World) (l : Wal.LS) (d : DS) (m : Nat) (rb : Option Nat) (hl : LogAt w x c l) (h : DiskAt w c d m rb) :
    Calls Try.prog 37 #[.pointer (some ⟨x, 0, none⟩)] w fun e w' => e = .returned (.int .i64 (Wal.room l d)) ∧ Below w.heap.size w w' := by
  obtain ⟨c0, c1, _⟩ := hl.cells
  have hz := h.1.base_len' l.f
  obtain ⟨z, hzz⟩ : ∃ z, d.size l.f = z := ⟨_, rfl⟩
  rw [hzz] at hz
  have HZ := Lib.hid hzz
  have HD := Lib.hid h
  have HB : Hid (∀ w' : World, Below w.heap.size w w' → (Below w.heap.size w w' ∧ w'.cell? ⟨x, 0, none⟩ = some (.pointer (some ⟨c, 0, none⟩)) ∧ w'.cell? ⟨x, 1, none⟩ = some (.int .i64 (DS.fi l.f)))) := fun w' hb => ⟨hb, cell_later hb c0, cell_later hb c1⟩
  have hw1 : IntKind.i64.wrap (1048576 - (z : Int)) = 1048576 - (z : Int) := IntWalk.i64_in _ (by omega)
  have hw2 : IntKind.i64.wrap (1048576 - (z : Int) - 8) = 1048576 - (z : Int) - 8 := IntWalk.i64_in _ (by omega)
  have hcase : ¬ (1048576 - (z : Int) - 8 < 65536) ∨ (1048576 - (z : Int) - 8 < 65536 ∧ (-1 : Int) < 1048576 - (z : Int) - 8) ∨ (1048576 - (z : Int) - 8 < 65536 ∧ ¬ ((-1 : Int) < 1048576 - (z : Int) - 8)) := by omega
  clear hl h hzz
  rcases hcase with k1 | ⟨k1, k2⟩ | ⟨k1, k2⟩
  all_goals go_enter Try.func37, Try.ntmps37
  all_goals go_wp2
  all_goals go_region_held3 (fun w' => Below w.heap.size w w' ∧ w'.cell? ⟨x, 0, none⟩ = some (.pointer (some ⟨c, 0, none⟩)) ∧ w'.cell? ⟨x, 1, none⟩ = some (.int .i64 (DS.fi l.f)))
    (first | assumption | exact HB.out _ (Below.refl _ _).drew | exact HB.out _ (bthen (by assumption : Below w.heap.size w _ ∧ _).1 (by assumption)))
    (first | (go_at_call 22; refine (size_at c _ d m rb l.f (HD.out.below (by assumption : Below w.heap.size w _ ∧ _).1)).mono ?_; rw [HZ.out]; rintro e w' ⟨rfl, hb⟩))
  all_goals rename_i hheld
  all_goals go_wp2
  all_goals go_ret
  all_goals exact ⟨ret_int (by unfold Wal.room; rw [HZ.out]; omega), hheld.1⟩
set_option maxHeartbeats 2000000 in
set_option maxRecDepth 100000 in
theorem wclone_any (x c c' : Nat) (w : World) (l : Wal.LS) (hl : LogAt w x c l) :
    Calls Try.prog 52 #[.pointer (some ⟨x, 0, none⟩), .pointer (some ⟨c', 0, none⟩)] w fun e w' => ∃ x', e = .returned (.pointer (some ⟨x', 0, none⟩)) ∧ w.heap.size ≤ x' ∧ LogAt w' x' c' l ∧ Below w.heap.size w w' := by
  obtain ⟨c0, c1, c2, c3, c4, _, hlt⟩ := hl.cells
  go_enter Try.func52, Try.ntmps52
  go_wp2
  go_ret
  exact ⟨w.heap.size, rfl, Nat.le_refl _, heap_new w _, balloc _ _⟩
/-- How New ends. -/
def NewEnds (c : Nat) (w : World) (o : Option Wal.LS) (d d' : DS) (m : Nat) (rb : Option Nat) (r : Int) (e : Ending) (w' : World) : Prop :=
  ∃ v, e = .returned (.tuple #[v, .int .i64 r]) ∧ (∀ l, o = some l → ∃ x, v = .pointer (some ⟨x, 0, none⟩) ∧ w.heap.size ≤ x ∧ LogAt w' x c l) ∧ (o = none → v = .pointer none) ∧
    ∃ rb', DiskAt w' c d' m rb' ∧ Newer w rb rb' ∧ Touch (own2 c rb) w w' ∧ (d'.dead = true → d.dead = false → rb' = none)
theorem NewEnds.refused {c : Nat} {w w' : World} {d : DS} {m : Nat} {rb : Option Nat} {r : Int} (h : DiskAt w c d m rb) (hb : Below w.heap.size w w') : NewEnds c w none d d (m + 1) rb r (.returned (.tuple #[.pointer none, .int .i64 r])) w' :=
  ⟨_, rfl, (fun _ h => by cases h), fun _ => rfl, rb, (h.below hb).mono (by omega), Newer.refl _ _, Touch.of_below hb, fun h1 h2 => by rw [h1] at h2; cases h2⟩
set_option maxHeartbeats 4000000 in
set_option maxRecDepth 100000 in
theorem wnew_any (c : Nat) (w : World) (d : DS) (m : Nat) (rb : Option Nat) (h : DiskAt w c d m rb) (hm : m < 5000000000000) :
    Calls Try.prog 40 #[.pointer (some ⟨c, 0, none⟩)] w (NewEnds c w (Wal.new d).1 d (Wal.new d).2.1 (m + 1) rb (Wal.new d).2.2) := by
  have hmf : ∀ (fn : Fn) (first cap : Array Value) (w : World), (Instr.makeFunc fn first cap).run Try.prog w = .ok (.func fn first cap) w := fun _ _ _ _ => rfl
  have HD := Lib.hid h
  have hok := h.1
  clear h
  cases hdd : d.dead with
  | true =>
    have HX : Hid (Wal.new d = (none, d, 2)) := Lib.hid (by unfold Wal.new; rw [if_pos hdd])
    go_enter Try.func40, Try.ntmps40
    go_wp2_with fail
    refine (dead_any c w d m rb HD.out).mono ?_
    rw [hdd]
    rintro e w1 ⟨rfl, rfl⟩
    clear hdd
    go_wp2_with fail
    go_ret2
    rw [HX.out]
    exact NewEnds.refused HD.out (Below.refl _ _)
  | false =>
    have HDD := Lib.hid hdd
    clear hdd
    obtain ⟨z0, hz0⟩ : ∃ z, d.size false = z := ⟨_, rfl⟩
    obtain ⟨z1, hz1⟩ : ∃ z, d.size true = z := ⟨_, rfl⟩
    have hb0 := hok.s0
    have hb1 := hok.s1
    rw [hz0] at hb0
    rw [hz1] at hb1
    have HZ0 := Lib.hid hz0
    have HZ1 := Lib.hid hz1
    clear hz0 hz1
    go_enter Try.func40, Try.ntmps40
    go_wp2_with fail
    refine (dead_any c w d m rb HD.out).mono ?_
    rw [HDD.out]
    rintro e w1 ⟨rfl, rfl⟩
    go_wp2_with fail
    refine (size_at c w d m rb false HD.out).mono ?_
    rw [HZ0.out]
    rintro e w2 ⟨rfl, b2⟩
    have B2 := Lib.hid b2
    clear b2
    go_wp2_with fail
    refine (size_at c w2 d m rb true (HD.out.below B2.out)).mono ?_
    rw [HZ1.out]
    rintro e w3 ⟨rfl, b3⟩
    have B3 := Lib.hid (bthen B2.out b3)
    clear b3
    by_cases hpos : 0 < z0 + z1
    · have HX : Hid (Wal.new d = (none, d, 100)) := Lib.hid (by unfold Wal.new; rw [if_neg (by simp [HDD.out]), HZ0.out, HZ1.out, if_pos hpos])
      go_wp2_with fail
      go_ret2
      rw [HX.out]
      exact NewEnds.refused HD.out B3.out
    · have hp0 : ¬ (0 < (z0 : Int) + (z1 : Int)) := by omega
      go_wp2_with fail
      obtain ⟨l0, hl0⟩ : ∃ l0 : Wal.LS, l0 = { f := false, g := 1, n := 0, dead := false } := ⟨_, rfl⟩
      have n0 : LogAt (w3.alloc (.cells #[.pointer (some ⟨c, 0, none⟩), .int .i64 0, .int .u64 1, .int .i64 0, .bool false] 113)) w3.heap.size c l0 := by
        subst hl0
        exact heap_new w3 _
      have b0 := balloc w3 (.cells #[.pointer (some ⟨c, 0, none⟩), .int .i64 0, .int .u64 1, .int .i64 0, .bool false] 113)
      have s0 : (w3.alloc (.cells #[.pointer (some ⟨c, 0, none⟩), .int .i64 0, .int .u64 1, .int .i64 0, .bool false] 113)).heap.size = w3.heap.size + 1 := by simp
      generalize w3.alloc (.cells #[.pointer (some ⟨c, 0, none⟩), .int .i64 0, .int .u64 1, .int .i64 0, .bool false] 113) = w4 at n0 b0 s0 ⊢
      have n1 := heap_new w4 (.cells #[.pointer (some ⟨w3.heap.size, 0, none⟩)] 59)
      have b1 := balloc w4 (.cells #[.pointer (some ⟨w3.heap.size, 0, none⟩)] 59)
      rw [s0] at n1
      generalize w4.alloc (.cells #[.pointer (some ⟨w3.heap.size, 0, none⟩)] 59) = w5 at n1 b1 ⊢
      have HLx := n0.below b1
      have hb35 := bthen b0 b1
      have hb5 := bthen B3.out hb35
      have HDx := HD.out.below hb5
      obtain ⟨r, hr⟩ : ∃ r, (Wal.lays d false 1 []).2 = r := ⟨_, rfl⟩
      obtain ⟨E, hE⟩ : ∃ E, (Wal.lays d false 1 []).1 = E := ⟨_, rfl⟩
      refine (face_any w3.heap.size c 82 _ w5 l0 l0 (own3 c rb w3.heap.size) r (OnDisk c d E (m + 1) rb) (enters_of Try.func82 (by kernel_rfl) rfl) HLx (by rw [hl0]) (own3_lt HLx HDx) (fun W hb => ?_)).mono ?_
      · have hn1 := stays n1 hb
        have := new1_any w3.heap.size c (w3.heap.size + 1) W l0 d m rb (HLx.below hb) (HDx.below hb) hm (cells1 hn1).1
        rw [hr, hE] at this
        exact this.mono fun e W' ⟨he, hw⟩ => ⟨he, hw.closure⟩
      · rintro e w6 ⟨rfl, W, W1, hfl⟩
        have hwk := Worked.face hfl (heap_lt HLx)
        have ht : Touch (own2 c rb) w w6 := Touch.trans (Touch.of_below hb5) hwk.touch (fun k hk ho => by
          rcases ho with ho | rfl
          · exact ho
          · have := B3.out.size; omega)
        obtain ⟨rb', hd', hn', hf'⟩ := hwk.disk
        have HP : Hid (DiskAt w6 c E (m + 1) rb' ∧ Newer w rb rb' ∧ Touch (own2 c rb) w w6 ∧ (E.dead = true → d.dead = false → rb' = none)) := Lib.hid ⟨hd', hn'.later hb5.size, ht, hf'⟩
        have HLF : Hid (r = 0 → LogAt w6 w3.heap.size c l0) := Lib.hid (fun h0 => by
          have := hwk.log
          unfold faceL at this
          rwa [if_pos h0] at this)
        obtain ⟨p0, _, _⟩ := cells1 n1
        have hbox : w6.cell? ⟨w3.heap.size + 1, 0, none⟩ = some (.pointer (some ⟨w3.heap.size, 0, none⟩)) := by
          refine cell_touch p0 hwk.touch ?_
          rintro (ho | ho)
          · exact not_own n1 (by decide) (by decide) HDx ho
          · omega
        have HX : Hid (Wal.new d = if r = 0 then (some l0, E, 0) else (none, E, 2)) := Lib.hid (by
          unfold Wal.new
          rw [if_neg (by simp [HDD.out]), HZ0.out, HZ1.out, if_neg hpos, hr, hE, hl0]
          by_cases h0 : r = 0
          · rw [if_neg (fun h => h h0), if_pos h0]
          · rw [if_pos h0, if_neg h0])
        clear hwk ht hd' hn' hf' hfl HLx HDx hb35 hb5 n0 n1 b0 b1 s0 p0 hr hE hl0
        have hsz := B3.out.size
        by_cases h0 : r = 0
        · subst h0
          have HLF' := Lib.hid (HLF.out rfl)
          clear HLF
          go_wp2_with fail
          go_ret2
          rw [HX.out]
          exact ⟨_, rfl, fun l hl => by cases hl; exact ⟨_, rfl, hsz, HLF'.out⟩, (fun h => by cases h), rb', HP.out⟩
        · rw [if_neg h0]
          go_wp2_with fail
          go_ret2
          rw [HX.out, if_neg h0]
          exact ⟨_, rfl, (fun l hl => by cases hl), fun _ => rfl, rb', HP.out⟩
end Go.Proofs.Ytpjpknndfhablaa
