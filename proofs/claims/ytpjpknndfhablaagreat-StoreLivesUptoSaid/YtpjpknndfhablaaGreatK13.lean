/- The log's methods Checkpoint, Room, Records, Dead, Clone; New. The closure of Open: its cuts. The walk of Open's closure. Reading records one by one. Plain Lean. -/
import Derived.Deep.QuietTactic
import Derived.BigQuiet
import Derived.Test.YtpjpknndfhablaaGreatK3
import Derived.Test.YtpjpknndfhablaaGreatK5
import Derived.Test.YtpjpknndfhablaaGreatK12
namespace Go.Proofs.YtpjpknndfhablaaGreat
open Go.RowKit
theorem checkpoint_eq (l : Wal.LS) (d : DS) (s : List UInt8) (h1 : l.dead = false) (h2 : ¬ 524288 < s.length) (h3 : ¬ l.g = 4611686018427387904) : Wal.checkpoint l d s = (faceL (cpL l (cpD l d s).2) (cpD l d s).2, (cpD l d s).1, if (cpD l d s).2 = 0 then 0 else 2) := by
  unfold Wal.checkpoint
  rw [if_neg (by simp [h1]), if_neg h2, if_neg h3]
  by_cases h : (Wal.lays d (!l.f) (l.g + 1) s).2 = 0
  · have e : cpD l d s = (Wal.lays d (!l.f) (l.g + 1) s).1.cut (DS.fi l.f) 0 := by unfold cpD; rw [if_neg (fun h' => h' h)]
    rw [e, if_neg (fun h' => h' h)]
    generalize (Wal.lays d (!l.f) (l.g + 1) s).1.cut (DS.fi l.f) 0 = p
    unfold faceL cpL
    by_cases h0 : p.2 = 0
    · rw [if_neg (fun h' => h' h0), if_pos h0, if_pos h0, if_pos h0]
    · rw [if_pos h0, if_neg h0, if_neg h0, if_neg h0]
  · have e : cpD l d s = Wal.lays d (!l.f) (l.g + 1) s := by unfold cpD; rw [if_pos h]
    rw [e, if_pos h]
    generalize Wal.lays d (!l.f) (l.g + 1) s = p at h
    unfold faceL cpL
    rw [if_neg h, if_neg h, if_neg h]
set_option maxHeartbeats 4000000 in
set_option maxRecDepth 100000 in
theorem wcheck_any (x c : Nat) (w : World) (l : Wal.LS) (d : DS) (m : Nat) (rb : Option Nat) (s : List UInt8) (hl : LogAt w x c l) (h : DiskAt w c d m rb) (hm : m < 5000000000000) (hs : s.length ≤ 140737488355328) (hlg : l.g ≤ 4611686018427387904) :
    Calls Tryz.prog 116 #[.pointer (some ⟨x, 0, none⟩), .string ⟨s.toArray⟩] w fun e w' => e = .returned (.int .i64 (Wal.checkpoint l d s).2.2) ∧ Worked x c (Wal.checkpoint l d s).1 d (Wal.checkpoint l d s).2.1 (m + 1) rb w w' := by
  have hmf : ∀ (fn : Fn) (first cap : Array Value) (w : World), (Instr.makeFunc fn first cap).run Tryz.prog w = .ok (.func fn first cap) w := fun _ _ _ _ => rfl
  have HL := Lib.hid hl
  have HD := Lib.hid h
  obtain ⟨_, _, c2, _, c4, _, hlt⟩ := hl.cells
  clear hl h
  cases hdd : l.dead with
  | true =>
    rw [hdd] at c4
    have HX : Hid (Wal.checkpoint l d s = (l, d, 2)) := Lib.hid (by unfold Wal.checkpoint; rw [if_pos hdd])
    clear hdd
    go_enter Tryz.func116, Tryz.ntmps116
    go_wp2_with fail
    go_ret
    rw [HX.out]
    exact ⟨rfl, (Worked.stay HL.out HD.out (bthen (balloc _ _) (balloc _ _))).more (by omega)⟩
  | false =>
    rw [hdd] at c4
    have HDD := Lib.hid hdd
    clear hdd
    by_cases hlong : 524288 < s.length
    · have HX : Hid (Wal.checkpoint l d s = (l, d, 101)) := Lib.hid (by unfold Wal.checkpoint; rw [if_neg (by simp [HDD.out]), if_pos hlong])
      go_enter Tryz.func116, Tryz.ntmps116
      go_wp2_with fail
      go_ret
      rw [HX.out]
      exact ⟨rfl, (Worked.stay HL.out HD.out (bthen (balloc _ _) (balloc _ _))).more (by omega)⟩
    by_cases hfull : l.g = 4611686018427387904
    · have HX : Hid (Wal.checkpoint l d s = (l, d, 102)) := Lib.hid (by unfold Wal.checkpoint; rw [if_neg (by simp [HDD.out]), if_neg hlong, if_pos hfull])
      have c2' : w.cell? ⟨x, 2, none⟩ = some (.int .u64 4611686018427387904) := by rw [c2, hfull]; rfl
      clear c2 hfull
      go_enter Tryz.func116, Tryz.ntmps116
      go_wp2_with fail
      go_ret
      rw [HX.out]
      exact ⟨rfl, (Worked.stay HL.out HD.out (bthen (balloc _ _) (balloc _ _))).more (by omega)⟩
    · have hne : ((l.g : Int) == 4611686018427387904) = false := by simp; omega
      have HFU := Lib.hid hfull
      clear hfull
      go_enter Tryz.func116, Tryz.ntmps116
      go_wp2_with fail
      obtain ⟨wa, hwa⟩ : ∃ wa, wa = w.alloc (.cells #[.pointer (some ⟨x, 0, none⟩)] 98) := ⟨_, rfl⟩
      obtain ⟨w0, hw0⟩ : ∃ w0, w0 = wa.alloc (.cells #[.string ⟨s.toArray⟩] 9) := ⟨_, rfl⟩
      obtain ⟨n0, n1, b0, z0⟩ := log_box w x hwa s hw0
      rw [← hwa, ← hw0]
      clear hwa hw0
      have HLx := HL.out.below b0
      have HDx := HD.out.below b0
      obtain ⟨r, hr⟩ : ∃ r, (cpD l d s).2 = r := ⟨_, rfl⟩
      obtain ⟨E, hE⟩ : ∃ E, (cpD l d s).1 = E := ⟨_, rfl⟩
      refine (face_any x c 155 _ w0 l (cpL l r) (own3 c rb x) r (OnDisk c d E (m + 1) rb) (enters_of Tryz.func155 (by kernel_rfl) rfl) HLx HDD.out (own3_lt HLx HDx) (fun W hb => ?_)).mono ?_
      · have hn0 := stays n0 hb
        have hn1 := stays n1 hb
        have := check1_any x c w.heap.size (w.heap.size + 1) W l d m rb s (HLx.below hb) (HDx.below hb) hm (by omega) (by have := HFU.out; omega) (cells1 hn0).1 (cells1 hn1).1 (not_own hn0 (by decide) (by decide) (HDx.below hb)) (not_own hn1 (by decide) (by decide) (HDx.below hb)) (by omega) (cells1 hn0).2.2
        rw [hr, hE] at this
        exact this.mono fun e W' ⟨he, hw⟩ => ⟨he, hw.closure⟩
      · rintro e w1 ⟨rfl, W, W1, hfl⟩
        have HW : Hid (Worked x c (faceL (cpL l r) r) d E (m + 1) rb w w1) := Lib.hid ((Worked.face hfl (heap_lt HLx)).before b0)
        have HX : Hid (Wal.checkpoint l d s = (faceL (cpL l r) r, E, if r = 0 then 0 else 2)) := Lib.hid (by rw [checkpoint_eq l d s HDD.out hlong HFU.out, hr, hE])
        generalize (if r = 0 then (0 : Int) else 2) = q at HX ⊢
        clear HLx HDx hfl hr hE n0 n1 b0 z0 c2 c4
        go_wp2_with fail
        go_ret
        rw [HX.out]
        exact ⟨rfl, HW.out⟩
set_option maxHeartbeats 2000000 in
set_option maxRecDepth 100000 in
theorem room_any (x c : Nat) (w : World) (l : Wal.LS) (d : DS) (m : Nat) (rb : Option Nat) (hl : LogAt w x c l) (h : DiskAt w c d m rb) :
    Calls Tryz.prog 67 #[.pointer (some ⟨x, 0, none⟩)] w fun e w' => e = .returned (.int .i64 (Wal.room l d)) ∧ Below w.heap.size w w' := by
  obtain ⟨c0, c1, _⟩ := hl.cells
  have hz := h.1.base_len' l.f
  obtain ⟨z, hzz⟩ : ∃ z, d.size l.f = z := ⟨_, rfl⟩
  rw [hzz] at hz
  have HZ := Lib.hid hzz
  have HD := Lib.hid h
  have HB : Hid (∀ w' : World, Below w.heap.size w w' → (Below w.heap.size w w' ∧ w'.cell? ⟨x, 0, none⟩ = some (.pointer (some ⟨c, 0, none⟩)) ∧ w'.cell? ⟨x, 1, none⟩ = some (.int .i64 (DS.fi l.f)))) := fun w' hb => ⟨hb, cell_later hb c0, cell_later hb c1⟩
  have hw1 : IntKind.i64.wrap (1048576 - (z : Int)) = 1048576 - (z : Int) := IntWalk.i64_in _ (by omega)
  have hw2 : IntKind.i64.wrap (1048576 - (z : Int) - 8) = 1048576 - (z : Int) - 8 := IntWalk.i64_in _ (by omega)
  have hcase : ¬ (1048576 - (z : Int) - 8 < 65536) ∨ (1048576 - (z : Int) - 8 < 65536 ∧ (-1 : Int) < 1048576 - (z : Int) - 8) ∨ (1048576 - (z : Int) - 8 < 65536 ∧ ¬ ((-1 : Int) < 1048576 - (z : Int) - 8)) := by omega
  clear hl h hzz
  rcases hcase with k1 | ⟨k1, k2⟩ | ⟨k1, k2⟩
  all_goals go_enter Tryz.func67, Tryz.ntmps67
  all_goals go_wp2
  all_goals go_region_held3 (fun w' => Below w.heap.size w w' ∧ w'.cell? ⟨x, 0, none⟩ = some (.pointer (some ⟨c, 0, none⟩)) ∧ w'.cell? ⟨x, 1, none⟩ = some (.int .i64 (DS.fi l.f)))
    (first | assumption | exact HB.out _ (Below.refl _ _).drew | exact HB.out _ (bthen (by assumption : Below w.heap.size w _ ∧ _).1 (by assumption)))
    (first | (go_at_call 85; refine (size_at c _ d m rb l.f (HD.out.below (by assumption : Below w.heap.size w _ ∧ _).1)).mono ?_; rw [HZ.out]; rintro e w' ⟨rfl, hb⟩))
  all_goals rename_i hheld
  all_goals go_wp2
  all_goals go_ret
  all_goals exact ⟨ret_int (by unfold Wal.room; rw [HZ.out]; omega), hheld.1⟩
set_option maxHeartbeats 2000000 in
set_option maxRecDepth 100000 in
theorem wclone_any (x c c' : Nat) (w : World) (l : Wal.LS) (hl : LogAt w x c l) :
    Calls Tryz.prog 71 #[.pointer (some ⟨x, 0, none⟩), .pointer (some ⟨c', 0, none⟩)] w fun e w' => ∃ x', e = .returned (.pointer (some ⟨x', 0, none⟩)) ∧ w.heap.size ≤ x' ∧ LogAt w' x' c' l ∧ Below w.heap.size w w' := by
  obtain ⟨c0, c1, c2, c3, c4, _, hlt⟩ := hl.cells
  go_enter Tryz.func71, Tryz.ntmps71
  go_wp2
  go_ret
  exact ⟨w.heap.size, rfl, Nat.le_refl _, heap_new w _, balloc _ _⟩
/-- How New ends. -/
def NewEnds (c : Nat) (w : World) (o : Option Wal.LS) (d d' : DS) (m : Nat) (rb : Option Nat) (r : Int) (e : Ending) (w' : World) : Prop :=
  ∃ v, e = .returned (.tuple #[v, .int .i64 r]) ∧ (∀ l, o = some l → ∃ x, v = .pointer (some ⟨x, 0, none⟩) ∧ w.heap.size ≤ x ∧ LogAt w' x c l) ∧ (o = none → v = .pointer none) ∧
    ∃ rb', DiskAt w' c d' m rb' ∧ Newer w rb rb' ∧ Touch (own2 c rb) w w' ∧ (d'.dead = true → d.dead = false → rb' = none)
theorem NewEnds.refused {c : Nat} {w w' : World} {d : DS} {m : Nat} {rb : Option Nat} {r : Int} (h : DiskAt w c d m rb) (hb : Below w.heap.size w w') : NewEnds c w none d d (m + 1) rb r (.returned (.tuple #[.pointer none, .int .i64 r])) w' :=
  ⟨_, rfl, (fun _ h => by cases h), fun _ => rfl, rb, (h.below hb).mono (by omega), Newer.refl _ _, Touch.of_below hb, fun h1 h2 => by rw [h1] at h2; cases h2⟩
set_option maxHeartbeats 4000000 in
set_option maxRecDepth 100000 in
theorem wnew_any (c : Nat) (w : World) (d : DS) (m : Nat) (rb : Option Nat) (h : DiskAt w c d m rb) (hm : m < 5000000000000) :
    Calls Tryz.prog 44 #[.pointer (some ⟨c, 0, none⟩)] w (NewEnds c w (Wal.new d).1 d (Wal.new d).2.1 (m + 1) rb (Wal.new d).2.2) := by
  have hmf : ∀ (fn : Fn) (first cap : Array Value) (w : World), (Instr.makeFunc fn first cap).run Tryz.prog w = .ok (.func fn first cap) w := fun _ _ _ _ => rfl
  have HD := Lib.hid h
  have hok := h.1
  clear h
  cases hdd : d.dead with
  | true =>
    have HX : Hid (Wal.new d = (none, d, 2)) := Lib.hid (by unfold Wal.new; rw [if_pos hdd])
    go_enter Tryz.func44, Tryz.ntmps44
    go_wp2_with fail
    refine (dead_any c w d m rb HD.out).mono ?_
    rw [hdd]
    rintro e w1 ⟨rfl, rfl⟩
    clear hdd
    go_wp2_with fail
    go_ret2
    rw [HX.out]
    exact NewEnds.refused HD.out (Below.refl _ _)
  | false =>
    have HDD := Lib.hid hdd
    clear hdd
    obtain ⟨z0, hz0⟩ : ∃ z, d.size false = z := ⟨_, rfl⟩
    obtain ⟨z1, hz1⟩ : ∃ z, d.size true = z := ⟨_, rfl⟩
    have hb0 := hok.s0
    have hb1 := hok.s1
    rw [hz0] at hb0
    rw [hz1] at hb1
    have HZ0 := Lib.hid hz0
    have HZ1 := Lib.hid hz1
    clear hz0 hz1
    go_enter Tryz.func44, Tryz.ntmps44
    go_wp2_with fail
    refine (dead_any c w d m rb HD.out).mono ?_
    rw [HDD.out]
    rintro e w1 ⟨rfl, rfl⟩
    go_wp2_with fail
    refine (size_at c w d m rb false HD.out).mono ?_
    rw [HZ0.out]
    rintro e w2 ⟨rfl, b2⟩
    have B2 := Lib.hid b2
    clear b2
    go_wp2_with fail
    refine (size_at c w2 d m rb true (HD.out.below B2.out)).mono ?_
    rw [HZ1.out]
    rintro e w3 ⟨rfl, b3⟩
    have B3 := Lib.hid (bthen B2.out b3)
    clear b3
    by_cases hpos : 0 < z0 + z1
    · have HX : Hid (Wal.new d = (none, d, 100)) := Lib.hid (by unfold Wal.new; rw [if_neg (by simp [HDD.out]), HZ0.out, HZ1.out, if_pos hpos])
      go_wp2_with fail
      go_ret2
      rw [HX.out]
      exact NewEnds.refused HD.out B3.out
    · have hp0 : ¬ (0 < (z0 : Int) + (z1 : Int)) := by omega
      go_wp2_with fail
      obtain ⟨l0, hl0⟩ : ∃ l0 : Wal.LS, l0 = { f := false, g := 1, n := 0, dead := false } := ⟨_, rfl⟩
      have n0 : LogAt (w3.alloc (.cells #[.pointer (some ⟨c, 0, none⟩), .int .i64 0, .int .u64 1, .int .i64 0, .bool false] 148)) w3.heap.size c l0 := by
        subst hl0
        exact heap_new w3 _
      have b0 := balloc w3 (.cells #[.pointer (some ⟨c, 0, none⟩), .int .i64 0, .int .u64 1, .int .i64 0, .bool false] 148)
      have s0 : (w3.alloc (.cells #[.pointer (some ⟨c, 0, none⟩), .int .i64 0, .int .u64 1, .int .i64 0, .bool false] 148)).heap.size = w3.heap.size + 1 := by simp
      generalize w3.alloc (.cells #[.pointer (some ⟨c, 0, none⟩), .int .i64 0, .int .u64 1, .int .i64 0, .bool false] 148) = w4 at n0 b0 s0 ⊢
      have n1 := heap_new w4 (.cells #[.pointer (some ⟨w3.heap.size, 0, none⟩)] 98)
      have b1 := balloc w4 (.cells #[.pointer (some ⟨w3.heap.size, 0, none⟩)] 98)
      rw [s0] at n1
      generalize w4.alloc (.cells #[.pointer (some ⟨w3.heap.size, 0, none⟩)] 98) = w5 at n1 b1 ⊢
      have HLx := n0.below b1
      have hb35 := bthen b0 b1
      have hb5 := bthen B3.out hb35
      have HDx := HD.out.below hb5
      obtain ⟨r, hr⟩ : ∃ r, (Wal.lays d false 1 []).2 = r := ⟨_, rfl⟩
      obtain ⟨E, hE⟩ : ∃ E, (Wal.lays d false 1 []).1 = E := ⟨_, rfl⟩
      refine (face_any w3.heap.size c 87 _ w5 l0 l0 (own3 c rb w3.heap.size) r (OnDisk c d E (m + 1) rb) (enters_of Tryz.func87 (by kernel_rfl) rfl) HLx (by rw [hl0]) (own3_lt HLx HDx) (fun W hb => ?_)).mono ?_
      · have hn1 := stays n1 hb
        have := new1_any w3.heap.size c (w3.heap.size + 1) W l0 d m rb (HLx.below hb) (HDx.below hb) hm (cells1 hn1).1
        rw [hr, hE] at this
        exact this.mono fun e W' ⟨he, hw⟩ => ⟨he, hw.closure⟩
      · rintro e w6 ⟨rfl, W, W1, hfl⟩
        have hwk := Worked.face hfl (heap_lt HLx)
        have ht : Touch (own2 c rb) w w6 := Touch.trans (Touch.of_below hb5) hwk.touch (fun k hk ho => by
          rcases ho with ho | rfl
          · exact ho
          · have := B3.out.size; omega)
        obtain ⟨rb', hd', hn', hf'⟩ := hwk.disk
        have HP : Hid (DiskAt w6 c E (m + 1) rb' ∧ Newer w rb rb' ∧ Touch (own2 c rb) w w6 ∧ (E.dead = true → d.dead = false → rb' = none)) := Lib.hid ⟨hd', hn'.later hb5.size, ht, hf'⟩
        have HLF : Hid (r = 0 → LogAt w6 w3.heap.size c l0) := Lib.hid (fun h0 => by
          have := hwk.log
          unfold faceL at this
          rwa [if_pos h0] at this)
        obtain ⟨p0, _, _⟩ := cells1 n1
        have hbox : w6.cell? ⟨w3.heap.size + 1, 0, none⟩ = some (.pointer (some ⟨w3.heap.size, 0, none⟩)) := by
          refine cell_touch p0 hwk.touch ?_
          rintro (ho | ho)
          · exact not_own n1 (by decide) (by decide) HDx ho
          · omega
        have HX : Hid (Wal.new d = if r = 0 then (some l0, E, 0) else (none, E, 2)) := Lib.hid (by
          unfold Wal.new
          rw [if_neg (by simp [HDD.out]), HZ0.out, HZ1.out, if_neg hpos, hr, hE, hl0]
          by_cases h0 : r = 0
          · rw [if_neg (fun h => h h0), if_pos h0]
          · rw [if_pos h0, if_neg h0])
        clear hwk ht hd' hn' hf' hfl HLx HDx hb35 hb5 n0 n1 b0 b1 s0 p0 hr hE hl0
        have hsz := B3.out.size
        by_cases h0 : r = 0
        · subst h0
          have HLF' := Lib.hid (HLF.out rfl)
          clear HLF
          go_wp2_with fail
          go_ret2
          rw [HX.out]
          exact ⟨_, rfl, fun l hl => by cases hl; exact ⟨_, rfl, hsz, HLF'.out⟩, (fun h => by cases h), rb', HP.out⟩
        · rw [if_neg h0]
          go_wp2_with fail
          go_ret2
          rw [HX.out, if_neg h0]
          exact ⟨_, rfl, (fun l hl => by cases hl), fun _ => rfl, rb', HP.out⟩
end Go.Proofs.YtpjpknndfhablaaGreat
namespace Go.Proofs.YtpjpknndfhablaaGreat
open Go.RowKit
/-- What lies in the boxes of Open: where the records end, the files, which is best, the log, the disk, the other one. -/
structure Boxes (w : World) (ba bf bb bl bd bo q : Nat) (p : Nat) (F0 F1 : List UInt8) (f : Bool) (x c : Nat) : Prop where
  a : w.cell? ⟨ba, 0, none⟩ = some (.int .i64 p)
  fs : w.cell? ⟨bf, 0, none⟩ = some (.slice (some ⟨q, 0, none⟩) 2 2)
  b : w.cell? ⟨bb, 0, none⟩ = some (.int .i64 (DS.fi f))
  l : w.cell? ⟨bl, 0, none⟩ = some (.pointer (some ⟨x, 0, none⟩))
  d : w.cell? ⟨bd, 0, none⟩ = some (.pointer (some ⟨c, 0, none⟩))
  o : w.cell? ⟨bo, 0, none⟩ = some (.int .i64 (DS.fi (!f)))
  f0 : w.cell? ⟨q, 0, none⟩ = some (.string ⟨F0.toArray⟩)
  f1 : w.cell? ⟨q, 1, none⟩ = some (.string ⟨F1.toArray⟩)
def NotIn (S : Nat → Prop) (ba bf bb bl bd bo q : Nat) : Prop := ¬ S ba ∧ ¬ S bf ∧ ¬ S bb ∧ ¬ S bl ∧ ¬ S bd ∧ ¬ S bo ∧ ¬ S q
theorem Boxes.touch {w w' : World} {ba bf bb bl bd bo q p : Nat} {F0 F1 : List UInt8} {f : Bool} {x c : Nat} (h : Boxes w ba bf bb bl bd bo q p F0 F1 f x c) {S : Nat → Prop} (ht : Touch S w w') (hn : NotIn S ba bf bb bl bd bo q) : Boxes w' ba bf bb bl bd bo q p F0 F1 f x c := by
  obtain ⟨n1, n2, n3, n4, n5, n6, n7⟩ := hn
  exact ⟨cell_touch h.a ht n1, cell_touch h.fs ht n2, cell_touch h.b ht n3, cell_touch h.l ht n4, cell_touch h.d ht n5, cell_touch h.o ht n6, cell_touch h.f0 ht n7, cell_touch h.f1 ht n7⟩
theorem Boxes.lt {w : World} {ba bf bb bl bd bo q p : Nat} {F0 F1 : List UInt8} {f : Bool} {x c : Nat} (h : Boxes w ba bf bb bl bd bo q p F0 F1 f x c) : ba < w.heap.size ∧ bf < w.heap.size ∧ bb < w.heap.size ∧ bl < w.heap.size ∧ bd < w.heap.size ∧ bo < w.heap.size ∧ q < w.heap.size :=
  ⟨World.block_lt_of_cell? _ _ h.a, World.block_lt_of_cell? _ _ h.fs, World.block_lt_of_cell? _ _ h.b, World.block_lt_of_cell? _ _ h.l, World.block_lt_of_cell? _ _ h.d, World.block_lt_of_cell? _ _ h.o, World.block_lt_of_cell? _ _ h.f0⟩
theorem NotIn.newer {w : World} {c : Nat} {rb rb' : Option Nat} {ba bf bb bl bd bo q : Nat} (h : NotIn (own2 c rb) ba bf bb bl bd bo q) (hn : Newer w rb rb') (hlt : ba < w.heap.size ∧ bf < w.heap.size ∧ bb < w.heap.size ∧ bl < w.heap.size ∧ bd < w.heap.size ∧ bo < w.heap.size ∧ q < w.heap.size) : NotIn (own2 c rb') ba bf bb bl bd bo q := by
  have key : ∀ b, b < w.heap.size → ¬ own2 c rb b → ¬ own2 c rb' b := fun b hb h0 ho => by
    rcases ho with ho | ho
    · exact h0 (.inl ho)
    · rcases hn b ho with h1 | h1
      · exact h0 (.inr h1)
      · omega
  obtain ⟨n1, n2, n3, n4, n5, n6, n7⟩ := h
  obtain ⟨l1, l2, l3, l4, l5, l6, l7⟩ := hlt
  exact ⟨key _ l1 n1, key _ l2 n2, key _ l3 n3, key _ l4 n4, key _ l5 n5, key _ l6 n6, key _ l7 n7⟩
/-- The file of Open's boxes. -/
def pickF (F0 F1 : List UInt8) (f : Bool) : List UInt8 := if f then F1 else F0
/-- The second half of the closure: the other file is cut, where it has bytes. -/
structure Half (W w' : World) (ba bf bb bl bd bo q p : Nat) (F0 F1 : List UInt8) (f : Bool) (x c : Nat) (l : Wal.LS) (d E : DS) (m : Nat) (rb : Option Nat) : Prop where
  boxes : Boxes w' ba bf bb bl bd bo q p F0 F1 f x c
  log : LogAt w' x c l
  ex : ∃ rb', DiskAt w' c E m rb' ∧ Newer W rb rb' ∧ (E.dead = true → d.dead = false → rb' = none) ∧ NotIn (own2 c rb') ba bf bb bl bd bo q
  touch : Touch (own2 c rb) W w'
theorem Half.worked {W w' : World} {ba bf bb bl bd bo q p : Nat} {F0 F1 : List UInt8} {f : Bool} {x c : Nat} {l : Wal.LS} {d E : DS} {m : Nat} {rb : Option Nat} (h : Half W w' ba bf bb bl bd bo q p F0 F1 f x c l d E m rb) : Worked x c l d E m rb W w' :=
  ⟨h.log, by obtain ⟨rb', h1, h2, h3, _⟩ := h.ex; exact ⟨rb', h1, h2, h3⟩, own3_of h.touch⟩
theorem Half.drew {W w' : World} {ba bf bb bl bd bo q p : Nat} {F0 F1 : List UInt8} {f : Bool} {x c : Nat} {l : Wal.LS} {d E : DS} {m : Nat} {rb : Option Nat} (h : Half W w' ba bf bb bl bd bo q p F0 F1 f x c l d E m rb) {n : Nat} : Half W (w'.drewN n) ba bf bb bl bd bo q p F0 F1 f x c l d E m rb := by
  have hb : Below w'.heap.size w' (w'.drewN n) := below_drewN (Below.refl _ _) n
  obtain ⟨rb', h1, h2, h3, h4⟩ := h.ex
  exact ⟨h.boxes.touch (Touch.of_below (S := fun _ => False) hb) ⟨id, id, id, id, id, id, id⟩, h.log.below hb, ⟨rb', h1.below hb, h2, h3, h4⟩, Touch.trans h.touch (Touch.of_below (S := fun _ => False) hb) (fun _ _ h => h.elim)⟩
/-- A cut within the closure. -/
theorem half_cut {W w1 : World} {ba bf bb bl bd bo q p : Nat} {F0 F1 : List UInt8} {f : Bool} {x c : Nat} {l : Wal.LS} {d E : DS} {m : Nat} {rb : Option Nat} (h : Half W w1 ba bf bb bl bd bo q p F0 F1 f x c l d E m rb) (g n : Int) (hEd : d.dead = false → E.dead = false) :
    Calls Tryz.prog 98 #[.pointer (some ⟨c, 0, none⟩), .int .i64 g, .int .i64 n] w1 fun e w' => e = .returned (.int .i64 (E.cut g n).2) ∧ Half W w' ba bf bb bl bd bo q p F0 F1 f x c l d (E.cut g n).1 m rb := by
  obtain ⟨rb', h1, h2, h3, h4⟩ := h.ex
  refine (cut_anyN c w1 E m rb' g n h1).mono ?_
  rintro e w' ⟨he, rb2, k1, k2, k3, k4⟩
  exact ⟨he, h.boxes.touch k3 h4, h.log.touch k3 (h.log.apart h1), ⟨rb2, k1, h2.trans k2 h.touch.size, fun a b => k4 a (hEd b), h4.newer k2 h.boxes.lt⟩, own2_trans h.touch h2 k3⟩
theorem cut_dead {d : DS} {f n : Int} (h : (d.cut f n).2 = 0) : d.dead = false → (d.cut f n).1.dead = false := by
  intro hd
  unfold DS.cut at h ⊢
  rw [if_neg (by simp [hd])] at h ⊢
  split
  · exact hd
  · rename_i q hq
    rw [hq] at h
    simp only at h
    split
    · exact hd
    · rename_i h1
      rw [if_neg h1] at h
      split
      · rename_i h2; rw [if_pos h2] at h; cases h
      · cases q <;> exact hd
end Go.Proofs.YtpjpknndfhablaaGreat
namespace Go.Proofs.YtpjpknndfhablaaGreat
open Go.RowKit

set_option maxHeartbeats 4000000 in
set_option maxRecDepth 100000 in
theorem open1_false (x c ba bf bb bl bd bo q p : Nat) (W : World) (l : Wal.LS) (d : DS) (m : Nat) (rb : Option Nat) (hb : Boxes W ba bf bb bl bd bo q p (d.file false) (d.file true) false x c) (hn : NotIn (own2 c rb) ba bf bb bl bd bo q) (hl : LogAt W x c l) (h : DiskAt W c d m rb) :
    Calls Tryz.prog 96 #[.pointer (some ⟨ba, 0, none⟩), .pointer (some ⟨bf, 0, none⟩), .pointer (some ⟨bb, 0, none⟩), .pointer (some ⟨bl, 0, none⟩), .pointer (some ⟨bd, 0, none⟩), .pointer (some ⟨bo, 0, none⟩)] W fun e w' => Ends (Wal.cuts d false p).2 e ∧ Worked x c l d (Wal.cuts d false p).1 m rb W w' := by
  obtain ⟨F0, hF0⟩ : ∃ F, d.file false = F := ⟨_, rfl⟩
  obtain ⟨F1, hF1⟩ : ∃ F, d.file true = F := ⟨_, rfl⟩
  have H0 : Half W W ba bf bb bl bd bo q p (d.file false) (d.file true) false x c l d d m rb := ⟨hb, hl, ⟨rb, h, Newer.refl _ _, fun h1 h2 => (by rw [h1] at h2; cases h2), hn⟩, Touch.refl _ _⟩
  rw [hF0, hF1] at H0
  have hlF : F0.length ≤ 1048576 := by rw [← hF0]; exact h.1.base_len' false
  have hlO : F1.length ≤ 1048576 := by rw [← hF1]; exact h.1.base_len' true
  have ca := H0.boxes.a
  have cf := H0.boxes.fs
  have cb : W.cell? ⟨bb, 0, none⟩ = some (.int .i64 0) := H0.boxes.b
  have cf0 := H0.boxes.f0
  obtain ⟨R, r, hR⟩ : ∃ R r, Wal.cutEnd d false p = (R, r) := ⟨_, _, rfl⟩
  have HR := Lib.hid hR
  have HH := Lib.hid H0
  have HG := Lib.hid hF0
  have HK := Lib.hid hF1
  clear hb hn hl h H0 hR hF0 hF1
  go_enter Tryz.func96, Tryz.ntmps96
  go_wp2_with fail
  go_quiet (fail)
  have H1 := Lib.hid (HH.out.drew (n := nq))
  clear ca cf cb cf0 HH
  generalize W.drewN nq = w1 at H1 ⊢
  by_cases hp : p < F0.length
  · have HCU : Hid (d.cut (DS.fi false) p = (R, r)) := Lib.hid (by have := HR.out; unfold Wal.cutEnd at this; rwa [HG.out, if_pos hp] at this)
    go_wp2_with fail
    have hS0 : w1.drew.cell? ⟨bl, 0, none⟩ = some (.pointer (some ⟨x, 0, none⟩)) ∧ w1.drew.cell? ⟨bd, 0, none⟩ = some (.pointer (some ⟨c, 0, none⟩)) ∧ w1.drew.cell? ⟨bb, 0, none⟩ = some (.int .i64 0) ∧ w1.drew.cell? ⟨ba, 0, none⟩ = some (.int .i64 p) := ⟨H1.out.boxes.l, H1.out.boxes.d, H1.out.boxes.b, H1.out.boxes.a⟩
    refine wp_region_heldL (S := fun w' => w'.cell? ⟨bl, 0, none⟩ = some (.pointer (some ⟨x, 0, none⟩)) ∧ w'.cell? ⟨bd, 0, none⟩ = some (.pointer (some ⟨c, 0, none⟩)) ∧ w'.cell? ⟨bb, 0, none⟩ = some (.int .i64 0) ∧ w'.cell? ⟨ba, 0, none⟩ = some (.int .i64 p)) (by kernel_rfl) ?_
    refine wpAnyH_takeL (i := 0) (v := ?_) rfl (by kernel_rfl) (by kernel_rfl) (by kernel_rfl) (fun _ _ _ h => h) ?_ (by assumption) ?_; rotate_left; focus (first | (refine Or.inr ⟨by rfl, ?_⟩; with_reducible rfl) | (refine Or.inl ⟨by rfl, ?_⟩; (intro w hSw; (try dsimp only at hSw); go_simp); try with_reducible rfl))
    try simp only [Act.put, List.setIfInBounds_toArray, List.set_cons_zero, List.set_cons_succ]
    refine wpAnyH_takeL (i := 1) (v := ?_) rfl (by kernel_rfl) (by kernel_rfl) (by kernel_rfl) (fun _ _ _ h => h) ?_ (by assumption) ?_; rotate_left; focus (first | (refine Or.inr ⟨by rfl, ?_⟩; with_reducible rfl) | (refine Or.inl ⟨by rfl, ?_⟩; (intro w hSw; (try dsimp only at hSw); go_simp); try with_reducible rfl))
    try simp only [Act.put, List.setIfInBounds_toArray, List.set_cons_zero, List.set_cons_succ]
    refine wpAnyH_takeL (i := 2) (v := ?_) rfl (by kernel_rfl) (by kernel_rfl) (by kernel_rfl) (fun _ _ _ h => h) ?_ (by assumption) ?_; rotate_left; focus (first | (refine Or.inr ⟨by rfl, ?_⟩; with_reducible rfl) | (refine Or.inl ⟨by rfl, ?_⟩; (intro w hSw; (try dsimp only at hSw); go_simp); try with_reducible rfl))
    try simp only [Act.put, List.setIfInBounds_toArray, List.set_cons_zero, List.set_cons_succ]
    refine wpAnyH_takeL (i := 3) (v := ?_) rfl (by kernel_rfl) (by kernel_rfl) (by kernel_rfl) (fun _ _ _ h => h) ?_ (by assumption) ?_; rotate_left; focus (first | (refine Or.inr ⟨by rfl, ?_⟩; with_reducible rfl) | (refine Or.inl ⟨by rfl, ?_⟩; (intro w hSw; (try dsimp only at hSw); go_simp); try with_reducible rfl))
    try simp only [Act.put, List.setIfInBounds_toArray, List.set_cons_zero, List.set_cons_succ]
    refine wpAnyH_oneL (i := 4) rfl (by kernel_rfl) ?_
    intro K hK
    rw [if_pos (by rfl)]
    go_simp
    go_at_call 98
    have H1d := H1.out.drew (n := 1)
    refine (half_cut (w1 := w1.drew) H1d 0 p id).mono ?_
    have hcu : d.cut 0 p = (R, r) := HCU.out
    rw [hcu]
    rintro e w2 ⟨rfl, h2⟩
    have hS2 : w2.cell? ⟨bl, 0, none⟩ = some (.pointer (some ⟨x, 0, none⟩)) ∧ w2.cell? ⟨bd, 0, none⟩ = some (.pointer (some ⟨c, 0, none⟩)) ∧ w2.cell? ⟨bb, 0, none⟩ = some (.int .i64 0) ∧ w2.cell? ⟨ba, 0, none⟩ = some (.int .i64 p) := ⟨h2.boxes.l, h2.boxes.d, h2.boxes.b, h2.boxes.a⟩
    have H2 := Lib.hid h2
    clear h2 hcu
    refine hK _ _ hS2 ?_
    clear hK K
    refine wpAnyH_oneL (i := 5) rfl (by kernel_rfl) ?_
    intro K hK
    rw [if_pos (by rfl)]
    go_simp
    go_at_call 97
    by_cases hr0 : r = 0
    · subst hr0
      have hRd : d.dead = false → R.dead = false := fun h0 => by
        have := cut_dead (d := d) (f := DS.fi false) (n := p) (by rw [HCU.out]) h0
        rwa [HCU.out] at this
      refine (must_ok _ _).mono ?_
      rintro e w3 ⟨rfl, rfl⟩
      refine hK _ _ hS2 ?_
      clear hK K
      try simp only [Act.put, List.setIfInBounds_toArray, List.set_cons_zero, List.set_cons_succ]
      refine wpAnyH_done (by kernel_rfl) ?_ _
      clear hS0 hS2
      obtain ⟨hhk, hhc⟩ : Hid (F1 = [] → Wal.cuts d false p = (R, 0)) ∧ Hid (F1 ≠ [] → Wal.cuts d false p = R.cut (DS.fi true) 0) := ⟨Lib.hid (fun h0 => by unfold Wal.cuts Wal.cutOther; rw [HR.out, if_neg (fun h => h rfl)]; show (if d.file true ≠ [] then _ else _) = _; rw [HK.out, if_neg (fun h => h h0)]), Lib.hid (fun h0 => by unfold Wal.cuts Wal.cutOther; rw [HR.out, if_neg (fun h => h rfl)]; show (if d.file true ≠ [] then _ else _) = _; rw [HK.out, if_pos h0]; rfl)⟩
      have ef := H2.out.boxes.fs
      have eo : w2.cell? ⟨bo, 0, none⟩ = some (.int .i64 1) := H2.out.boxes.o
      have ek := H2.out.boxes.f1
      clear HR HG HK
      cases F1 with
      | nil =>
        have HC := Lib.hid (hhk.out rfl)
        clear hhk hhc
        go_wp2_with fail
        go_end0
        rw [HC.out]
        exact ⟨.inl ⟨rfl, rfl⟩, H2.out.worked⟩
      | cons y ys =>
        have HC := Lib.hid (hhc.out (by simp))
        clear hhk hhc
        obtain ⟨R2, r2, hR2⟩ : ∃ R2 r2, R.cut (DS.fi true) 0 = (R2, r2) := ⟨_, _, rfl⟩
        have hcu2 : R.cut 1 0 = (R2, r2) := hR2
        rw [hR2] at HC
        clear hR2
        go_wp2_with fail
        clear ef eo ek
        have hS3 : w2.drew.cell? ⟨bl, 0, none⟩ = some (.pointer (some ⟨x, 0, none⟩)) ∧ w2.drew.cell? ⟨bd, 0, none⟩ = some (.pointer (some ⟨c, 0, none⟩)) ∧ w2.drew.cell? ⟨bo, 0, none⟩ = some (.int .i64 1) := ⟨H2.out.boxes.l, H2.out.boxes.d, H2.out.boxes.o⟩
        refine wp_region_heldL (S := fun w' => w'.cell? ⟨bl, 0, none⟩ = some (.pointer (some ⟨x, 0, none⟩)) ∧ w'.cell? ⟨bd, 0, none⟩ = some (.pointer (some ⟨c, 0, none⟩)) ∧ w'.cell? ⟨bo, 0, none⟩ = some (.int .i64 1)) (by kernel_rfl) ?_
        refine wpAnyH_takeL (i := 0) (v := ?_) rfl (by kernel_rfl) (by kernel_rfl) (by kernel_rfl) (fun _ _ _ h => h) ?_ (by assumption) ?_; rotate_left; focus (first | (refine Or.inr ⟨by rfl, ?_⟩; with_reducible rfl) | (refine Or.inl ⟨by rfl, ?_⟩; (intro w hSw; (try dsimp only at hSw); go_simp); try with_reducible rfl))
        try simp only [Act.put, List.setIfInBounds_toArray, List.set_cons_zero, List.set_cons_succ]
        refine wpAnyH_takeL (i := 1) (v := ?_) rfl (by kernel_rfl) (by kernel_rfl) (by kernel_rfl) (fun _ _ _ h => h) ?_ (by assumption) ?_; rotate_left; focus (first | (refine Or.inr ⟨by rfl, ?_⟩; with_reducible rfl) | (refine Or.inl ⟨by rfl, ?_⟩; (intro w hSw; (try dsimp only at hSw); go_simp); try with_reducible rfl))
        try simp only [Act.put, List.setIfInBounds_toArray, List.set_cons_zero, List.set_cons_succ]
        refine wpAnyH_takeL (i := 2) (v := ?_) rfl (by kernel_rfl) (by kernel_rfl) (by kernel_rfl) (fun _ _ _ h => h) ?_ (by assumption) ?_; rotate_left; focus (first | (refine Or.inr ⟨by rfl, ?_⟩; with_reducible rfl) | (refine Or.inl ⟨by rfl, ?_⟩; (intro w hSw; (try dsimp only at hSw); go_simp); try with_reducible rfl))
        try simp only [Act.put, List.setIfInBounds_toArray, List.set_cons_zero, List.set_cons_succ]
        refine wpAnyH_oneL (i := 3) rfl (by kernel_rfl) ?_
        intro K hK
        rw [if_pos (by rfl)]
        go_simp
        go_at_call 98
        have H2d := H2.out.drew (n := 1)
        refine (half_cut (w1 := w2.drew) H2d 1 0 hRd).mono ?_
        rw [hcu2]
        rintro e w4 ⟨rfl, h4⟩
        have hS4 : w4.cell? ⟨bl, 0, none⟩ = some (.pointer (some ⟨x, 0, none⟩)) ∧ w4.cell? ⟨bd, 0, none⟩ = some (.pointer (some ⟨c, 0, none⟩)) ∧ w4.cell? ⟨bo, 0, none⟩ = some (.int .i64 1) := ⟨h4.boxes.l, h4.boxes.d, h4.boxes.o⟩
        have H4 := Lib.hid h4
        clear h4 hcu2 H2d
        refine hK _ _ hS4 ?_
        clear hK K
        refine wpAnyH_oneL (i := 4) rfl (by kernel_rfl) ?_
        intro K hK
        rw [if_pos (by rfl)]
        go_simp
        go_at_call 97
        by_cases hr2 : r2 = 0
        · subst hr2
          refine (must_ok _ _).mono ?_
          rintro e w5 ⟨rfl, rfl⟩
          refine hK _ _ hS4 ?_
          clear hK K
          try simp only [Act.put, List.setIfInBounds_toArray, List.set_cons_zero, List.set_cons_succ]
          refine wpAnyH_done (by kernel_rfl) ?_ _
          go_wp2_with fail
          go_end0
          rw [HC.out]
          exact ⟨.inl ⟨rfl, rfl⟩, H4.out.worked⟩
        · refine (must_bad _ r2 hr2 _).mono ?_
          rintro e w5 ⟨rfl, rfl⟩
          refine ⟨rfl, ?_⟩
          rw [HC.out]
          exact ⟨.inr ⟨hr2, rfl⟩, H4.out.worked⟩
    · refine (must_bad _ r hr0 _).mono ?_
      rintro e w3 ⟨rfl, rfl⟩
      have hcc : Wal.cuts d false p = (R, r) := by unfold Wal.cuts; rw [HR.out, if_pos hr0]
      refine ⟨rfl, ?_⟩
      rw [hcc]
      exact ⟨.inr ⟨hr0, rfl⟩, H2.out.worked⟩
  · have hE : (d, (0 : Int)) = (R, r) := by have := HR.out; unfold Wal.cutEnd at this; rwa [HG.out, if_neg hp] at this
    obtain ⟨rfl, rfl⟩ := Prod.mk.inj hE
    have hRd : d.dead = false → d.dead = false := id
    have H2 := H1
    clear hE
    obtain ⟨hhk, hhc⟩ : Hid (F1 = [] → Wal.cuts d false p = (d, 0)) ∧ Hid (F1 ≠ [] → Wal.cuts d false p = d.cut (DS.fi true) 0) := ⟨Lib.hid (fun h0 => by unfold Wal.cuts Wal.cutOther; rw [HR.out, if_neg (fun h => h rfl)]; show (if d.file true ≠ [] then _ else _) = _; rw [HK.out, if_neg (fun h => h h0)]), Lib.hid (fun h0 => by unfold Wal.cuts Wal.cutOther; rw [HR.out, if_neg (fun h => h rfl)]; show (if d.file true ≠ [] then _ else _) = _; rw [HK.out, if_pos h0]; rfl)⟩
    have ef := H2.out.boxes.fs
    have eo : w1.cell? ⟨bo, 0, none⟩ = some (.int .i64 1) := H2.out.boxes.o
    have ek := H2.out.boxes.f1
    clear HR HG HK
    cases F1 with
    | nil =>
      have HC := Lib.hid (hhk.out rfl)
      clear hhk hhc
      go_wp2_with fail
      go_end0
      rw [HC.out]
      exact ⟨.inl ⟨rfl, rfl⟩, H2.out.worked⟩
    | cons y ys =>
      have HC := Lib.hid (hhc.out (by simp))
      clear hhk hhc
      obtain ⟨R2, r2, hR2⟩ : ∃ R2 r2, d.cut (DS.fi true) 0 = (R2, r2) := ⟨_, _, rfl⟩
      have hcu2 : d.cut 1 0 = (R2, r2) := hR2
      rw [hR2] at HC
      clear hR2
      go_wp2_with fail
      clear ef eo ek
      have hS3 : w1.drew.cell? ⟨bl, 0, none⟩ = some (.pointer (some ⟨x, 0, none⟩)) ∧ w1.drew.cell? ⟨bd, 0, none⟩ = some (.pointer (some ⟨c, 0, none⟩)) ∧ w1.drew.cell? ⟨bo, 0, none⟩ = some (.int .i64 1) := ⟨H2.out.boxes.l, H2.out.boxes.d, H2.out.boxes.o⟩
      refine wp_region_heldL (S := fun w' => w'.cell? ⟨bl, 0, none⟩ = some (.pointer (some ⟨x, 0, none⟩)) ∧ w'.cell? ⟨bd, 0, none⟩ = some (.pointer (some ⟨c, 0, none⟩)) ∧ w'.cell? ⟨bo, 0, none⟩ = some (.int .i64 1)) (by kernel_rfl) ?_
      refine wpAnyH_takeL (i := 0) (v := ?_) rfl (by kernel_rfl) (by kernel_rfl) (by kernel_rfl) (fun _ _ _ h => h) ?_ (by assumption) ?_; rotate_left; focus (first | (refine Or.inr ⟨by rfl, ?_⟩; with_reducible rfl) | (refine Or.inl ⟨by rfl, ?_⟩; (intro w hSw; (try dsimp only at hSw); go_simp); try with_reducible rfl))
      try simp only [Act.put, List.setIfInBounds_toArray, List.set_cons_zero, List.set_cons_succ]
      refine wpAnyH_takeL (i := 1) (v := ?_) rfl (by kernel_rfl) (by kernel_rfl) (by kernel_rfl) (fun _ _ _ h => h) ?_ (by assumption) ?_; rotate_left; focus (first | (refine Or.inr ⟨by rfl, ?_⟩; with_reducible rfl) | (refine Or.inl ⟨by rfl, ?_⟩; (intro w hSw; (try dsimp only at hSw); go_simp); try with_reducible rfl))
      try simp only [Act.put, List.setIfInBounds_toArray, List.set_cons_zero, List.set_cons_succ]
      refine wpAnyH_takeL (i := 2) (v := ?_) rfl (by kernel_rfl) (by kernel_rfl) (by kernel_rfl) (fun _ _ _ h => h) ?_ (by assumption) ?_; rotate_left; focus (first | (refine Or.inr ⟨by rfl, ?_⟩; with_reducible rfl) | (refine Or.inl ⟨by rfl, ?_⟩; (intro w hSw; (try dsimp only at hSw); go_simp); try with_reducible rfl))
      try simp only [Act.put, List.setIfInBounds_toArray, List.set_cons_zero, List.set_cons_succ]
      refine wpAnyH_oneL (i := 3) rfl (by kernel_rfl) ?_
      intro K hK
      rw [if_pos (by rfl)]
      go_simp
      go_at_call 98
      have H2d := H2.out.drew (n := 1)
      refine (half_cut (w1 := w1.drew) H2d 1 0 hRd).mono ?_
      rw [hcu2]
      rintro e w4 ⟨rfl, h4⟩
      have hS4 : w4.cell? ⟨bl, 0, none⟩ = some (.pointer (some ⟨x, 0, none⟩)) ∧ w4.cell? ⟨bd, 0, none⟩ = some (.pointer (some ⟨c, 0, none⟩)) ∧ w4.cell? ⟨bo, 0, none⟩ = some (.int .i64 1) := ⟨h4.boxes.l, h4.boxes.d, h4.boxes.o⟩
      have H4 := Lib.hid h4
      clear h4 hcu2 H2d
      refine hK _ _ hS4 ?_
      clear hK K
      refine wpAnyH_oneL (i := 4) rfl (by kernel_rfl) ?_
      intro K hK
      rw [if_pos (by rfl)]
      go_simp
      go_at_call 97
      by_cases hr2 : r2 = 0
      · subst hr2
        refine (must_ok _ _).mono ?_
        rintro e w5 ⟨rfl, rfl⟩
        refine hK _ _ hS4 ?_
        clear hK K
        try simp only [Act.put, List.setIfInBounds_toArray, List.set_cons_zero, List.set_cons_succ]
        refine wpAnyH_done (by kernel_rfl) ?_ _
        go_wp2_with fail
        go_end0
        rw [HC.out]
        exact ⟨.inl ⟨rfl, rfl⟩, H4.out.worked⟩
      · refine (must_bad _ r2 hr2 _).mono ?_
        rintro e w5 ⟨rfl, rfl⟩
        refine ⟨rfl, ?_⟩
        rw [HC.out]
        exact ⟨.inr ⟨hr2, rfl⟩, H4.out.worked⟩

set_option maxHeartbeats 4000000 in
set_option maxRecDepth 100000 in
theorem open1_true (x c ba bf bb bl bd bo q p : Nat) (W : World) (l : Wal.LS) (d : DS) (m : Nat) (rb : Option Nat) (hb : Boxes W ba bf bb bl bd bo q p (d.file false) (d.file true) true x c) (hn : NotIn (own2 c rb) ba bf bb bl bd bo q) (hl : LogAt W x c l) (h : DiskAt W c d m rb) :
    Calls Tryz.prog 96 #[.pointer (some ⟨ba, 0, none⟩), .pointer (some ⟨bf, 0, none⟩), .pointer (some ⟨bb, 0, none⟩), .pointer (some ⟨bl, 0, none⟩), .pointer (some ⟨bd, 0, none⟩), .pointer (some ⟨bo, 0, none⟩)] W fun e w' => Ends (Wal.cuts d true p).2 e ∧ Worked x c l d (Wal.cuts d true p).1 m rb W w' := by
  obtain ⟨F1, hF1⟩ : ∃ F, d.file true = F := ⟨_, rfl⟩
  obtain ⟨F0, hF0⟩ : ∃ F, d.file false = F := ⟨_, rfl⟩
  have H0 : Half W W ba bf bb bl bd bo q p (d.file false) (d.file true) true x c l d d m rb := ⟨hb, hl, ⟨rb, h, Newer.refl _ _, fun h1 h2 => (by rw [h1] at h2; cases h2), hn⟩, Touch.refl _ _⟩
  rw [hF1, hF0] at H0
  have hlF : F1.length ≤ 1048576 := by rw [← hF1]; exact h.1.base_len' true
  have hlO : F0.length ≤ 1048576 := by rw [← hF0]; exact h.1.base_len' false
  have ca := H0.boxes.a
  have cf := H0.boxes.fs
  have cb : W.cell? ⟨bb, 0, none⟩ = some (.int .i64 1) := H0.boxes.b
  have cf1 := H0.boxes.f1
  obtain ⟨R, r, hR⟩ : ∃ R r, Wal.cutEnd d true p = (R, r) := ⟨_, _, rfl⟩
  have HR := Lib.hid hR
  have HH := Lib.hid H0
  have HG := Lib.hid hF1
  have HK := Lib.hid hF0
  clear hb hn hl h H0 hR hF1 hF0
  go_enter Tryz.func96, Tryz.ntmps96
  go_wp2_with fail
  go_quiet (fail)
  have H1 := Lib.hid (HH.out.drew (n := nq))
  clear ca cf cb cf1 HH
  generalize W.drewN nq = w1 at H1 ⊢
  by_cases hp : p < F1.length
  · have HCU : Hid (d.cut (DS.fi true) p = (R, r)) := Lib.hid (by have := HR.out; unfold Wal.cutEnd at this; rwa [HG.out, if_pos hp] at this)
    go_wp2_with fail
    have hS0 : w1.drew.cell? ⟨bl, 0, none⟩ = some (.pointer (some ⟨x, 0, none⟩)) ∧ w1.drew.cell? ⟨bd, 0, none⟩ = some (.pointer (some ⟨c, 0, none⟩)) ∧ w1.drew.cell? ⟨bb, 0, none⟩ = some (.int .i64 1) ∧ w1.drew.cell? ⟨ba, 0, none⟩ = some (.int .i64 p) := ⟨H1.out.boxes.l, H1.out.boxes.d, H1.out.boxes.b, H1.out.boxes.a⟩
    refine wp_region_heldL (S := fun w' => w'.cell? ⟨bl, 0, none⟩ = some (.pointer (some ⟨x, 0, none⟩)) ∧ w'.cell? ⟨bd, 0, none⟩ = some (.pointer (some ⟨c, 0, none⟩)) ∧ w'.cell? ⟨bb, 0, none⟩ = some (.int .i64 1) ∧ w'.cell? ⟨ba, 0, none⟩ = some (.int .i64 p)) (by kernel_rfl) ?_
    refine wpAnyH_takeL (i := 0) (v := ?_) rfl (by kernel_rfl) (by kernel_rfl) (by kernel_rfl) (fun _ _ _ h => h) ?_ (by assumption) ?_; rotate_left; focus (first | (refine Or.inr ⟨by rfl, ?_⟩; with_reducible rfl) | (refine Or.inl ⟨by rfl, ?_⟩; (intro w hSw; (try dsimp only at hSw); go_simp); try with_reducible rfl))
    try simp only [Act.put, List.setIfInBounds_toArray, List.set_cons_zero, List.set_cons_succ]
    refine wpAnyH_takeL (i := 1) (v := ?_) rfl (by kernel_rfl) (by kernel_rfl) (by kernel_rfl) (fun _ _ _ h => h) ?_ (by assumption) ?_; rotate_left; focus (first | (refine Or.inr ⟨by rfl, ?_⟩; with_reducible rfl) | (refine Or.inl ⟨by rfl, ?_⟩; (intro w hSw; (try dsimp only at hSw); go_simp); try with_reducible rfl))
    try simp only [Act.put, List.setIfInBounds_toArray, List.set_cons_zero, List.set_cons_succ]
    refine wpAnyH_takeL (i := 2) (v := ?_) rfl (by kernel_rfl) (by kernel_rfl) (by kernel_rfl) (fun _ _ _ h => h) ?_ (by assumption) ?_; rotate_left; focus (first | (refine Or.inr ⟨by rfl, ?_⟩; with_reducible rfl) | (refine Or.inl ⟨by rfl, ?_⟩; (intro w hSw; (try dsimp only at hSw); go_simp); try with_reducible rfl))
    try simp only [Act.put, List.setIfInBounds_toArray, List.set_cons_zero, List.set_cons_succ]
    refine wpAnyH_takeL (i := 3) (v := ?_) rfl (by kernel_rfl) (by kernel_rfl) (by kernel_rfl) (fun _ _ _ h => h) ?_ (by assumption) ?_; rotate_left; focus (first | (refine Or.inr ⟨by rfl, ?_⟩; with_reducible rfl) | (refine Or.inl ⟨by rfl, ?_⟩; (intro w hSw; (try dsimp only at hSw); go_simp); try with_reducible rfl))
    try simp only [Act.put, List.setIfInBounds_toArray, List.set_cons_zero, List.set_cons_succ]
    refine wpAnyH_oneL (i := 4) rfl (by kernel_rfl) ?_
    intro K hK
    rw [if_pos (by rfl)]
    go_simp
    go_at_call 98
    have H1d := H1.out.drew (n := 1)
    refine (half_cut (w1 := w1.drew) H1d 1 p id).mono ?_
    have hcu : d.cut 1 p = (R, r) := HCU.out
    rw [hcu]
    rintro e w2 ⟨rfl, h2⟩
    have hS2 : w2.cell? ⟨bl, 0, none⟩ = some (.pointer (some ⟨x, 0, none⟩)) ∧ w2.cell? ⟨bd, 0, none⟩ = some (.pointer (some ⟨c, 0, none⟩)) ∧ w2.cell? ⟨bb, 0, none⟩ = some (.int .i64 1) ∧ w2.cell? ⟨ba, 0, none⟩ = some (.int .i64 p) := ⟨h2.boxes.l, h2.boxes.d, h2.boxes.b, h2.boxes.a⟩
    have H2 := Lib.hid h2
    clear h2 hcu
    refine hK _ _ hS2 ?_
    clear hK K
    refine wpAnyH_oneL (i := 5) rfl (by kernel_rfl) ?_
    intro K hK
    rw [if_pos (by rfl)]
    go_simp
    go_at_call 97
    by_cases hr0 : r = 0
    · subst hr0
      have hRd : d.dead = false → R.dead = false := fun h0 => by
        have := cut_dead (d := d) (f := DS.fi true) (n := p) (by rw [HCU.out]) h0
        rwa [HCU.out] at this
      refine (must_ok _ _).mono ?_
      rintro e w3 ⟨rfl, rfl⟩
      refine hK _ _ hS2 ?_
      clear hK K
      try simp only [Act.put, List.setIfInBounds_toArray, List.set_cons_zero, List.set_cons_succ]
      refine wpAnyH_done (by kernel_rfl) ?_ _
      clear hS0 hS2
      obtain ⟨hhk, hhc⟩ : Hid (F0 = [] → Wal.cuts d true p = (R, 0)) ∧ Hid (F0 ≠ [] → Wal.cuts d true p = R.cut (DS.fi false) 0) := ⟨Lib.hid (fun h0 => by unfold Wal.cuts Wal.cutOther; rw [HR.out, if_neg (fun h => h rfl)]; show (if d.file false ≠ [] then _ else _) = _; rw [HK.out, if_neg (fun h => h h0)]), Lib.hid (fun h0 => by unfold Wal.cuts Wal.cutOther; rw [HR.out, if_neg (fun h => h rfl)]; show (if d.file false ≠ [] then _ else _) = _; rw [HK.out, if_pos h0]; rfl)⟩
      have ef := H2.out.boxes.fs
      have eo : w2.cell? ⟨bo, 0, none⟩ = some (.int .i64 0) := H2.out.boxes.o
      have ek := H2.out.boxes.f0
      clear HR HG HK
      cases F0 with
      | nil =>
        have HC := Lib.hid (hhk.out rfl)
        clear hhk hhc
        go_wp2_with fail
        go_end0
        rw [HC.out]
        exact ⟨.inl ⟨rfl, rfl⟩, H2.out.worked⟩
      | cons y ys =>
        have HC := Lib.hid (hhc.out (by simp))
        clear hhk hhc
        obtain ⟨R2, r2, hR2⟩ : ∃ R2 r2, R.cut (DS.fi false) 0 = (R2, r2) := ⟨_, _, rfl⟩
        have hcu2 : R.cut 0 0 = (R2, r2) := hR2
        rw [hR2] at HC
        clear hR2
        go_wp2_with fail
        clear ef eo ek
        have hS3 : w2.drew.cell? ⟨bl, 0, none⟩ = some (.pointer (some ⟨x, 0, none⟩)) ∧ w2.drew.cell? ⟨bd, 0, none⟩ = some (.pointer (some ⟨c, 0, none⟩)) ∧ w2.drew.cell? ⟨bo, 0, none⟩ = some (.int .i64 0) := ⟨H2.out.boxes.l, H2.out.boxes.d, H2.out.boxes.o⟩
        refine wp_region_heldL (S := fun w' => w'.cell? ⟨bl, 0, none⟩ = some (.pointer (some ⟨x, 0, none⟩)) ∧ w'.cell? ⟨bd, 0, none⟩ = some (.pointer (some ⟨c, 0, none⟩)) ∧ w'.cell? ⟨bo, 0, none⟩ = some (.int .i64 0)) (by kernel_rfl) ?_
        refine wpAnyH_takeL (i := 0) (v := ?_) rfl (by kernel_rfl) (by kernel_rfl) (by kernel_rfl) (fun _ _ _ h => h) ?_ (by assumption) ?_; rotate_left; focus (first | (refine Or.inr ⟨by rfl, ?_⟩; with_reducible rfl) | (refine Or.inl ⟨by rfl, ?_⟩; (intro w hSw; (try dsimp only at hSw); go_simp); try with_reducible rfl))
        try simp only [Act.put, List.setIfInBounds_toArray, List.set_cons_zero, List.set_cons_succ]
        refine wpAnyH_takeL (i := 1) (v := ?_) rfl (by kernel_rfl) (by kernel_rfl) (by kernel_rfl) (fun _ _ _ h => h) ?_ (by assumption) ?_; rotate_left; focus (first | (refine Or.inr ⟨by rfl, ?_⟩; with_reducible rfl) | (refine Or.inl ⟨by rfl, ?_⟩; (intro w hSw; (try dsimp only at hSw); go_simp); try with_reducible rfl))
        try simp only [Act.put, List.setIfInBounds_toArray, List.set_cons_zero, List.set_cons_succ]
        refine wpAnyH_takeL (i := 2) (v := ?_) rfl (by kernel_rfl) (by kernel_rfl) (by kernel_rfl) (fun _ _ _ h => h) ?_ (by assumption) ?_; rotate_left; focus (first | (refine Or.inr ⟨by rfl, ?_⟩; with_reducible rfl) | (refine Or.inl ⟨by rfl, ?_⟩; (intro w hSw; (try dsimp only at hSw); go_simp); try with_reducible rfl))
        try simp only [Act.put, List.setIfInBounds_toArray, List.set_cons_zero, List.set_cons_succ]
        refine wpAnyH_oneL (i := 3) rfl (by kernel_rfl) ?_
        intro K hK
        rw [if_pos (by rfl)]
        go_simp
        go_at_call 98
        have H2d := H2.out.drew (n := 1)
        refine (half_cut (w1 := w2.drew) H2d 0 0 hRd).mono ?_
        rw [hcu2]
        rintro e w4 ⟨rfl, h4⟩
        have hS4 : w4.cell? ⟨bl, 0, none⟩ = some (.pointer (some ⟨x, 0, none⟩)) ∧ w4.cell? ⟨bd, 0, none⟩ = some (.pointer (some ⟨c, 0, none⟩)) ∧ w4.cell? ⟨bo, 0, none⟩ = some (.int .i64 0) := ⟨h4.boxes.l, h4.boxes.d, h4.boxes.o⟩
        have H4 := Lib.hid h4
        clear h4 hcu2 H2d
        refine hK _ _ hS4 ?_
        clear hK K
        refine wpAnyH_oneL (i := 4) rfl (by kernel_rfl) ?_
        intro K hK
        rw [if_pos (by rfl)]
        go_simp
        go_at_call 97
        by_cases hr2 : r2 = 0
        · subst hr2
          refine (must_ok _ _).mono ?_
          rintro e w5 ⟨rfl, rfl⟩
          refine hK _ _ hS4 ?_
          clear hK K
          try simp only [Act.put, List.setIfInBounds_toArray, List.set_cons_zero, List.set_cons_succ]
          refine wpAnyH_done (by kernel_rfl) ?_ _
          go_wp2_with fail
          go_end0
          rw [HC.out]
          exact ⟨.inl ⟨rfl, rfl⟩, H4.out.worked⟩
        · refine (must_bad _ r2 hr2 _).mono ?_
          rintro e w5 ⟨rfl, rfl⟩
          refine ⟨rfl, ?_⟩
          rw [HC.out]
          exact ⟨.inr ⟨hr2, rfl⟩, H4.out.worked⟩
    · refine (must_bad _ r hr0 _).mono ?_
      rintro e w3 ⟨rfl, rfl⟩
      have hcc : Wal.cuts d true p = (R, r) := by unfold Wal.cuts; rw [HR.out, if_pos hr0]
      refine ⟨rfl, ?_⟩
      rw [hcc]
      exact ⟨.inr ⟨hr0, rfl⟩, H2.out.worked⟩
  · have hE : (d, (0 : Int)) = (R, r) := by have := HR.out; unfold Wal.cutEnd at this; rwa [HG.out, if_neg hp] at this
    obtain ⟨rfl, rfl⟩ := Prod.mk.inj hE
    have hRd : d.dead = false → d.dead = false := id
    have H2 := H1
    clear hE
    obtain ⟨hhk, hhc⟩ : Hid (F0 = [] → Wal.cuts d true p = (d, 0)) ∧ Hid (F0 ≠ [] → Wal.cuts d true p = d.cut (DS.fi false) 0) := ⟨Lib.hid (fun h0 => by unfold Wal.cuts Wal.cutOther; rw [HR.out, if_neg (fun h => h rfl)]; show (if d.file false ≠ [] then _ else _) = _; rw [HK.out, if_neg (fun h => h h0)]), Lib.hid (fun h0 => by unfold Wal.cuts Wal.cutOther; rw [HR.out, if_neg (fun h => h rfl)]; show (if d.file false ≠ [] then _ else _) = _; rw [HK.out, if_pos h0]; rfl)⟩
    have ef := H2.out.boxes.fs
    have eo : w1.cell? ⟨bo, 0, none⟩ = some (.int .i64 0) := H2.out.boxes.o
    have ek := H2.out.boxes.f0
    clear HR HG HK
    cases F0 with
    | nil =>
      have HC := Lib.hid (hhk.out rfl)
      clear hhk hhc
      go_wp2_with fail
      go_end0
      rw [HC.out]
      exact ⟨.inl ⟨rfl, rfl⟩, H2.out.worked⟩
    | cons y ys =>
      have HC := Lib.hid (hhc.out (by simp))
      clear hhk hhc
      obtain ⟨R2, r2, hR2⟩ : ∃ R2 r2, d.cut (DS.fi false) 0 = (R2, r2) := ⟨_, _, rfl⟩
      have hcu2 : d.cut 0 0 = (R2, r2) := hR2
      rw [hR2] at HC
      clear hR2
      go_wp2_with fail
      clear ef eo ek
      have hS3 : w1.drew.cell? ⟨bl, 0, none⟩ = some (.pointer (some ⟨x, 0, none⟩)) ∧ w1.drew.cell? ⟨bd, 0, none⟩ = some (.pointer (some ⟨c, 0, none⟩)) ∧ w1.drew.cell? ⟨bo, 0, none⟩ = some (.int .i64 0) := ⟨H2.out.boxes.l, H2.out.boxes.d, H2.out.boxes.o⟩
      refine wp_region_heldL (S := fun w' => w'.cell? ⟨bl, 0, none⟩ = some (.pointer (some ⟨x, 0, none⟩)) ∧ w'.cell? ⟨bd, 0, none⟩ = some (.pointer (some ⟨c, 0, none⟩)) ∧ w'.cell? ⟨bo, 0, none⟩ = some (.int .i64 0)) (by kernel_rfl) ?_
      refine wpAnyH_takeL (i := 0) (v := ?_) rfl (by kernel_rfl) (by kernel_rfl) (by kernel_rfl) (fun _ _ _ h => h) ?_ (by assumption) ?_; rotate_left; focus (first | (refine Or.inr ⟨by rfl, ?_⟩; with_reducible rfl) | (refine Or.inl ⟨by rfl, ?_⟩; (intro w hSw; (try dsimp only at hSw); go_simp); try with_reducible rfl))
      try simp only [Act.put, List.setIfInBounds_toArray, List.set_cons_zero, List.set_cons_succ]
      refine wpAnyH_takeL (i := 1) (v := ?_) rfl (by kernel_rfl) (by kernel_rfl) (by kernel_rfl) (fun _ _ _ h => h) ?_ (by assumption) ?_; rotate_left; focus (first | (refine Or.inr ⟨by rfl, ?_⟩; with_reducible rfl) | (refine Or.inl ⟨by rfl, ?_⟩; (intro w hSw; (try dsimp only at hSw); go_simp); try with_reducible rfl))
      try simp only [Act.put, List.setIfInBounds_toArray, List.set_cons_zero, List.set_cons_succ]
      refine wpAnyH_takeL (i := 2) (v := ?_) rfl (by kernel_rfl) (by kernel_rfl) (by kernel_rfl) (fun _ _ _ h => h) ?_ (by assumption) ?_; rotate_left; focus (first | (refine Or.inr ⟨by rfl, ?_⟩; with_reducible rfl) | (refine Or.inl ⟨by rfl, ?_⟩; (intro w hSw; (try dsimp only at hSw); go_simp); try with_reducible rfl))
      try simp only [Act.put, List.setIfInBounds_toArray, List.set_cons_zero, List.set_cons_succ]
      refine wpAnyH_oneL (i := 3) rfl (by kernel_rfl) ?_
      intro K hK
      rw [if_pos (by rfl)]
      go_simp
      go_at_call 98
      have H2d := H2.out.drew (n := 1)
      refine (half_cut (w1 := w1.drew) H2d 0 0 hRd).mono ?_
      rw [hcu2]
      rintro e w4 ⟨rfl, h4⟩
      have hS4 : w4.cell? ⟨bl, 0, none⟩ = some (.pointer (some ⟨x, 0, none⟩)) ∧ w4.cell? ⟨bd, 0, none⟩ = some (.pointer (some ⟨c, 0, none⟩)) ∧ w4.cell? ⟨bo, 0, none⟩ = some (.int .i64 0) := ⟨h4.boxes.l, h4.boxes.d, h4.boxes.o⟩
      have H4 := Lib.hid h4
      clear h4 hcu2 H2d
      refine hK _ _ hS4 ?_
      clear hK K
      refine wpAnyH_oneL (i := 4) rfl (by kernel_rfl) ?_
      intro K hK
      rw [if_pos (by rfl)]
      go_simp
      go_at_call 97
      by_cases hr2 : r2 = 0
      · subst hr2
        refine (must_ok _ _).mono ?_
        rintro e w5 ⟨rfl, rfl⟩
        refine hK _ _ hS4 ?_
        clear hK K
        try simp only [Act.put, List.setIfInBounds_toArray, List.set_cons_zero, List.set_cons_succ]
        refine wpAnyH_done (by kernel_rfl) ?_ _
        go_wp2_with fail
        go_end0
        rw [HC.out]
        exact ⟨.inl ⟨rfl, rfl⟩, H4.out.worked⟩
      · refine (must_bad _ r2 hr2 _).mono ?_
        rintro e w5 ⟨rfl, rfl⟩
        refine ⟨rfl, ?_⟩
        rw [HC.out]
        exact ⟨.inr ⟨hr2, rfl⟩, H4.out.worked⟩
end Go.Proofs.YtpjpknndfhablaaGreat
namespace Go.Proofs.YtpjpknndfhablaaGreat
namespace Wal
theorem whole_le {file : List UInt8} {p most : Nat} (h : (whole file p most).2 = true) : p + 8 + (whole file p most).1.length ≤ file.length ∧ (whole file p most).1.length ≤ most := by
  unfold whole at h ⊢
  split at h
  · cases h
  · rename_i h1
    split at h
    · cases h
    · rename_i h2
      rw [if_neg h1, if_neg h2]
      simp only [List.length_take, List.length_drop]
      omega
theorem reads_fuel {file : List UInt8} : ∀ {k j p : Nat}, file.length + 1 - p ≤ k → file.length + 1 - p ≤ j → reads file k p = reads file j p
  | 0, 0, _, _, _ => rfl
  | 0, j + 1, p, h1, h2 => by
    have hw : (whole file p 65536).2 = false := by
      cases hb : (whole file p 65536).2
      · rfl
      · have := (whole_le hb).1; omega
    simp [reads, hw]
  | k + 1, 0, p, h1, h2 => by
    have hw : (whole file p 65536).2 = false := by
      cases hb : (whole file p 65536).2
      · rfl
      · have := (whole_le hb).1; omega
    simp [reads, hw]
  | k + 1, j + 1, p, h1, h2 => by
    cases hb : (whole file p 65536).2
    · simp [reads, hb]
    · have := (whole_le hb).1
      simp only [reads, hb, if_true]
      rw [reads_fuel (k := k) (j := j) (by omega) (by omega)]
theorem recs_done {file : List UInt8} {p : Nat} (h : (whole file p 65536).2 = false) : recs file p = ([], p) := by
  unfold recs
  cases file.length + 1 - p with
  | zero => rfl
  | succ k => simp [reads, h]
theorem recs_more {file : List UInt8} {p : Nat} (h : (whole file p 65536).2 = true) : recs file p = ((whole file p 65536).1 :: (recs file (p + 8 + (whole file p 65536).1.length)).1, (recs file (p + 8 + (whole file p 65536).1.length)).2) := by
  have hle := (whole_le h).1
  unfold recs
  obtain ⟨k, hk⟩ : ∃ k, file.length + 1 - p = k + 1 := ⟨file.length - p, by omega⟩
  rw [hk]
  simp only [reads, h, if_true]
  rw [reads_fuel (k := k) (j := file.length + 1 - (p + 8 + (whole file p 65536).1.length)) (by omega) (by omega)]
theorem recs_end_le {file : List UInt8} : ∀ (n p : Nat), file.length + 1 - p ≤ n → p ≤ file.length → (recs file p).2 ≤ file.length
  | 0, p, h, hp => by omega
  | n + 1, p, h, hp => by
    cases hb : (whole file p 65536).2
    · rw [recs_done hb]; exact hp
    · rw [recs_more hb]
      have := (whole_le hb).1
      exact recs_end_le n _ (by omega) (by omega)
theorem recs_count {file : List UInt8} : ∀ (n p : Nat), file.length + 1 - p ≤ n → (recs file p).1.length ≤ file.length
  | 0, p, h => by
    have hw : (whole file p 65536).2 = false := by
      cases hb : (whole file p 65536).2
      · rfl
      · have := (whole_le hb).1; omega
    rw [recs_done hw]; simp
  | n + 1, p, h => by
    have key : ∀ (n p : Nat), file.length + 1 - p ≤ n → (recs file p).1.length ≤ file.length - p := by
      intro n
      induction n with
      | zero =>
        intro p h
        have hw : (whole file p 65536).2 = false := by
          cases hb : (whole file p 65536).2
          · rfl
          · have := (whole_le hb).1; omega
        rw [recs_done hw]; simp
      | succ n ih =>
        intro p h
        cases hb : (whole file p 65536).2
        · rw [recs_done hb]; simp
        · rw [recs_more hb]
          have h1 := (whole_le hb).1
          have h2 := ih (p + 8 + (whole file p 65536).1.length) (by omega)
          simp only [List.length_cons]
          omega
    exact Nat.le_trans (key (n + 1) p h) (by omega)
/-- What is read on from a place. -/
def Onward (file : List UInt8) (p0 p : Nat) (pre : List (List UInt8)) : Prop := (recs file p0).1 = pre ++ (recs file p).1 ∧ (recs file p0).2 = (recs file p).2
theorem Onward.start (file : List UInt8) (p : Nat) : Onward file p p [] := ⟨rfl, rfl⟩
theorem Onward.step {file : List UInt8} {p0 p : Nat} {pre : List (List UInt8)} (h : Onward file p0 p pre) {s : List UInt8} (hs : whole file p 65536 = (s, true)) : Onward file p0 (p + 8 + s.length) (pre ++ [s]) := by
  have h2 := recs_more (file := file) (p := p) (by rw [hs])
  rw [hs] at h2
  exact ⟨by rw [h.1, h2]; simp, by rw [h.2, h2]⟩
theorem Onward.done {file : List UInt8} {p0 p : Nat} {pre : List (List UInt8)} (h : Onward file p0 p pre) (hs : (whole file p 65536).2 = false) : recs file p0 = (pre, p) := by
  have h2 := recs_done hs
  exact Prod.ext (by rw [h.1, h2]; simp) (by rw [h.2, h2])
end Wal
end Go.Proofs.YtpjpknndfhablaaGreat
