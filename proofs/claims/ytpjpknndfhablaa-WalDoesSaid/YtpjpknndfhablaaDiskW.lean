/- Walks of the disk's small methods that write: goes, dies, Revive, Arm, Crash, Dead. -/
import Derived.Test.YtpjpknndfhablaaDiskR
namespace Go.Proofs.Ytpjpknndfhablaa
open Go.RowKit

set_option maxHeartbeats 1000000 in
theorem goes_any (b : Nat) (w : World) (d : DS) (rs : Value) (r : List (Bool × List UInt8)) (h : DiskRows w b d rs r) (hok : d.Ok) :
    Calls Try.prog 59 #[.pointer (some ⟨b, 0, none⟩)] w fun e w' => e = .returned (.bool d.goes) ∧ DiskRows w' b d.tick rs r ∧ Touch (· = b) w w' := by
  obtain ⟨c0, c1, c2, c3, c4, c5, cf, hlt⟩ := h.cells
  have H := Lib.hid h
  have ha := hok.armed
  clear h c0 c1 c2 c4 c5 hok
  by_cases h0 : d.armed = 0
  · have HX := Lib.hid (DS.goes_zero h0)
    have hz : ((d.armed : Int) == 0) = true := by simp [h0]
    clear h0
    go_enter Try.func59, Try.ntmps59
    go_wp2
    go_ret
    exact ⟨ret_bool (by rw [HX.out.1]), by rw [HX.out.2]; exact H.out, Touch.refl _ _⟩
  · have hz : ((d.armed : Int) == 0) = false := by simp [h0]
    have hp : 0 < d.armed := by omega
    have x3 := World.cell?_setCell_same w ⟨b, 3, none⟩ (.int .i64 ((d.armed : Int) - 1)) c3
    clear h0
    go_enter Try.func59, Try.ntmps59
    go_wp2
    go_ret
    refine ⟨ret_bool ?_, ⟨?_, ?_, ?_⟩, (Touch.refl _ _).setCell _ (fun _ => rfl)⟩
    · exact DS.goes_pos hp
    · rw [heap_set _ H.out.blk, diskBlock, DS.tick_cast hp]; simp [DS.tick]
    · exact own_touch H.out.own ((Touch.refl (· = b) w).setCell _ (fun _ => rfl)) (fun k hk => fun e => H.out.rows_block (by rw [hk, e]))
    · exact H.out.u

set_option maxHeartbeats 1000000 in
theorem dies_any (b : Nat) (w : World) (d : DS) (rs : Value) (r : List (Bool × List UInt8)) (k : Int) (h : DiskRows w b d rs r) (hok : d.Ok) (h0 : -9223372036854775808 ≤ k) (h1 : k ≤ 9223372036854775807) :
    Calls Try.prog 60 #[.pointer (some ⟨b, 0, none⟩), .int .i64 k] w fun e w' => e = .returned (.tuple #[]) ∧ DiskRows w' b (d.die k.toNat) (.slice none 0 0) [] ∧ Touch (· = b) w w' := by
  have H := Lib.hid h
  clear h
  go_enter Try.func60, Try.ntmps60
  go_wp2_with fail
  refine (left_any b _ d rs r k H.out hok h0 h1).mono ?_
  rintro e w1 ⟨rfl, hb⟩
  have h1 := H.out.below hb
  obtain ⟨c0, c1, c2, c3, c4, c5, cf, hlt⟩ := h1.cells
  have H1 := Lib.hid h1
  have HB := Lib.hid hb
  clear h1 hb
  go_wp2
  go_end0
  refine ⟨rfl, ⟨?_, ?_, ?_⟩, ?_⟩
  · rw [heap_set _ (heap_set _ (heap_set _ (heap_set _ (heap_set _ H1.out.blk))))]; simp [diskBlock, DS.die]
  · exact World.ownsRow_nil _ _ _ _
  · rfl
  · refine Touch.setCell (Touch.setCell (Touch.setCell (Touch.setCell (Touch.setCell (Touch.of_below HB.out) _ ?_) _ ?_) _ ?_) _ ?_) _ ?_
    all_goals exact fun _ => rfl

set_option maxHeartbeats 1000000 in
theorem dead_any (b : Nat) (w : World) (d : DS) (m : Nat) (rb : Option Nat) (h : DiskAt w b d m rb) :
    Calls Try.prog 32 #[.pointer (some ⟨b, 0, none⟩)] w fun e w' => e = .returned (.bool d.dead) ∧ w = w' := by
  obtain ⟨hok, rs, r, h, hm, rfl⟩ := h
  obtain ⟨c0, c1, c2, c3, c4, c5, cf, hlt⟩ := h.cells
  clear h c0 c1 c2 c3 c4 hok
  go_enter Try.func32, Try.ntmps32
  go_wp2
  go_ret
  exact ⟨rfl, rfl⟩

set_option maxHeartbeats 1000000 in
theorem revive_any (b : Nat) (w : World) (d : DS) (m : Nat) (rb : Option Nat) (h : DiskAt w b d m rb) :
    Calls Try.prog 45 #[.pointer (some ⟨b, 0, none⟩)] w fun e w' => e = .returned (.tuple #[]) ∧ DiskAt w' b d.revive m rb ∧ Touch (own2 b rb) w w' := by
  obtain ⟨hok, rs, r, h, hm, rfl⟩ := h
  obtain ⟨c0, c1, c2, c3, c4, c5, cf, hlt⟩ := h.cells
  have H := Lib.hid h
  clear h c0 c1 c2 c4
  go_enter Try.func45, Try.ntmps45
  go_wp2
  go_end0
  have ht := ((Touch.refl (· = b) w).setCell (a := ⟨b, 5, none⟩) (.bool false) (fun _ => rfl)).setCell (a := ⟨b, 3, none⟩) (.int .i64 0) (fun _ => rfl)
  refine ⟨rfl, ⟨hok.revive, rs, r, ⟨?_, ?_, H.out.u⟩, hm, rfl⟩, ht.mono (fun k _ h => .inl h)⟩
  · rw [heap_set _ (heap_set _ H.out.blk)]; simp [DS.revive, diskBlock]
  · exact own_touch H.out.own ht (fun k hk => fun e => H.out.rows_block (by rw [hk, e]))

set_option maxHeartbeats 1000000 in
theorem arm_any (b : Nat) (w : World) (d : DS) (m : Nat) (rb : Option Nat) (n k : Int) (h : DiskAt w b d m rb) (hn : n ≤ 9223372036854775807) (hk : k ≤ 9223372036854775807) :
    Calls Try.prog 30 #[.pointer (some ⟨b, 0, none⟩), .int .i64 n, .int .i64 k] w fun e w' => e = .returned (.int .i64 (d.arm n k).2) ∧ DiskAt w' b (d.arm n k).1 m rb ∧ Touch (own2 b rb) w w' := by
  have hok' := h.1.arm hn hk
  obtain ⟨hok, rs, r, h, hm, rfl⟩ := h
  obtain ⟨c0, c1, c2, c3, c4, c5, cf, hlt⟩ := h.cells
  have H := Lib.hid h
  clear h c0 c1 c2
  cases hd : d.dead
  · rw [hd] at c5
    by_cases h0 : n < 0 ∨ k < 0
    · have HX : Hid (d.arm n k = (d, 1)) := by unfold DS.arm; rw [if_neg (by simp [hd]), if_pos h0]; exact rfl
      clear hd
      go_enter Try.func30, Try.ntmps30
      rcases h0 with h0 | h0
      all_goals go_wp2
      all_goals go_ret
      all_goals exact ⟨ret_int (by rw [HX.out]), by rw [HX.out]; exact ⟨hok, rs, r, H.out, hm, rfl⟩, Touch.refl _ _⟩
    · have HX : Hid (d.arm n k = ({ d with armed := n.toNat, keep := k.toNat }, 0)) := by unfold DS.arm; rw [if_neg (by simp [hd]), if_neg h0]; exact rfl
      have hn0 : 0 ≤ n := by omega
      have hk0 : 0 ≤ k := by omega
      clear hd h0
      go_enter Try.func30, Try.ntmps30
      go_wp2
      go_ret
      have ht := ((Touch.refl (· = b) w).setCell (a := ⟨b, 3, none⟩) (.int .i64 n) (fun _ => rfl)).setCell (a := ⟨b, 4, none⟩) (.int .i64 k) (fun _ => rfl)
      refine ⟨ret_int (by rw [HX.out]), ?_, ht.mono (fun k _ h => .inl h)⟩
      rw [HX.out] at hok' ⊢
      refine ⟨hok', rs, r, ⟨?_, ?_, H.out.u⟩, hm, rfl⟩
      · rw [heap_set _ (heap_set _ H.out.blk)]; simp [diskBlock, Int.toNat_of_nonneg hn0, Int.toNat_of_nonneg hk0]
      · exact own_touch H.out.own ht (fun k hk => fun e => H.out.rows_block (by rw [hk, e]))
  · rw [hd] at c5
    have HX : Hid (d.arm n k = (d, 2)) := by unfold DS.arm; rw [if_pos hd]; exact rfl
    clear hd
    go_enter Try.func30, Try.ntmps30
    go_wp2
    go_ret
    exact ⟨ret_int (by rw [HX.out]), by rw [HX.out]; exact ⟨hok, rs, r, H.out, hm, rfl⟩, Touch.refl _ _⟩

set_option maxHeartbeats 1000000 in
theorem crash_anyN (b : Nat) (w : World) (d : DS) (m : Nat) (rb : Option Nat) (k : Int) (h : DiskAt w b d m rb) (hk : k ≤ 9223372036854775807) :
    Calls Try.prog 29 #[.pointer (some ⟨b, 0, none⟩), .int .i64 k] w fun e w' => e = .returned (.int .i64 (d.crash k).2) ∧
      ∃ rb', DiskAt w' b (d.crash k).1 m rb' ∧ Newer w rb rb' ∧ Touch (own2 b rb) w w' ∧ ((d.crash k).1.dead = true → d.dead = false → rb' = none) := by
  have hok' := h.1.crash k
  obtain ⟨hok, rs, r, h, hm, rfl⟩ := h
  obtain ⟨c0, c1, c2, c3, c4, c5, cf, hlt⟩ := h.cells
  have H := Lib.hid h
  clear h c0 c1 c2
  cases hd : d.dead
  · rw [hd] at c5
    have HD9 := Lib.hid hd
    by_cases h0 : k < 0
    · have HX : Hid (d.crash k = (d, 1)) := by unfold DS.crash; rw [if_neg (by simp [hd]), if_pos h0]; exact rfl
      clear hd
      go_enter Try.func29, Try.ntmps29
      go_wp2
      go_ret
      exact ⟨ret_int (by rw [HX.out]), rs.ownBlock, by rw [HX.out]; exact ⟨hok, rs, r, H.out, hm, rfl⟩, Newer.refl _ _, Touch.refl _ _, fun h1 h2 => by first | (cases h2; done) | (rw [HX.out] at h1; have h3 : d.dead = true := h1; rw [HD9.out] at h3; cases h3)⟩
    · have HX : Hid (d.crash k = (d.die k.toNat, 0)) := by unfold DS.crash; rw [if_neg (by simp [hd]), if_neg h0]; exact rfl
      have hk0 : 0 ≤ k := by omega
      clear hd h0
      go_enter Try.func29, Try.ntmps29
      go_wp2_with fail
      refine (dies_any b w d rs r k H.out hok (by omega) hk).mono ?_
      rintro e w1 ⟨rfl, hr, ht⟩
      have HR := Lib.hid hr
      have HT := Lib.hid ht
      clear hr ht
      go_wp2
      go_ret
      refine ⟨ret_int (by rw [HX.out]), none, ?_, Newer.none _ _, HT.out.mono (fun k _ h => .inl h), fun _ _ => rfl⟩
      rw [HX.out] at hok' ⊢
      exact ⟨hok', _, [], HR.out, Nat.zero_le _, rfl⟩
  · rw [hd] at c5
    have HD9 := Lib.hid hd
    have HX : Hid (d.crash k = (d, 2)) := by unfold DS.crash; rw [if_pos hd]; exact rfl
    clear hd
    go_enter Try.func29, Try.ntmps29
    go_wp2
    go_ret
    exact ⟨ret_int (by rw [HX.out]), rs.ownBlock, by rw [HX.out]; exact ⟨hok, rs, r, H.out, hm, rfl⟩, Newer.refl _ _, Touch.refl _ _, fun h1 h2 => by first | (cases h2; done) | (rw [HX.out] at h1; have h3 : d.dead = true := h1; rw [HD9.out] at h3; cases h3)⟩
theorem crash_any (b : Nat) (w : World) (d : DS) (m : Nat) (rb : Option Nat) (k : Int) (h : DiskAt w b d m rb) (hk : k ≤ 9223372036854775807) :
    Calls Try.prog 29 #[.pointer (some ⟨b, 0, none⟩), .int .i64 k] w fun e w' => e = .returned (.int .i64 (d.crash k).2) ∧
      ∃ rb', DiskAt w' b (d.crash k).1 m rb' ∧ Newer w rb rb' ∧ Touch (own2 b rb) w w' :=
  (crash_anyN b w d m rb k h hk).mono fun _ _ ⟨he, rb', h1, h2, h3, _⟩ => ⟨he, rb', h1, h2, h3⟩

set_option maxHeartbeats 1000000 in
theorem sync_anyN (b : Nat) (w : World) (d : DS) (m : Nat) (rb : Option Nat) (h : DiskAt w b d m rb) :
    Calls Try.prog 16 #[.pointer (some ⟨b, 0, none⟩)] w fun e w' => e = .returned (.int .i64 d.sync.2) ∧
      ∃ rb', DiskAt w' b d.sync.1 m rb' ∧ Newer w rb rb' ∧ Touch (own2 b rb) w w' ∧ (d.dead = false → rb' = none) := by
  have hok' := h.1.sync
  obtain ⟨hok, rs, r, h, hm, rfl⟩ := h
  obtain ⟨c0, c1, c2, c3, c4, c5, cf, hlt⟩ := h.cells
  have H := Lib.hid h
  clear h c0 c1 c2 c3 c4
  cases hd : d.dead
  · rw [hd] at c5
    have HD9 := Lib.hid hd
    have hdt : d.tick.dead = false := hd
    go_enter Try.func16, Try.ntmps16
    cases hg : d.goes
    · have HX : Hid (d.sync = (d.tick.saved, 0)) := by unfold DS.sync; rw [if_neg (by simp [hd]), if_neg (by simp [hg])]; exact rfl
      clear hd
      go_wp2_with fail
      refine (goes_any b w d rs r H.out hok).mono ?_
      rintro e w1 ⟨rfl, hr, ht⟩
      rw [hg]
      have HR := Lib.hid hr
      have HT := Lib.hid ht
      clear hr ht hg
      go_wp2_with fail
      refine (all_any b w1 d.tick rs r HR.out hok.tick).mono ?_
      rintro e w2 ⟨rfl, hb⟩
      have h2 := HR.out.below hb
      obtain ⟨c0, c1, c2, c3, c4, c5, cf, hlt⟩ := h2.cells
      have H2 := Lib.hid h2
      have HB := Lib.hid hb
      clear h2 hb c3 c4
      go_wp2
      go_ret
      refine ⟨ret_int (by rw [HX.out]), none, ?_, Newer.none _ _, ?_, fun _ => rfl⟩
      · rw [HX.out] at hok' ⊢
        refine ⟨hok', .slice none 0 0, [], ⟨?_, World.ownsRow_nil _ _ _ _, rfl⟩, Nat.zero_le _, rfl⟩
        rw [heap_set _ (heap_set _ (heap_set _ H2.out.blk))]; simp [diskBlock, DS.saved]
      · refine Touch.setCell (Touch.setCell (Touch.setCell (Touch.trans (HT.out.mono (T := own2 b rs.ownBlock) (fun k _ h => .inl h)) (Touch.of_below (S := fun _ => False) HB.out) (fun _ _ h => h.elim)) _ ?_) _ ?_) _ ?_
        all_goals exact fun _ => .inl rfl
    · have HX : Hid (d.sync = (d.tick.die d.keep, 2)) := by unfold DS.sync; rw [if_neg (by simp [hd]), if_pos hg]; exact rfl
      have hkp := hok.keep
      clear hd
      go_wp2_with fail
      refine (goes_any b w d rs r H.out hok).mono ?_
      rintro e w1 ⟨rfl, hr, ht⟩
      rw [hg]
      obtain ⟨c0, c1, c2, c3, c4, c5, cf, hlt⟩ := hr.cells
      have HR := Lib.hid hr
      have HT := Lib.hid ht
      clear hr ht hg c0 c1 c2 c3
      go_wp2_with fail
      refine (dies_any b w1 d.tick rs r d.keep HR.out hok.tick (by omega) (by omega)).mono ?_
      rintro e w2 ⟨rfl, hr2, ht2⟩
      have HR2 := Lib.hid hr2
      have HT2 := Lib.hid ht2
      clear hr2 ht2 c4 c5 cf
      go_wp2
      go_ret
      refine ⟨ret_int (by rw [HX.out]), none, ?_, Newer.none _ _, ?_, fun _ => rfl⟩
      · rw [HX.out] at hok' ⊢
        exact ⟨hok', _, [], HR2.out, Nat.zero_le _, rfl⟩
      · exact Touch.trans (HT.out.mono (T := own2 b rs.ownBlock) (fun k _ h => .inl h)) HT2.out (fun k _ h => .inl h)
  · rw [hd] at c5
    have HD9 := Lib.hid hd
    have HX : Hid (d.sync = (d, 2)) := by unfold DS.sync; rw [if_pos hd]; exact rfl
    clear hd
    go_enter Try.func16, Try.ntmps16
    go_wp2
    go_ret
    exact ⟨ret_int (by rw [HX.out]), rs.ownBlock, by rw [HX.out]; exact ⟨hok, rs, r, H.out, hm, rfl⟩, Newer.refl _ _, Touch.refl _ _, fun h2 => by cases h2⟩
theorem sync_any (b : Nat) (w : World) (d : DS) (m : Nat) (rb : Option Nat) (h : DiskAt w b d m rb) :
    Calls Try.prog 16 #[.pointer (some ⟨b, 0, none⟩)] w fun e w' => e = .returned (.int .i64 d.sync.2) ∧
      ∃ rb', DiskAt w' b d.sync.1 m rb' ∧ Newer w rb rb' ∧ Touch (own2 b rb) w w' :=
  (sync_anyN b w d m rb h).mono fun _ _ ⟨he, rb', h1, h2, h3, _⟩ => ⟨he, rb', h1, h2, h3⟩
end Go.Proofs.Ytpjpknndfhablaa
