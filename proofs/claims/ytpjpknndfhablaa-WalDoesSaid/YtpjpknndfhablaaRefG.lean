/- Walks of the document's disk: Files, Read, die, Crash, Sync, Cut, New. -/
import Derived.Test.YtpjpknndfhablaaRefF
namespace Go.Proofs.Ytpjpknndfhablaa
open Go.RowKit

theorem Two.cells {w : World} {g : Nat} {s t : List UInt8} (h : Two w g s t) : w.cell? ⟨g, 0, none⟩ = some (.string ⟨s.toArray⟩) ∧ w.cell? ⟨g, 1, none⟩ = some (.string ⟨t.toArray⟩) ∧ g < w.heap.size := by
  obtain ⟨cur, hg, h0, h1⟩ := h
  exact ⟨cell_of hg h0, cell_of hg h1, heap_lt hg⟩
theorem Two.below {w w' : World} {g : Nat} {s t : List UInt8} (h : Two w g s t) (hb : Below w.heap.size w w') : Two w' g s t := by
  obtain ⟨cur, hg, h0, h1⟩ := h
  exact ⟨cur, stays hg hb, h0, h1⟩
theorem Two.touch {S : Nat → Prop} {w w' : World} {g : Nat} {s t : List UInt8} (h : Two w g s t) (hb : Touch S w w') (hS : ¬ S g) : Two w' g s t := by
  obtain ⟨cur, hg, h0, h1⟩ := h
  exact ⟨cur, (hb.block g (heap_lt hg) hS).trans hg, h0, h1⟩

set_option maxHeartbeats 1000000 in
theorem rfiles_any (b : Nat) (w : World) (d : DS) (us : Value) (h : RefU w b d us) (hok : d.Ok) :
    Calls Try.prog 44 #[.pointer (some ⟨b, 0, none⟩)] w fun e w' => ∃ g, e = .returned (.slice (some ⟨g, 0, none⟩) 2 2) ∧ w.heap.size ≤ g ∧ Two w' g (d.file false) (d.file true) ∧ Below w.heap.size w w' := by
  obtain ⟨c0, c1, c2, c3, c4, c5, cf, hlt⟩ := h.cells
  obtain ⟨ao, cap, rfl, hr, hcell⟩ := h.slice
  have H := Lib.hid h
  have hul := hok.u_len
  clear h hcell c0 c1 c3 c4 c5 cf
  go_enter Try.func44, Try.ntmps44
  go_wp2_with fail
  refine (rafter_any b w d _ d.u.length H.out hok (by omega)).mono ?_
  rintro e w1 ⟨g, rfl, hg, ht, hb⟩
  have HT := Lib.hid ht
  have HB := Lib.hid hb
  have HG := Lib.hid hg
  clear ht hb hg
  go_wp2
  go_ret
  exact ⟨g, rfl, HG.out, by have := HT.out; simpa [DS.left_all] using this, HB.out⟩

set_option maxHeartbeats 1000000 in
theorem rread_any (b : Nat) (w : World) (d : DS) (ub : Option Nat) (f : Int) (h : RefAt w b d ub) :
    Calls Try.prog 66 #[.pointer (some ⟨b, 0, none⟩), .int .i64 f] w fun e w' => e = .returned (.tuple #[.string ⟨(d.read f).1.toArray⟩, .int .i64 (d.read f).2]) ∧ Below w.heap.size w w' := by
  obtain ⟨hok, us, h, rfl⟩ := h
  obtain ⟨c0, c1, c2, c3, c4, c5, cf, hlt⟩ := h.cells
  have H := Lib.hid h
  clear h c0 c1 c2 c3 c4
  cases hd : d.dead
  · rw [hd] at c5
    by_cases hf : f = 0 ∨ f = 1
    · obtain ⟨q, rfl⟩ := DS.fi_of hf
      have HX : Hid (d.read (DS.fi q) = (d.file q, 0)) := by unfold DS.read; rw [if_neg (by simp [hd]), DS.fileNo_of]; exact rfl
      clear hf hd
      cases q
      all_goals simp only [DS.fi, Bool.false_eq_true, if_true, if_false] at HX ⊢
      all_goals have HX' := Lib.hid HX
      all_goals clear HX
      all_goals go_enter Try.func66, Try.ntmps66
      all_goals go_wp2_with (first | (go_at_call 44; go_must (refine (rfiles_any b w d us H.out hok).mono ?_; rintro e w1 ⟨g, rfl, hg, ht, hb1⟩; obtain ⟨x0, x1, xl⟩ := ht.cells; have HB := Lib.hid hb1; clear hb1 ht)))
      all_goals go_ret2
      all_goals exact ⟨ret_two (by rw [HX'.out]; rfl) (by rw [HX'.out]; rfl), HB.out⟩
    · have hf' : (f != 0) = true ∧ (f != 1) = true := by constructor <;> (rw [bne_iff_ne]; omega)
      have h2 : (f == 0) = false ∧ (f == 1) = false := by constructor <;> (rw [beq_eq_false_iff_ne]; omega)
      obtain ⟨h0, h1⟩ := hf'
      obtain ⟨h2, h3⟩ := h2
      have HX : Hid (d.read f = ([], 90)) := by unfold DS.read; rw [if_neg (by simp [hd]), DS.fileNo_none hf]; exact rfl
      clear hf hd
      go_enter Try.func66, Try.ntmps66
      go_wp2
      go_ret2
      exact ⟨ret_two (by rw [HX.out]; rfl) (by rw [HX.out]; rfl), Below.refl _ _⟩
  · rw [hd] at c5
    have HX : Hid (d.read f = ([], 2)) := by unfold DS.read; rw [if_pos hd]; exact rfl
    clear hd
    go_enter Try.func66, Try.ntmps66
    go_wp2
    go_ret2
    exact ⟨ret_two (by rw [HX.out]; rfl) (by rw [HX.out]; rfl), Below.refl _ _⟩

set_option maxHeartbeats 1000000 in
theorem rdie_any (b : Nat) (w : World) (d : DS) (us : Value) (k : Int) (h : RefU w b d us) (hok : d.Ok) (h1 : k ≤ 9223372036854775807) :
    Calls Try.prog 97 #[.pointer (some ⟨b, 0, none⟩), .int .i64 k] w fun e w' => e = .returned (.tuple #[]) ∧ RefU w' b (d.die k.toNat) (.slice none 0 0) ∧ Touch (· = b) w w' := by
  have H := Lib.hid h
  clear h
  go_enter Try.func97, Try.ntmps97
  go_wp2_with fail
  refine (rafter_any b w d us k H.out hok h1).mono ?_
  rintro e w1 ⟨g, rfl, hg, ht, hb⟩
  have h1 := H.out.below hb
  obtain ⟨c0, c1, c2, c3, c4, c5, cf, hlt⟩ := h1.cells
  obtain ⟨x0, x1, xl⟩ := ht.cells
  have hne : b < g := Nat.lt_of_lt_of_le H.out.lt hg
  have H1 := Lib.hid h1
  have HB := Lib.hid hb
  clear h1 hb ht hg
  go_wp2
  go_end0
  refine ⟨rfl, ⟨?_, ?_⟩, ?_⟩
  · rw [heap_set _ (heap_set _ (heap_set _ (heap_set _ (heap_set _ H1.out.blk))))]; simp [refBlock, DS.die]
  · exact World.ownsRow_nil _ _ _ _
  · refine Touch.setCell (Touch.setCell (Touch.setCell (Touch.setCell (Touch.setCell (Touch.of_below HB.out) _ ?_) _ ?_) _ ?_) _ ?_) _ ?_
    all_goals exact fun _ => rfl

set_option maxHeartbeats 1000000 in
theorem rcrash_any (b : Nat) (w : World) (d : DS) (ub : Option Nat) (k : Int) (h : RefAt w b d ub) (hk : k ≤ 9223372036854775807) :
    Calls Try.prog 71 #[.pointer (some ⟨b, 0, none⟩), .int .i64 k] w fun e w' => e = .returned (.int .i64 (d.crash k).2) ∧
      ∃ ub', RefAt w' b (d.crash k).1 ub' ∧ Newer w ub ub' ∧ Touch (· = b) w w' := by
  have hok' := h.1.crash k
  obtain ⟨hok, us, h, rfl⟩ := h
  obtain ⟨c0, c1, c2, c3, c4, c5, cf, hlt⟩ := h.cells
  have H := Lib.hid h
  clear h c0 c1 c2
  cases hd : d.dead
  · rw [hd] at c5
    by_cases h0 : k < 0
    · have HX : Hid (d.crash k = (d, 1)) := by unfold DS.crash; rw [if_neg (by simp [hd]), if_pos h0]; exact rfl
      clear hd
      go_enter Try.func71, Try.ntmps71
      go_wp2
      go_ret
      exact ⟨ret_int (by rw [HX.out]), us.ownBlock, by rw [HX.out]; exact ⟨hok, us, H.out, rfl⟩, Newer.refl _ _, Touch.refl _ _⟩
    · have HX : Hid (d.crash k = (d.die k.toNat, 0)) := by unfold DS.crash; rw [if_neg (by simp [hd]), if_neg h0]; exact rfl
      have hk0 : 0 ≤ k := by omega
      clear hd h0
      go_enter Try.func71, Try.ntmps71
      go_wp2_with fail
      refine (rdie_any b w d us k H.out hok hk).mono ?_
      rintro e w1 ⟨rfl, hr, ht⟩
      have HR := Lib.hid hr
      have HT := Lib.hid ht
      clear hr ht
      go_wp2
      go_ret
      refine ⟨ret_int (by rw [HX.out]), none, ?_, Newer.none _ _, HT.out⟩
      rw [HX.out] at hok' ⊢
      exact ⟨hok', _, HR.out, rfl⟩
  · rw [hd] at c5
    have HX : Hid (d.crash k = (d, 2)) := by unfold DS.crash; rw [if_pos hd]; exact rfl
    clear hd
    go_enter Try.func71, Try.ntmps71
    go_wp2
    go_ret
    exact ⟨ret_int (by rw [HX.out]), us.ownBlock, by rw [HX.out]; exact ⟨hok, us, H.out, rfl⟩, Newer.refl _ _, Touch.refl _ _⟩

set_option maxHeartbeats 1000000 in
theorem rsync_any (b : Nat) (w : World) (d : DS) (ub : Option Nat) (h : RefAt w b d ub) :
    Calls Try.prog 69 #[.pointer (some ⟨b, 0, none⟩)] w fun e w' => e = .returned (.int .i64 d.sync.2) ∧
      ∃ ub', RefAt w' b d.sync.1 ub' ∧ Newer w ub ub' ∧ Touch (· = b) w w' := by
  have hok' := h.1.sync
  obtain ⟨hok, us, h, rfl⟩ := h
  obtain ⟨c0, c1, c2, c3, c4, c5, cf, hlt⟩ := h.cells
  have H := Lib.hid h
  clear h c0 c1 c2 c3 c4
  cases hd : d.dead
  · rw [hd] at c5
    go_enter Try.func69, Try.ntmps69
    cases hg : d.goes
    · have HX : Hid (d.sync = (d.tick.saved, 0)) := by unfold DS.sync; rw [if_neg (by simp [hd]), if_neg (by simp [hg])]; exact rfl
      clear hd
      go_wp2_with fail
      refine (rgoes_any b w d us H.out hok).mono ?_
      rintro e w1 ⟨rfl, hr, ht⟩
      rw [hg]
      have HR := Lib.hid hr
      have HT := Lib.hid ht
      clear hr ht hg
      go_wp2_with fail
      refine (rfiles_any b w1 d.tick us HR.out hok.tick).mono ?_
      rintro e w2 ⟨g, rfl, hg, ht, hb⟩
      have h2 := HR.out.below hb
      obtain ⟨c0, c1, c2, c3, c4, c5, cf, hlt⟩ := h2.cells
      obtain ⟨x0, x1, xl⟩ := ht.cells
      have hne : b < g := Nat.lt_of_lt_of_le HR.out.lt hg
      have H2 := Lib.hid h2
      have HB := Lib.hid hb
      clear h2 hb c3 c4 ht hg
      go_wp2
      go_ret
      refine ⟨ret_int (by rw [HX.out]), none, ?_, Newer.none _ _, ?_⟩
      · rw [HX.out] at hok' ⊢
        refine ⟨hok', .slice none 0 0, ⟨?_, World.ownsRow_nil _ _ _ _⟩, rfl⟩
        rw [heap_set _ (heap_set _ (heap_set _ H2.out.blk))]; simp [refBlock, DS.saved]
      · refine Touch.setCell (Touch.setCell (Touch.setCell (Touch.trans HT.out (Touch.of_below (S := fun _ => False) HB.out) (fun _ _ h => h.elim)) _ ?_) _ ?_) _ ?_
        all_goals exact fun _ => rfl
    · have HX : Hid (d.sync = (d.tick.die d.keep, 2)) := by unfold DS.sync; rw [if_neg (by simp [hd]), if_pos hg]; exact rfl
      have hkp := hok.keep
      clear hd
      go_wp2_with fail
      refine (rgoes_any b w d us H.out hok).mono ?_
      rintro e w1 ⟨rfl, hr, ht⟩
      rw [hg]
      obtain ⟨c0, c1, c2, c3, c4, c5, cf, hlt⟩ := hr.cells
      have HR := Lib.hid hr
      have HT := Lib.hid ht
      clear hr ht hg c0 c1 c2 c3
      go_wp2_with fail
      refine (rdie_any b w1 d.tick us d.keep HR.out hok.tick (by omega)).mono ?_
      rintro e w2 ⟨rfl, hr2, ht2⟩
      have HR2 := Lib.hid hr2
      have HT2 := Lib.hid ht2
      clear hr2 ht2 c4 c5 cf
      go_wp2
      go_ret
      refine ⟨ret_int (by rw [HX.out]), none, ?_, Newer.none _ _, Touch.trans HT.out HT2.out (fun k _ h => h)⟩
      rw [HX.out] at hok' ⊢
      exact ⟨hok', _, HR2.out, rfl⟩
  · rw [hd] at c5
    have HX : Hid (d.sync = (d, 2)) := by unfold DS.sync; rw [if_pos hd]; exact rfl
    clear hd
    go_enter Try.func69, Try.ntmps69
    go_wp2
    go_ret
    exact ⟨ret_int (by rw [HX.out]), us.ownBlock, by rw [HX.out]; exact ⟨hok, us, H.out, rfl⟩, Newer.refl _ _, Touch.refl _ _⟩
end Go.Proofs.Ytpjpknndfhablaa
