/- Walks of the document's disk: what only reads, and small writes. -/
import Derived.Test.YtpjpknndfhablaaRefA
namespace Go.Proofs.Ytpjpknndfhablaa
open Go.RowKit

theorem DS.of_take_succ {u : List (Bool × UInt8)} {j : Nat} {f : Bool} {x : UInt8} (h : u[j]? = some (f, x)) (q : Bool) : DS.of q (u.take (j + 1)) = DS.of q (u.take j) ++ if f = q then [x] else [] := by
  rw [List.take_add_one, DS.of_append, h]
  congr 1
  by_cases e : f = q <;> simp [DS.of, e]

set_option maxHeartbeats 1000000 in
theorem unsafe_any (b : Nat) (w : World) (d : DS) (us : Value) (q : Bool) (h : RefU w b d us) (hok : d.Ok) :
    Calls Try.prog 95 #[.pointer (some ⟨b, 0, none⟩), .int .i64 (DS.fi q)] w fun e w' => e = .returned (.int .i64 (DS.of q d.u).length) ∧ w = w' := by
  obtain ⟨c0, c1, c2, c3, c4, c5, cf, hlt⟩ := h.cells
  obtain ⟨ao, cap, rfl, hr, hcell⟩ := h.slice
  have HC := Lib.hid hcell
  have hul := hok.u_len
  clear hcell h c0 c1 c3 c4 c5 cf
  go_enter Try.func95, Try.ntmps95
  go_wp2
  go_loop [5, 6] (fun n i => ∃ (j m : Nat), n = .int .i64 m ∧ i = .int .i64 j ∧ j ≤ d.u.length ∧ m ≤ j ∧ m = (DS.of q (d.u.take j)).length) (fun _ i => d.u.length - (intOf i).toNat)
  case atStart => exact ⟨0, 0, rfl, rfl, by omega, by omega, by simp [DS.of]⟩
  case round =>
    obtain ⟨j, m, rfl, rfl, hj, hmj, hm⟩ := hrel
    have HM := Lib.hid hm
    clear hm
    by_cases hlt : j < d.u.length
    · obtain ⟨⟨f, x⟩, hs⟩ : ∃ x, d.u[j]? = some x := ⟨_, List.getElem?_eq_getElem hlt⟩
      obtain ⟨g, rfl, hg, ca, cb⟩ := HC.out j f x hs
      have HS := Lib.hid hs
      clear hs
      cases f
      all_goals cases q
      all_goals simp only [DS.fi, Bool.false_eq_true, if_true, if_false] at ca
      all_goals go_wp2
      all_goals go_round
      all_goals first
        | (simp [intOf]; omega)
        | exact ⟨j + 1, m + 1, by go_num, by go_num, by omega, by omega, by rw [DS.of_take_succ HS.out, if_pos rfl, List.length_append, ← HM.out]; rfl⟩
        | exact ⟨j + 1, m, by go_num, by go_num, by omega, by omega, by rw [DS.of_take_succ HS.out, if_neg (by decide), List.append_nil, ← HM.out]⟩
    · obtain rfl : j = d.u.length := by omega
      have HX : Hid (m = (DS.of q d.u).length) := by rw [HM.out, List.take_length]; exact rfl
      go_wp2
      go_ret
      exact ⟨ret_int (by rw [HX.out]), rfl⟩

set_option maxHeartbeats 1000000 in
theorem rsize_any (b : Nat) (w : World) (d : DS) (us : Value) (f : Int) (h : RefU w b d us) (hok : d.Ok) :
    Calls Try.prog 67 #[.pointer (some ⟨b, 0, none⟩), .int .i64 f] w fun e w' => e = .returned (.int .i64 (d.sizeI f)) ∧ w = w' := by
  by_cases hf : f = 0 ∨ f = 1
  · obtain ⟨q, rfl⟩ := DS.fi_of hf
    obtain ⟨c0, c1, c2, c3, c4, c5, cf, hlt⟩ := h.cells
    have H := Lib.hid h
    have hbl := d.base_len q hok
    have hq : (d.base q).length ≤ 1048576 := by omega
    have hq2 : (DS.of q d.u).length ≤ 1048576 := by omega
    have hcq : w.cell? ⟨b, q.toNat, none⟩ = some (.string ⟨(d.base q).toArray⟩) := by
      cases q
      · exact c0
      · exact c1
    have HX : Hid (d.sizeI (DS.fi q) = ((d.base q).length : Int) + ((DS.of q d.u).length : Int)) := DS.sizeI_of d q
    clear h c2 c3 c4 c5 hf
    cases q
    all_goals simp only [DS.fi, Bool.false_eq_true, if_true, if_false, Bool.toNat_true, Bool.toNat_false] at hcq HX ⊢
    · clear c0
      have e0 : Hid (d.base false = d.a) := rfl
      go_enter Try.func67, Try.ntmps67
      go_wp2_with (first | (go_at_call 95; go_must (refine (unsafe_any b _ d us false H.out hok).mono ?_; rintro e w' ⟨rfl, rfl⟩)))
      go_ret
      exact ⟨ret_int (by rw [HX.out]), rfl⟩
    · clear c1
      go_enter Try.func67, Try.ntmps67
      go_wp2_with (first | (go_at_call 95; go_must (refine (unsafe_any b _ d us true H.out hok).mono ?_; rintro e w' ⟨rfl, rfl⟩)))
      go_ret
      exact ⟨ret_int (by rw [HX.out]), rfl⟩
  · have hf' : (f != 0) = true ∧ (f != 1) = true := by constructor <;> (rw [bne_iff_ne]; omega)
    have h2 : (f == 0) = false ∧ (f == 1) = false := by constructor <;> (rw [beq_eq_false_iff_ne]; omega)
    obtain ⟨h0, h1⟩ := hf'
    obtain ⟨h2, h3⟩ := h2
    have HX : Hid (d.sizeI f = -1) := by unfold DS.sizeI; rw [DS.fileNo_none hf]; exact rfl
    clear hf h
    go_enter Try.func67, Try.ntmps67
    go_wp2
    go_ret
    exact ⟨ret_int (by rw [HX.out]), rfl⟩

set_option maxHeartbeats 1000000 in
theorem rgoes_any (b : Nat) (w : World) (d : DS) (us : Value) (h : RefU w b d us) (hok : d.Ok) :
    Calls Try.prog 96 #[.pointer (some ⟨b, 0, none⟩)] w fun e w' => e = .returned (.bool d.goes) ∧ RefU w' b d.tick us ∧ Touch (· = b) w w' := by
  obtain ⟨c0, c1, c2, c3, c4, c5, cf, hlt⟩ := h.cells
  have H := Lib.hid h
  have ha := hok.armed
  clear h c0 c1 c2 c4 c5 hok
  by_cases h0 : d.armed = 0
  · have HX := Lib.hid (DS.goes_zero h0)
    have hz : ¬ (0 : Int) < d.armed := by omega
    clear h0
    go_enter Try.func96, Try.ntmps96
    go_wp2
    go_ret
    exact ⟨ret_bool (by rw [HX.out.1]), by rw [HX.out.2]; exact H.out, Touch.refl _ _⟩
  · have hp : 0 < d.armed := by omega
    have hz : (0 : Int) < d.armed := by omega
    have x3 := World.cell?_setCell_same w ⟨b, 3, none⟩ (.int .i64 ((d.armed : Int) - 1)) c3
    clear h0
    go_enter Try.func96, Try.ntmps96
    go_wp2
    go_ret
    refine ⟨ret_bool ?_, ⟨?_, ?_⟩, (Touch.refl _ _).setCell _ (fun _ => rfl)⟩
    · exact DS.goes_pos hp
    · rw [heap_set _ H.out.blk, refBlock, DS.tick_cast hp]; simp [DS.tick]
    · exact own_touch H.out.own ((Touch.refl (· = b) w).setCell _ (fun _ => rfl)) (fun k hk => fun e => H.out.own_block (by rw [hk, e]))

set_option maxHeartbeats 1000000 in
theorem rrevive_any (b : Nat) (w : World) (d : DS) (ub : Option Nat) (h : RefAt w b d ub) :
    Calls Try.prog 46 #[.pointer (some ⟨b, 0, none⟩)] w fun e w' => e = .returned (.tuple #[]) ∧ RefAt w' b d.revive ub ∧ Touch (· = b) w w' := by
  obtain ⟨hok, us, h, rfl⟩ := h
  obtain ⟨c0, c1, c2, c3, c4, c5, cf, hlt⟩ := h.cells
  have H := Lib.hid h
  clear h c0 c1 c2 c4
  go_enter Try.func46, Try.ntmps46
  go_wp2
  go_end0
  have ht := ((Touch.refl (· = b) w).setCell (a := ⟨b, 5, none⟩) (.bool false) (fun _ => rfl)).setCell (a := ⟨b, 3, none⟩) (.int .i64 0) (fun _ => rfl)
  refine ⟨rfl, ⟨hok.revive, us, ⟨?_, ?_⟩, rfl⟩, ht⟩
  · rw [heap_set _ (heap_set _ H.out.blk)]; simp [DS.revive, refBlock]
  · exact own_touch H.out.own ht (fun k hk => fun e => H.out.own_block (by rw [hk, e]))

set_option maxHeartbeats 1000000 in
theorem rarm_any (b : Nat) (w : World) (d : DS) (ub : Option Nat) (n k : Int) (h : RefAt w b d ub) (hn : n ≤ 9223372036854775807) (hk : k ≤ 9223372036854775807) :
    Calls Try.prog 42 #[.pointer (some ⟨b, 0, none⟩), .int .i64 n, .int .i64 k] w fun e w' => e = .returned (.int .i64 (d.arm n k).2) ∧ RefAt w' b (d.arm n k).1 ub ∧ Touch (· = b) w w' := by
  have hok' := h.1.arm hn hk
  obtain ⟨hok, us, h, rfl⟩ := h
  obtain ⟨c0, c1, c2, c3, c4, c5, cf, hlt⟩ := h.cells
  have H := Lib.hid h
  clear h c0 c1 c2
  cases hd : d.dead
  · rw [hd] at c5
    by_cases h0 : n < 0 ∨ k < 0
    · have HX : Hid (d.arm n k = (d, 1)) := by unfold DS.arm; rw [if_neg (by simp [hd]), if_pos h0]; exact rfl
      clear hd
      go_enter Try.func42, Try.ntmps42
      rcases h0 with h0 | h0
      all_goals go_wp2
      all_goals go_ret
      all_goals exact ⟨ret_int (by rw [HX.out]), by rw [HX.out]; exact ⟨hok, us, H.out, rfl⟩, Touch.refl _ _⟩
    · have HX : Hid (d.arm n k = ({ d with armed := n.toNat, keep := k.toNat }, 0)) := by unfold DS.arm; rw [if_neg (by simp [hd]), if_neg h0]; exact rfl
      have hn0 : 0 ≤ n := by omega
      have hk0 : 0 ≤ k := by omega
      clear hd h0
      go_enter Try.func42, Try.ntmps42
      go_wp2
      go_ret
      have ht := ((Touch.refl (· = b) w).setCell (a := ⟨b, 3, none⟩) (.int .i64 n) (fun _ => rfl)).setCell (a := ⟨b, 4, none⟩) (.int .i64 k) (fun _ => rfl)
      refine ⟨ret_int (by rw [HX.out]), ?_, ht⟩
      rw [HX.out] at hok' ⊢
      refine ⟨hok', us, ⟨?_, ?_⟩, rfl⟩
      · rw [heap_set _ (heap_set _ H.out.blk)]; simp [refBlock, Int.toNat_of_nonneg hn0, Int.toNat_of_nonneg hk0]
      · exact own_touch H.out.own ht (fun k hk => fun e => H.out.own_block (by rw [hk, e]))
  · rw [hd] at c5
    have HX : Hid (d.arm n k = (d, 2)) := by unfold DS.arm; rw [if_pos hd]; exact rfl
    clear hd
    go_enter Try.func42, Try.ntmps42
    go_wp2
    go_ret
    exact ⟨ret_int (by rw [HX.out]), by rw [HX.out]; exact ⟨hok, us, H.out, rfl⟩, Touch.refl _ _⟩

set_option maxHeartbeats 1000000 in
theorem rcopy_any (b : Nat) (w : World) (d : DS) (ub : Option Nat) (h : RefAt w b d ub) :
    Calls Try.prog 26 #[.pointer (some ⟨b, 0, none⟩)] w fun e w' => ∃ c, e = .returned (.pointer (some ⟨c, 0, none⟩)) ∧ w.heap.size ≤ c ∧ RefAt w' c d ub ∧ Below w.heap.size w w' := by
  obtain ⟨hok, us, h, rfl⟩ := h
  obtain ⟨c0, c1, c2, c3, c4, c5, cf, hlt⟩ := h.cells
  have H := Lib.hid h
  rcases h.own.2 with ⟨rfl, h0⟩ | ⟨g, cap, cur, rfl, _⟩
  all_goals clear h
  all_goals go_enter Try.func26, Try.ntmps26
  all_goals go_wp2
  all_goals go_ret
  all_goals exact ⟨w.heap.size, rfl, Nat.le_refl _, ⟨hok, _, ⟨heap_new w _, own_touch H.out.own (Touch.of_below (S := fun _ => False) (balloc w _)) (fun _ _ h => h)⟩, rfl⟩, balloc w _⟩
end Go.Proofs.Ytpjpknndfhablaa
