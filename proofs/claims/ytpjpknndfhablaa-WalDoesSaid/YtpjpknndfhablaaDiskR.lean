/- Walks of (*Disk).Waiting, all, Size: they only read. -/
import Derived.Test.YtpjpknndfhablaaDiskL
namespace Go.Proofs.Ytpjpknndfhablaa
open Go.RowKit

set_option maxHeartbeats 1000000 in
theorem waiting_any (b : Nat) (w : World) (d : DS) (rs : Value) (r : List (Bool × List UInt8)) (h : DiskRows w b d rs r) (hok : d.Ok) :
    Calls Try.prog 17 #[.pointer (some ⟨b, 0, none⟩)] w fun e w' => e = .returned (.int .i64 d.u.length) ∧ Below w.heap.size w w' := by
  obtain ⟨c0, c1, c2, c3, c4, c5, cf, hlt⟩ := h.cells
  obtain ⟨ao, cap, rfl, hr, hcell⟩ := h.slice
  have HC := Lib.hid hcell
  have HU := Lib.hid h.u
  have hul := hok.u_len
  clear hcell h c0 c1 c3 c4 c5
  go_enter Try.func17, Try.ntmps17
  go_wp2
  go_loopw [3, 11] (fun n i wr => ∃ (j m : Nat), n = .int .i64 m ∧ i = .int .i64 j ∧ j ≤ r.length ∧ m = (DS.flat (r.take j)).length ∧ Below w.heap.size w wr) (fun _ i _ => r.length - (intOf i).toNat)
  case atStart => exact ⟨0, 0, rfl, rfl, by omega, by simp [DS.flat], Below.refl _ _⟩
  case round =>
    obtain ⟨j, m, rfl, rfl, hj, hm, hbl⟩ := hrel
    have hml := DS.flat_take_le r j
    rw [HU.out, ← hm] at hml
    have HM := Lib.hid hm
    have HB := Lib.hid hbl
    clear hm hbl
    by_cases hlt : j < r.length
    · obtain ⟨⟨f, s⟩, hs⟩ : ∃ x, r[j]? = some x := ⟨_, List.getElem?_eq_getElem hlt⟩
      have b2 := DS.row_len HU.out hok hs
      obtain ⟨g, rfl, hg, ca, cb⟩ := HC.out j f s hs
      have HS := Lib.hid hs
      have ca' := (HB.out.cell (p := ⟨g, j * 2, none⟩) hg).trans ca
      have cb' := (HB.out.cell (p := ⟨g, j * 2 + 1, none⟩) hg).trans cb
      have hg' : g < wr.heap.size := Nat.lt_of_lt_of_le hg HB.out.size
      clear ca cb hs
      go_wp2
      go_roundw
      case rel =>
        refine ⟨j + 1, m + s.length, by go_num, by go_num, by omega, by rw [DS.flat_len_succ HS.out, HM.out], ?_⟩
        have hb := HB.out
        have hbs := hb.size
        go_grown
      case measure => simp [intOf]; omega
    · obtain rfl : j = r.length := by omega
      have HX : Hid (m = d.u.length) := by rw [HM.out, List.take_length, HU.out]; exact rfl
      go_wp2
      go_ret
      exact ⟨ret_int (by rw [HX.out]), HB.out⟩

set_option maxHeartbeats 1000000 in
theorem all_any (b : Nat) (w : World) (d : DS) (rs : Value) (r : List (Bool × List UInt8)) (h : DiskRows w b d rs r) (hok : d.Ok) :
    Calls Try.prog 56 #[.pointer (some ⟨b, 0, none⟩)] w fun e w' =>
      e = .returned (.agg #[.string ⟨(d.file false).toArray⟩, .string ⟨(d.file true).toArray⟩]) ∧ Below w.heap.size w w' := by
  have hul := hok.u_len
  have H := Lib.hid h
  clear h
  go_enter Try.func56, Try.ntmps56
  go_wp2_with fail
  refine (waiting_any b _ d rs r (H.out.below (by go_grown)) hok).mono ?_
  rintro e w1 ⟨rfl, hb1⟩
  go_wp2_with fail
  refine (left_any b _ d rs r _ ((H.out.below (by go_grown)).below hb1) hok (by omega) (by omega)).mono ?_
  rintro e w2 ⟨rfl, hb2⟩
  have n2 := stays (stays (heap_new w _) hb1) hb2
  obtain ⟨x0, x1, xf, xl⟩ := cells2 n2
  have N2 := Lib.hid n2
  clear n2
  go_wp2
  have hx := heap_set (i := 1) (.string ⟨(d.file true).toArray⟩) (heap_set (i := 0) (.string ⟨(d.file false).toArray⟩) N2.out)
  obtain ⟨y0, y1, _, _⟩ := cells2 hx
  have hb := bthen (bthen (balloc w _) hb1) hb2
  refine bodyPost_ret (v := .agg #[.string ⟨(d.file false).toArray⟩, .string ⟨(d.file true).toArray⟩]) (by simp [results, Try.results56, go_sem, DS.left_all, y0, y1]) rfl ⟨rfl, ?_⟩
  go_grown

set_option maxHeartbeats 1000000 in
theorem size_any (b : Nat) (w : World) (d : DS) (rs : Value) (r : List (Bool × List UInt8)) (f : Int) (h : DiskRows w b d rs r) (hok : d.Ok) :
    Calls Try.prog 22 #[.pointer (some ⟨b, 0, none⟩), .int .i64 f] w fun e w' => e = .returned (.int .i64 (d.sizeI f)) ∧ Below w.heap.size w w' := by
  by_cases hf : f = 0 ∨ f = 1
  · obtain ⟨q, rfl⟩ := DS.fi_of hf
    obtain ⟨c0, c1, c2, c3, c4, c5, cf, hlt⟩ := h.cells
    obtain ⟨ao, cap, rfl, hr, hcell⟩ := h.slice
    have HC := Lib.hid hcell
    have HU := Lib.hid h.u
    have hbl := d.base_len q hok
    have hq : (d.base q).length ≤ 1048576 := by omega
    have hcq : w.cell? ⟨b, q.toNat, none⟩ = some (.string ⟨(d.base q).toArray⟩) := by
      cases q
      · exact c0
      · exact c1
    clear hcell h c0 c1 c3 c4 c5 hf
    rw [DS.sizeI_of]
    go_enter Try.func22, Try.ntmps22
    cases q
    all_goals simp only [DS.fi, Bool.false_eq_true, if_true, if_false, Bool.toNat_true, Bool.toNat_false] at hcq ⊢
    all_goals go_wp2
    · go_loopw [5, 26] (fun n i wr => ∃ (j m : Nat), n = .int .i64 m ∧ i = .int .i64 j ∧ j ≤ r.length ∧ m = (d.base false).length + (DS.of false (DS.flat (r.take j))).length ∧ Below w.heap.size w wr) (fun _ i _ => r.length - (intOf i).toNat)
      case atStart => exact ⟨0, _, rfl, rfl, by omega, by rw [DS.count_zero]; rfl, Below.refl _ _⟩
      case round =>
        obtain ⟨j, m, rfl, rfl, hj, hm, hbl⟩ := hrel
        have hml := DS.count_le (r := r) j false
        rw [HU.out] at hml
        have hm2 : m ≤ 1048576 := by omega
        have HM := Lib.hid hm
        have HB := Lib.hid hbl
        clear hm hbl hml
        by_cases hlt : j < r.length
        · obtain ⟨⟨f, s⟩, hs⟩ : ∃ x, r[j]? = some x := ⟨_, List.getElem?_eq_getElem hlt⟩
          have b2 := DS.row_len HU.out hok hs
          obtain ⟨g, rfl, hg, ca, cb⟩ := HC.out j f s hs
          have HS := Lib.hid hs
          have ca' := (HB.out.cell (p := ⟨g, j * 2, none⟩) hg).trans ca
          have cb' := (HB.out.cell (p := ⟨g, j * 2 + 1, none⟩) hg).trans cb
          have hg' : g < wr.heap.size := Nat.lt_of_lt_of_le hg HB.out.size
          clear ca cb hs
          cases f
          all_goals simp only [DS.fi, Bool.false_eq_true, if_true, if_false] at ca'
          all_goals go_wp2
          all_goals go_roundw
          all_goals first
            | (simp [intOf]; omega)
            | (refine ⟨j + 1, m + s.length, by go_num, by go_num, by omega, by rw [DS.count_same HS.out, HM.out]; omega, ?_⟩
               have hb := HB.out
               have hbs := hb.size
               go_grown)
            | (refine ⟨j + 1, m, by go_num, by go_num, by omega, by rw [DS.count_other HS.out (by decide), HM.out], ?_⟩
               have hb := HB.out
               have hbs := hb.size
               go_grown)
        · obtain rfl : j = r.length := by omega
          have HX : Hid (m = (d.base false).length + (DS.of false d.u).length) := by rw [HM.out, List.take_length, HU.out]; exact rfl
          go_wp2
          go_ret
          exact ⟨ret_int (by rw [HX.out]; omega), HB.out⟩
    · go_loopw [5, 26] (fun n i wr => ∃ (j m : Nat), n = .int .i64 m ∧ i = .int .i64 j ∧ j ≤ r.length ∧ m = (d.base true).length + (DS.of true (DS.flat (r.take j))).length ∧ Below w.heap.size w wr) (fun _ i _ => r.length - (intOf i).toNat)
      case atStart => exact ⟨0, _, rfl, rfl, by omega, by rw [DS.count_zero]; rfl, Below.refl _ _⟩
      case round =>
        obtain ⟨j, m, rfl, rfl, hj, hm, hbl⟩ := hrel
        have hml := DS.count_le (r := r) j true
        rw [HU.out] at hml
        have hm2 : m ≤ 1048576 := by omega
        have HM := Lib.hid hm
        have HB := Lib.hid hbl
        clear hm hbl hml
        by_cases hlt : j < r.length
        · obtain ⟨⟨f, s⟩, hs⟩ : ∃ x, r[j]? = some x := ⟨_, List.getElem?_eq_getElem hlt⟩
          have b2 := DS.row_len HU.out hok hs
          obtain ⟨g, rfl, hg, ca, cb⟩ := HC.out j f s hs
          have HS := Lib.hid hs
          have ca' := (HB.out.cell (p := ⟨g, j * 2, none⟩) hg).trans ca
          have cb' := (HB.out.cell (p := ⟨g, j * 2 + 1, none⟩) hg).trans cb
          have hg' : g < wr.heap.size := Nat.lt_of_lt_of_le hg HB.out.size
          clear ca cb hs
          cases f
          all_goals simp only [DS.fi, Bool.false_eq_true, if_true, if_false] at ca'
          all_goals go_wp2
          all_goals go_roundw
          all_goals first
            | (simp [intOf]; omega)
            | (refine ⟨j + 1, m + s.length, by go_num, by go_num, by omega, by rw [DS.count_same HS.out, HM.out]; omega, ?_⟩
               have hb := HB.out
               have hbs := hb.size
               go_grown)
            | (refine ⟨j + 1, m, by go_num, by go_num, by omega, by rw [DS.count_other HS.out (by decide), HM.out], ?_⟩
               have hb := HB.out
               have hbs := hb.size
               go_grown)
        · obtain rfl : j = r.length := by omega
          have HX : Hid (m = (d.base true).length + (DS.of true d.u).length) := by rw [HM.out, List.take_length, HU.out]; exact rfl
          go_wp2
          go_ret
          exact ⟨ret_int (by rw [HX.out]; omega), HB.out⟩
  · have hf' : f < 0 ∨ 2 ≤ f := by omega
    have HX : Hid (d.sizeI f = -1) := by unfold DS.sizeI; rw [DS.fileNo_none hf]; exact rfl
    clear hf h
    go_enter Try.func22, Try.ntmps22
    rcases hf' with hf | hf
    all_goals go_wp2
    all_goals go_ret
    all_goals exact ⟨ret_int (by rw [HX.out]), Below.refl _ _⟩
end Go.Proofs.Ytpjpknndfhablaa
