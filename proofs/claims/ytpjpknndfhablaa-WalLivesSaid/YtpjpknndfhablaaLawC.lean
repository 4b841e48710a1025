/- The walk of made: a disk behind calls that a log may make. -/
import Derived.Test.YtpjpknndfhablaaLawB
import Derived.Test.YtpjpknndfhablaaLawM
namespace Go.Proofs.Ytpjpknndfhablaa
open Go.RowKit

/-- A slice of calls that is read. -/
structure OpsAt (w : World) (ao : Option Addr) (l : List OpV) : Prop where
  len : l.length ≤ 4000000000000
  cell : ∀ i o, l[i]? = some o → ∃ b off, ao = some ⟨b, off, none⟩ ∧ b < w.heap.size ∧ w.cell? ⟨b, off + i * 5, none⟩ = some (.int .i64 o.on) ∧ w.cell? ⟨b, off + i * 5 + 1, none⟩ = some (.int .i64 o.kind) ∧
    w.cell? ⟨b, off + i * 5 + 2, none⟩ = some (.int .i64 o.a) ∧ w.cell? ⟨b, off + i * 5 + 3, none⟩ = some (.int .i64 o.b) ∧ w.cell? ⟨b, off + i * 5 + 4, none⟩ = some (.string ⟨o.s.toArray⟩)
  fits : ∀ o ∈ l, o.s.length ≤ 140737488355328 ∧ (-9223372036854775808 ≤ o.a ∧ o.a ≤ 9223372036854775807) ∧ (-9223372036854775808 ≤ o.b ∧ o.b ≤ 9223372036854775807) ∧ (-9223372036854775808 ≤ o.on ∧ o.on ≤ 9223372036854775807)
theorem OpsAt.below {w w' : World} {ao : Option Addr} {l : List OpV} (h : OpsAt w ao l) (hb : Below w.heap.size w w') : OpsAt w' ao l :=
  ⟨h.len, fun i o hi => by
    obtain ⟨b, off, e, hl, c0, c1, c2, c3, c4⟩ := h.cell i o hi
    exact ⟨b, off, e, Nat.lt_of_lt_of_le hl hb.size, cell_later hb c0, cell_later hb c1, cell_later hb c2, cell_later hb c3, cell_later hb c4⟩, h.fits⟩

set_option maxHeartbeats 2000000 in
theorem made_any (w : World) (ao bo : Option Addr) (ca cb : Nat) (l : List (List UInt8)) (s : List OpV) (h : Texts w ao l) (hs : OpsAt w bo s) :
    Calls Try.prog 12 #[.slice ao l.length ca, .slice bo s.length cb] w fun e w' => 
      ((DS.made l).1 = none ∧ e = .returned (.pointer none) ∧ Below w.heap.size w w') ∨ ∃ d c, (DS.made l).1 = some d ∧ e = .returned (.pointer (some ⟨c, 0, none⟩)) ∧ DiskNew w w' c (d.plays s) s.length := by
  have hsl := hs.len
  have HS := Lib.hid hs
  clear hs
  go_enter Try.func12, Try.ntmps12
  go_wp2_with fail
  refine (new_any w ao ca l h).mono ?_
  rintro e w1 ⟨hb1, ⟨hn, rfl⟩ | ⟨d, c, hd, rfl, hc, hat⟩⟩
  · have HN := Lib.hid hn
    have HB := Lib.hid hb1
    have hk : ((DS.made l).2 == 0) = false ∧ ((DS.made l).2 != 0) = true := by
      unfold DS.made at hn ⊢
      split at hn
      · split at hn
        · cases hn
        · rename_i h; rw [if_neg h]; exact ⟨rfl, rfl⟩
      · exact ⟨rfl, rfl⟩
    obtain ⟨hk0, hk1⟩ := hk
    clear hn hb1 h
    go_wp2
    go_ret
    exact .inl ⟨HN.out, rfl, HB.out⟩
  · have HD := Lib.hid hd
    have H1 : Hid (DiskNew w w1 c d 0) := ⟨hc, hb1, none, hat, fun k hk => by cases hk⟩
    clear hd hc hat hb1 h
    go_wp2
    go_loopw [7] (fun i wr => ∃ j : Nat, i = .int .i64 j ∧ j ≤ s.length ∧ DiskNew w wr c (d.plays (s.take j)) j) (fun i _ => s.length - (intOf i).toNat)
    case atStart => exact ⟨0, rfl, Nat.zero_le _, H1.out⟩
    case round =>
      obtain ⟨j, rfl, hj, hdn⟩ := hrel
      have HN := Lib.hid hdn
      clear hdn
      by_cases hlt : j < s.length
      · obtain ⟨o, ho⟩ : ∃ o, s[j]? = some o := ⟨_, List.getElem?_eq_getElem hlt⟩
        obtain ⟨b, off, rfl, hbl, c0, c1, c2, c3, c4⟩ := HS.out.cell j o ho
        obtain ⟨f1, f2, f3, _⟩ := HS.out.fits o (List.mem_of_getElem? ho)
        have HO := Lib.hid ho
        have HP := Lib.hid (DS.plays_succ (d := d) ho)
        have hbw := HN.out.2.1
        have k1 := hbw.cell (p := ⟨b, off + j * 5 + 1, none⟩) hbl
        have k2 := hbw.cell (p := ⟨b, off + j * 5 + 2, none⟩) hbl
        have k3 := hbw.cell (p := ⟨b, off + j * 5 + 3, none⟩) hbl
        have k4 := hbw.cell (p := ⟨b, off + j * 5 + 4, none⟩) hbl
        rw [c1] at k1; rw [c2] at k2; rw [c3] at k3; rw [c4] at k4
        clear ho c0 c1 c2 c3 c4 hbw
        have hkind : o.kind = 1 ∨ o.kind = 2 ∨ o.kind = 3 ∨ ((o.kind == 1) = false ∧ (o.kind == 2) = false ∧ (o.kind == 3) = false) := by
          by_cases h1 : o.kind = 1
          · exact .inl h1
          · by_cases h2 : o.kind = 2
            · exact .inr (.inl h2)
            · by_cases h3 : o.kind = 3
              · exact .inr (.inr (.inl h3))
              · exact .inr (.inr (.inr (by simp [h1, h2, h3])))
        rcases hkind with h1 | h2 | h3 | ⟨h1, h2, h3⟩
        · have HX : Hid ((d.plays (s.take j)).play1 o = ((d.plays (s.take j)).append o.a o.s).1) := by unfold DS.play1; rw [if_pos h1]; exact rfl
          rw [h1] at k1
          clear h1
          go_wp2
          go_region_held3 (fun w' => w'.cell? ⟨b, off + j * 5 + 2, none⟩ = some (.int .i64 o.a) ∧ w'.cell? ⟨b, off + j * 5 + 4, none⟩ = some (.string ⟨o.s.toArray⟩))
            (first | exact ⟨k2, k4⟩ | exact ⟨by assumption, by assumption⟩)
            (first | (go_at_call 31; refine (append_new (w0 := w) (HN.out.below (Below.refl _ _).drew) o.a o.s (by omega) (by omega)).mono ?_; rintro e w2 ⟨rfl, h2⟩; have m2 := (h2.2.1.cell (p := ⟨b, off + j * 5 + 2, none⟩) hbl).trans ((HN.out.2.1.cell (p := ⟨b, off + j * 5 + 2, none⟩) hbl).symm.trans k2); have m4 := (h2.2.1.cell (p := ⟨b, off + j * 5 + 4, none⟩) hbl).trans ((HN.out.2.1.cell (p := ⟨b, off + j * 5 + 4, none⟩) hbl).symm.trans k4); have H2 := Lib.hid h2; clear h2))
          go_wp2
          go_roundw
          case rel => exact ⟨j + 1, by go_num, by omega, by rw [HP.out, HX.out]; exact H2.out⟩
          case measure => simp [intOf]; omega
        · have HX : Hid ((d.plays (s.take j)).play1 o = (d.plays (s.take j)).sync.1) := by unfold DS.play1; rw [if_neg (by omega), if_pos h2]; exact rfl
          rw [h2] at k1
          clear h2
          go_wp2_with (first | (go_at_call 16; go_must (refine (sync_new HN.out).mono ?_; rintro e w2 ⟨rfl, h2⟩; have H2 := Lib.hid h2; clear h2)))
          go_roundw
          case rel => exact ⟨j + 1, by go_num, by omega, by rw [HP.out, HX.out]; exact H2.out.mono (by omega)⟩
          case measure => simp [intOf]; omega
        · have HX : Hid ((d.plays (s.take j)).play1 o = ((d.plays (s.take j)).cut o.a o.b).1) := by unfold DS.play1; rw [if_neg (by omega), if_neg (by omega), if_pos h3]; exact rfl
          rw [h3] at k1
          clear h3
          go_wp2
          go_region_held3 (fun w' => w'.cell? ⟨b, off + j * 5 + 2, none⟩ = some (.int .i64 o.a) ∧ w'.cell? ⟨b, off + j * 5 + 3, none⟩ = some (.int .i64 o.b))
            (first | exact ⟨k2, k3⟩ | exact ⟨by assumption, by assumption⟩)
            (first | (go_at_call 21; refine (cut_new (w0 := w) (HN.out.below (Below.refl _ _).drew) o.a o.b).mono ?_; rintro e w2 ⟨rfl, h2⟩; have m2 := (h2.2.1.cell (p := ⟨b, off + j * 5 + 2, none⟩) hbl).trans ((HN.out.2.1.cell (p := ⟨b, off + j * 5 + 2, none⟩) hbl).symm.trans k2); have m3 := (h2.2.1.cell (p := ⟨b, off + j * 5 + 3, none⟩) hbl).trans ((HN.out.2.1.cell (p := ⟨b, off + j * 5 + 3, none⟩) hbl).symm.trans k3); have H2 := Lib.hid h2; clear h2))
          go_wp2
          go_roundw
          case rel => exact ⟨j + 1, by go_num, by omega, by rw [HP.out, HX.out]; exact H2.out.mono (by omega)⟩
          case measure => simp [intOf]; omega
        · have HX : Hid ((d.plays (s.take j)).play1 o = d.plays (s.take j)) := by simp at h1 h2 h3; unfold DS.play1; rw [if_neg h1, if_neg h2, if_neg h3]; exact rfl
          go_wp2
          go_roundw
          case rel => exact ⟨j + 1, by go_num, by omega, by rw [HP.out, HX.out]; exact HN.out.mono (by omega)⟩
          case measure => simp [intOf]; omega
      · obtain rfl : j = s.length := by omega
        go_wp2
        go_ret
        have := HN.out
        rw [List.take_length] at this
        exact .inr ⟨d, c, HD.out, rfl, this⟩
end Go.Proofs.Ytpjpknndfhablaa
