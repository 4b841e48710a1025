/- Walks of the document's disk: New, Append; Same. -/
import Derived.Test.YtpjpknndfhablaaRefH
import Derived.Deep.QuietTactic
import Derived.BigQuiet
import Derived.WalkSmall
namespace Go.Proofs.Ytpjpknndfhablaa
open Go.RowKit

set_option maxHeartbeats 1000000 in
theorem rnew_any (w : World) (ao : Option Addr) (cap : Nat) (l : List (List UInt8)) (h : Texts w ao l) :
    Calls Try.prog 13 #[.slice ao l.length cap] w fun e w' => Below w.heap.size w w' ∧ 
      ((DS.made l).1 = none ∧ e = .returned (.tuple #[.pointer none, .int .i64 (DS.made l).2]) ∨
      ∃ d c, (DS.made l).1 = some d ∧ e = .returned (.tuple #[.pointer (some ⟨c, 0, none⟩), .int .i64 0]) ∧ w.heap.size ≤ c ∧ RefAt w' c d none) := by
  have hlen := h.len
  by_cases h2 : l.length = 2
  · obtain ⟨s, t, rfl⟩ : ∃ s t, l = [s, t] := by
      match l, h2 with
      | [s, t], _ => exact ⟨s, t, rfl⟩
    obtain ⟨b, off, rfl, cs⟩ := h.cell 0 s rfl
    obtain ⟨b', off', hbo, ct⟩ := h.cell 1 t rfl
    simp only [Option.some.injEq, Addr.mk.injEq, and_true] at hbo
    obtain ⟨rfl, rfl⟩ := hbo
    have hlt := World.block_lt_of_cell? _ _ cs
    have hlt' : b < w.heap.size := hlt
    clear h hlen h2 hlt
    simp only [Nat.add_zero] at cs
    by_cases hs : s.length ≤ 1048576
    · by_cases ht : t.length ≤ 1048576
      · have HX : Hid (DS.made [s, t] = (some { a := s, b := t }, 0)) := by simp [DS.made, hs, ht, Hid]
        have hok : DS.Ok { a := s, b := t } := ⟨by simpa [DS.size, DS.file, DS.base, DS.of] using hs, by simpa [DS.size, DS.file, DS.base, DS.of] using ht, by simp, by simp⟩
        go_enter Try.func13, Try.ntmps13
        go_wp2
        go_region_held3 (fun w' => w'.cell? ⟨b, off, none⟩ = some (.string ⟨s.toArray⟩) ∧ w'.cell? ⟨b, off + 1, none⟩ = some (.string ⟨t.toArray⟩)) (first | exact ⟨cs, ct⟩ | exact ⟨cell_later (bthen (Below.refl _ w).drew (balloc _ _)) cs, cell_later (bthen (Below.refl _ w).drew (balloc _ _)) ct⟩) (fail)
        go_wp2
        go_ret2
        refine ⟨?_, .inr ⟨{ a := s, b := t }, w.heap.size, by rw [HX.out], rfl, Nat.le_refl _, hok, .slice none 0 0, ⟨heap_new w _, World.ownsRow_nil _ _ _ _⟩, rfl⟩⟩
        first
          | go_grown
          | exact (balloc w _).drew
      · have HX : Hid (DS.made [s, t] = (none, 91)) := by simp [DS.made, ht, Hid]
        go_enter Try.func13, Try.ntmps13
        go_wp2
        go_ret2
        exact ⟨Below.refl _ _, .inl ⟨congrArg Prod.fst HX.out, ret_two rfl (val_int (congrArg Prod.snd HX.out).symm)⟩⟩
    · have HX : Hid (DS.made [s, t] = (none, 91)) := by simp [DS.made, hs, Hid]
      go_enter Try.func13, Try.ntmps13
      go_wp2
      go_ret2
      exact ⟨Below.refl _ _, .inl ⟨congrArg Prod.fst HX.out, ret_two rfl (val_int (congrArg Prod.snd HX.out).symm)⟩⟩
  · have HX : Hid (DS.made l = (none, 90)) := by
      unfold DS.made
      match l, h2 with
      | [], _ => exact rfl
      | [_], _ => exact rfl
      | [_, _], h2 => exact absurd rfl h2
      | _ :: _ :: _ :: _, _ => exact rfl
    have hb : ((l.length : Int) == 2) = false := by simp; omega
    have hb' : ((l.length : Int) != 2) = true := by simp; omega
    clear h
    go_enter Try.func13, Try.ntmps13
    go_wp2
    go_ret2
    exact ⟨Below.refl _ _, .inl ⟨congrArg Prod.fst HX.out, ret_two rfl (val_int (congrArg Prod.snd HX.out).symm)⟩⟩

set_option maxHeartbeats 1000000 in
theorem same_any (w : World) (ao bo : Option Addr) (ca cb : Nat) (l m : List (List UInt8)) (h : Texts w ao l) (k : Texts w bo m) :
    Calls Try.prog 18 #[.slice ao l.length ca, .slice bo m.length cb] w fun e w' => e = .returned (.bool (decide (l = m))) ∧ Below w.heap.size w w' := by
  have hl := h.len
  have hm := k.len
  by_cases hlm : l.length = m.length
  · have HLM := Lib.hid hlm
    have hle : m.length ≤ l.length := by omega
    have hle' : l.length ≤ m.length := by omega
    have hb : ((l.length : Int) == (m.length : Int)) = true := by simp; omega
    have hb' : ((l.length : Int) != (m.length : Int)) = false := by simp; omega
    have HA := Lib.hid h
    have HK := Lib.hid k
    clear hlm h k
    go_enter Try.func18, Try.ntmps18
    go_wp2
    clear hb hb'
    go_loopw [5] (fun i wr => ∃ j : Nat, i = .int .i64 j ∧ j ≤ l.length ∧ l.take j = m.take j ∧ Below w.heap.size w wr) (fun i _ => l.length - (intOf i).toNat)
    case atStart => exact ⟨0, rfl, by omega, by simp, Below.refl _ _⟩
    case round =>
      obtain ⟨j, rfl, hj, htk, hbl⟩ := hrel
      have HT := Lib.hid htk
      have HB := Lib.hid hbl
      clear htk hbl
      by_cases hlt : j < l.length
      · have hlt' : j < m.length := by omega
        obtain ⟨b, off, rfl, cs⟩ := HA.out.cell j l[j] (List.getElem?_eq_getElem hlt)
        obtain ⟨b', off', rfl, ct⟩ := HK.out.cell j m[j] (List.getElem?_eq_getElem hlt')
        have HS : Hid (l.take (j + 1) = l.take j ++ [l[j]]) := List.take_succ_eq_append_getElem hlt
        have HS' : Hid (m.take (j + 1) = m.take j ++ [m[j]]) := List.take_succ_eq_append_getElem hlt'
        have HE : Hid (l[j] ≠ m[j] → l ≠ m) := fun h e => h (by subst e; rfl)
        have cs' := cell_later HB.out cs
        have ct' := cell_later HB.out ct
        generalize l[j] = s at cs' HS HE
        generalize m[j] = t at ct' HS' HE
        clear cs ct
        by_cases he : s = t
        · subst he
          go_wp2
          go_quiet (fail)
          go_wp2
          go_roundw
          case rel =>
            refine ⟨j + 1, by go_num, by omega, by rw [HS.out, HS'.out, HT.out], ?_⟩
            exact ((HB.out).trans ((below_drewN (Below.refl _ _) _).mono HB.out.size))
          case measure => simp [intOf]; omega
        · have hst : (s == t) = false := by simp [he]
          have HX : Hid (decide (l = m) = false) := by simp [HE.out he, Hid]
          clear he
          go_wp2
          go_quiet (fail)
          go_wp2
          go_ret
          exact ⟨ret_bool (by rw [HX.out]), (HB.out).trans ((below_drewN (Below.refl _ _) _).mono HB.out.size)⟩
      · have HX : Hid (decide (l = m) = true) := by
          have e1 : l.take j = l := List.take_of_length_le (by omega)
          have e2 : m.take j = m := List.take_of_length_le (by omega)
          have := HT.out
          rw [e1, e2] at this
          simp [this, Hid]
        go_wp2
        go_ret
        exact ⟨ret_bool (by rw [HX.out]), HB.out⟩
  · have HX : Hid (decide (l = m) = false) := by
      have : ¬ l = m := fun e => hlm (by rw [e])
      simp [this, Hid]
    have hb : ((l.length : Int) == (m.length : Int)) = false := by simp; omega
    have hb' : ((l.length : Int) != (m.length : Int)) = true := by simp; omega
    clear h k hlm
    go_enter Try.func18, Try.ntmps18
    go_wp2
    go_ret
    exact ⟨ret_bool (by rw [HX.out]), Below.refl _ _⟩
end Go.Proofs.Ytpjpknndfhablaa
