/- Walks of the document's disk: Cut. -/
import Derived.Test.YtpjpknndfhablaaRefG
namespace Go.Proofs.Ytpjpknndfhablaa
open Go.RowKit

set_option maxHeartbeats 2000000 in
theorem rcut_any (b : Nat) (w : World) (d : DS) (ub : Option Nat) (f n : Int) (h : RefAt w b d ub) :
    Calls Try.prog 70 #[.pointer (some ⟨b, 0, none⟩), .int .i64 f, .int .i64 n] w fun e w' => e = .returned (.int .i64 (d.cut f n).2) ∧
      ∃ ub', RefAt w' b (d.cut f n).1 ub' ∧ Newer w ub ub' ∧ Touch (· = b) w w' := by
  have hok' := h.1.cut f n
  obtain ⟨hok, us, h, rfl⟩ := h
  obtain ⟨c0, c1, c2, c3, c4, c5, cf, hlt⟩ := h.cells
  have H := Lib.hid h
  clear h c0 c1 c2 c3 c4
  cases hd : d.dead
  · rw [hd] at c5
    by_cases hf : f = 0 ∨ f = 1
    · obtain ⟨q, rfl⟩ := DS.fi_of hf
      have hz : d.sizeI (DS.fi q) = (d.size q : Int) := by simp [DS.sizeI, DS.fileNo_of]
      have HZ := Lib.hid hz
      have hbl := hok.base_len' q
      have hu := hok.u_len
      have hofl : (DS.of q d.u).length ≤ d.size q := by rw [DS.size, DS.file, List.length_append]; omega
      have hsz : d.size q = (d.base q).length + (DS.of q d.u).length := by rw [DS.size, DS.file, List.length_append]
      have HSZ := Lib.hid hsz
      have hof : (DS.of q d.u ≠ []) ↔ 0 < (DS.of q d.u).length := List.length_pos_iff.symm
      clear hf hz hsz
      by_cases hc : n < 0 ∨ n > d.size q ∨ DS.of q d.u ≠ []
      · have HX : Hid (d.cut (DS.fi q) n = (d, 92)) := by unfold DS.cut; rw [if_neg (by simp [hd]), DS.fileNo_of]; simp only []; rw [if_pos hc]; exact rfl
        rw [hof] at hc
        have hc' : n < 0 ∨ (0 ≤ n ∧ (d.size q : Int) < n) ∨ (0 ≤ n ∧ n ≤ d.size q ∧ (0 : Int) < ((DS.of q d.u).length : Int)) := by omega
        clear hd hc hof
        cases q
        · simp only [DS.fi, Bool.false_eq_true, if_false] at HX HZ ⊢
          have HX' := Lib.hid HX
          have HZ' := Lib.hid HZ
          clear HX HZ
          rcases hc' with hc | ⟨hc0, hc⟩ | ⟨hc0, hc1, hc⟩
          all_goals go_enter Try.func70, Try.ntmps70
          all_goals go_wp2_with (first
            | (go_at_call 67; go_must (refine (rsize_any b w d us _ H.out hok).mono ?_; rw [HZ'.out.out]; rintro e w' ⟨rfl, rfl⟩))
            | (go_at_call 95; go_must (refine (unsafe_any b w d us false H.out hok).mono ?_; rintro e w' ⟨rfl, rfl⟩)))
          all_goals go_ret
          all_goals exact ⟨ret_int (by rw [HX'.out.out]), us.ownBlock, by rw [HX'.out.out]; exact ⟨hok, us, H.out, rfl⟩, Newer.refl _ _, Touch.refl _ _⟩
        · simp only [DS.fi, if_true] at HX HZ ⊢
          have HX' := Lib.hid HX
          have HZ' := Lib.hid HZ
          clear HX HZ
          rcases hc' with hc | ⟨hc0, hc⟩ | ⟨hc0, hc1, hc⟩
          all_goals go_enter Try.func70, Try.ntmps70
          all_goals go_wp2_with (first
            | (go_at_call 67; go_must (refine (rsize_any b w d us _ H.out hok).mono ?_; rw [HZ'.out.out]; rintro e w' ⟨rfl, rfl⟩))
            | (go_at_call 95; go_must (refine (unsafe_any b w d us true H.out hok).mono ?_; rintro e w' ⟨rfl, rfl⟩)))
          all_goals go_ret
          all_goals exact ⟨ret_int (by rw [HX'.out.out]), us.ownBlock, by rw [HX'.out.out]; exact ⟨hok, us, H.out, rfl⟩, Newer.refl _ _, Touch.refl _ _⟩
      · have hof' : DS.of q d.u = [] := by
          by_cases h : DS.of q d.u = []
          · exact h
          · exact absurd (Or.inr (Or.inr h)) hc
        have HOF : Hid (((DS.of q d.u).length : Int) = 0) := by rw [hof']; exact rfl
        have hn0 : 0 ≤ n := by omega
        have hns : n ≤ d.size q := by omega
        have hn1 : n ≤ (d.base q).length := by
          have : d.size q = (d.base q).length := by rw [DS.size, DS.file, hof', List.append_nil]
          omega
        have hkp := hok.keep
        have HC := Lib.hid hc
        have HD := Lib.hid hd
        clear hd hc hof hof' hofl
        cases q
        · simp only [DS.fi, Bool.false_eq_true, if_false] at HZ HC hok' ⊢
          have HZ' := Lib.hid HZ
          clear HZ
          cases hg : d.goes
          · have HX : Hid (d.cut 0 n = (d.tick.short false n.toNat, 0)) := by
              have : DS.fileNo 0 = some false := rfl
              unfold DS.cut; rw [if_neg (by simp [HD.out]), this]; simp only []; rw [if_neg HC.out, if_neg (by simp [hg])]; exact rfl
            have hn1' : n ≤ (d.tick.a.length : Int) := hn1
            have HG := Lib.hid hg
            clear hg
            go_enter Try.func70, Try.ntmps70
            go_wp2_with (first
              | (go_at_call 67; go_must (refine (rsize_any b w d us _ H.out hok).mono ?_; rw [HZ'.out.out]; rintro e w' ⟨rfl, rfl⟩))
              | (go_at_call 95; go_must (refine (unsafe_any b w d us false H.out hok).mono ?_; rw [HOF.out]; rintro e w' ⟨rfl, rfl⟩))
              | (go_at_call 96; go_must (refine (rgoes_any b w d us H.out hok).mono ?_; rw [HG.out]; rintro e w5 ⟨rfl, hr5, ht5⟩; have HR5 := Lib.hid hr5; have HT5 := Lib.hid ht5; obtain ⟨c0', c1', c2', c3', c4', c5'', cf', hlt'⟩ := hr5.cells; clear hr5 ht5 c2' c3' c4' c5'')))
            go_ret
            refine ⟨ret_int (by rw [HX.out]), us.ownBlock, ?_, Newer.refl _ _, HT5.out.setCell _ (fun _ => rfl)⟩
            rw [HX.out] at hok' ⊢
            refine ⟨hok', us, ⟨?_, ?_⟩, rfl⟩
            · rw [heap_set _ HR5.out.blk, bytes_extract]; simp [refBlock, DS.short]
            · exact own_touch HR5.out.own ((Touch.refl (· = b) w5).setCell _ (fun _ => rfl)) (fun k hk => fun e => HR5.out.own_block (by rw [hk, e]))
          · have HX : Hid (d.cut 0 n = (d.tick.die d.keep, 2)) := by
              have : DS.fileNo 0 = some false := rfl
              unfold DS.cut; rw [if_neg (by simp [HD.out]), this]; simp only []; rw [if_neg HC.out, if_pos hg]; exact rfl
            have HG := Lib.hid hg
            clear hg
            go_enter Try.func70, Try.ntmps70
            go_wp2_with (first
              | (go_at_call 67; go_must (refine (rsize_any b w d us _ H.out hok).mono ?_; rw [HZ'.out.out]; rintro e w' ⟨rfl, rfl⟩))
              | (go_at_call 95; go_must (refine (unsafe_any b w d us false H.out hok).mono ?_; rw [HOF.out]; rintro e w' ⟨rfl, rfl⟩))
              | (go_at_call 96; go_must (refine (rgoes_any b w d us H.out hok).mono ?_; rw [HG.out]; rintro e w5 ⟨rfl, hr5, ht5⟩; have HR5 := Lib.hid hr5; have HT5 := Lib.hid ht5; obtain ⟨_, _, _, _, c4', _, _, hlt'⟩ := hr5.cells; have x4' : w5.cell? ⟨b, 4, none⟩ = some (.int .i64 d.keep) := c4'; clear c4' hr5 ht5))
              | (go_at_call 97; go_must (refine (rdie_any b w5 d.tick us d.keep HR5.out hok.tick (by omega)).mono ?_; rintro e w2 ⟨rfl, hr2, ht2⟩; have HR2 := Lib.hid hr2; have HT2 := Lib.hid ht2; clear hr2 ht2)))
            go_ret
            refine ⟨ret_int (by rw [HX.out]), none, ?_, Newer.none _ _, Touch.trans HT5.out HT2.out (fun k _ h => h)⟩
            rw [HX.out] at hok' ⊢
            exact ⟨hok', _, HR2.out, rfl⟩
        · simp only [DS.fi, if_true] at HZ HC hok' ⊢
          have HZ' := Lib.hid HZ
          clear HZ
          cases hg : d.goes
          · have HX : Hid (d.cut 1 n = (d.tick.short true n.toNat, 0)) := by
              have : DS.fileNo 1 = some true := rfl
              unfold DS.cut; rw [if_neg (by simp [HD.out]), this]; simp only []; rw [if_neg HC.out, if_neg (by simp [hg])]; exact rfl
            have hn1' : n ≤ (d.tick.b.length : Int) := hn1
            have HG := Lib.hid hg
            clear hg
            go_enter Try.func70, Try.ntmps70
            go_wp2_with (first
              | (go_at_call 67; go_must (refine (rsize_any b w d us _ H.out hok).mono ?_; rw [HZ'.out.out]; rintro e w' ⟨rfl, rfl⟩))
              | (go_at_call 95; go_must (refine (unsafe_any b w d us true H.out hok).mono ?_; rw [HOF.out]; rintro e w' ⟨rfl, rfl⟩))
              | (go_at_call 96; go_must (refine (rgoes_any b w d us H.out hok).mono ?_; rw [HG.out]; rintro e w5 ⟨rfl, hr5, ht5⟩; have HR5 := Lib.hid hr5; have HT5 := Lib.hid ht5; obtain ⟨c0', c1', c2', c3', c4', c5'', cf', hlt'⟩ := hr5.cells; clear hr5 ht5 c2' c3' c4' c5'')))
            go_ret
            refine ⟨ret_int (by rw [HX.out]), us.ownBlock, ?_, Newer.refl _ _, HT5.out.setCell _ (fun _ => rfl)⟩
            rw [HX.out] at hok' ⊢
            refine ⟨hok', us, ⟨?_, ?_⟩, rfl⟩
            · rw [heap_set _ HR5.out.blk, bytes_extract]; simp [refBlock, DS.short]
            · exact own_touch HR5.out.own ((Touch.refl (· = b) w5).setCell _ (fun _ => rfl)) (fun k hk => fun e => HR5.out.own_block (by rw [hk, e]))
          · have HX : Hid (d.cut 1 n = (d.tick.die d.keep, 2)) := by
              have : DS.fileNo 1 = some true := rfl
              unfold DS.cut; rw [if_neg (by simp [HD.out]), this]; simp only []; rw [if_neg HC.out, if_pos hg]; exact rfl
            have HG := Lib.hid hg
            clear hg
            go_enter Try.func70, Try.ntmps70
            go_wp2_with (first
              | (go_at_call 67; go_must (refine (rsize_any b w d us _ H.out hok).mono ?_; rw [HZ'.out.out]; rintro e w' ⟨rfl, rfl⟩))
              | (go_at_call 95; go_must (refine (unsafe_any b w d us true H.out hok).mono ?_; rw [HOF.out]; rintro e w' ⟨rfl, rfl⟩))
              | (go_at_call 96; go_must (refine (rgoes_any b w d us H.out hok).mono ?_; rw [HG.out]; rintro e w5 ⟨rfl, hr5, ht5⟩; have HR5 := Lib.hid hr5; have HT5 := Lib.hid ht5; obtain ⟨_, _, _, _, c4', _, _, hlt'⟩ := hr5.cells; have x4' : w5.cell? ⟨b, 4, none⟩ = some (.int .i64 d.keep) := c4'; clear c4' hr5 ht5))
              | (go_at_call 97; go_must (refine (rdie_any b w5 d.tick us d.keep HR5.out hok.tick (by omega)).mono ?_; rintro e w2 ⟨rfl, hr2, ht2⟩; have HR2 := Lib.hid hr2; have HT2 := Lib.hid ht2; clear hr2 ht2)))
            go_ret
            refine ⟨ret_int (by rw [HX.out]), none, ?_, Newer.none _ _, Touch.trans HT5.out HT2.out (fun k _ h => h)⟩
            rw [HX.out] at hok' ⊢
            exact ⟨hok', _, HR2.out, rfl⟩
    · have hf' : (f != 0) = true ∧ (f != 1) = true := by constructor <;> (rw [bne_iff_ne]; omega)
      have h2 : (f == 0) = false ∧ (f == 1) = false := by constructor <;> (rw [beq_eq_false_iff_ne]; omega)
      obtain ⟨h0, h1⟩ := hf'
      obtain ⟨h2, h3⟩ := h2
      have HX : Hid (d.cut f n = (d, 90)) := by unfold DS.cut; rw [if_neg (by simp [hd]), DS.fileNo_none hf]; exact rfl
      clear hf hd
      go_enter Try.func70, Try.ntmps70
      go_wp2
      go_ret
      exact ⟨ret_int (by rw [HX.out]), us.ownBlock, by rw [HX.out]; exact ⟨hok, us, H.out, rfl⟩, Newer.refl _ _, Touch.refl _ _⟩
  · rw [hd] at c5
    have HX : Hid (d.cut f n = (d, 2)) := by unfold DS.cut; rw [if_pos hd]; exact rfl
    clear hd
    go_enter Try.func70, Try.ntmps70
    go_wp2
    go_ret
    exact ⟨ret_int (by rw [HX.out]), us.ownBlock, by rw [HX.out]; exact ⟨hok, us, H.out, rfl⟩, Newer.refl _ _, Touch.refl _ _⟩
end Go.Proofs.Ytpjpknndfhablaa
