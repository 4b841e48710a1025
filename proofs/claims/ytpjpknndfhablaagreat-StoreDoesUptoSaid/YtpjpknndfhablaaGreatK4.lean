/- Walks of the document's disk: New, Append; Same. The walk of the document's Append. A disk that the call itself made: the contracts once more, for laws over one disk. And small functions of the law's own. The arguments of the laws of chapter 11, opened: what all share. SHA-256 as plain Lean over words of 32 bits, HMAC and PBKDF2 by it. No program in sight. CRC-32 as plain Lean: as the program reckons it and as the document does; both are one. No program in sight. The log of chapter 10 as plain Lean: frames, files that count, what a log does to a disk. No program in sight. The store of chapter 11 as plain Lean: pairs by rising keys, changes, their bytes. No program in sight. Laws of the plain store: changes make of the first pairs the second ones; the bytes of changes are read as those changes. -/
import Derived.Deep.QuietTactic
import Derived.BigQuiet
import Derived.WalkSmall
import Derived.Laws.AppendOwnNone
import Derived.Test.YtpjpknndfhablaaGreatRows
import Derived.ProofKit
import Derived.SizedLaws
import Derived.SliceStrings
import Derived.Deep.Slices
import Derived.Deep.Fields
import Derived.ChangeSame
import GoSem.Op.String
import Derived.Test.YtpjpknndfhablaaGreatK1
import Derived.Test.YtpjpknndfhablaaGreatK3
namespace Go.Proofs.YtpjpknndfhablaaGreat
open Go.RowKit

set_option maxHeartbeats 1000000 in
theorem rnew_any (w : World) (ao : Option Addr) (cap : Nat) (l : List (List UInt8)) (h : Texts w ao l) :
  Calls Tryz.prog 8 #[.slice ao l.length cap] w fun e w' => Below w.heap.size w w' ∧ 
   ((DS.made l).1 = none ∧ e = .returned (.tuple #[.pointer none, .int .i64 (DS.made l).2]) ∨
   ∃ d c, (DS.made l).1 = some d ∧ e = .returned (.tuple #[.pointer (some ⟨c, 0, none⟩), .int .i64 0]) ∧ w.heap.size ≤ c ∧ RefAt w' c d none) := by
 have hlen := h.len
 by_cases h2 : l.length = 2
 ·obtain ⟨s, t, rfl⟩ : ∃ s t, l = [s, t] := by
   match l, h2 with
   | [s, t], _ => exact ⟨s, t, rfl⟩
  obtain ⟨b, off, rfl, cs⟩ := h.cell 0 s rfl
  obtain ⟨b', off', hbo, ct⟩ := h.cell 1 t rfl
  simp only [Option.some.injEq, Addr.mk.injEq, and_true] at hbo
  obtain ⟨rfl, rfl⟩ := hbo
  have hlt := World.block_lt_of_cell? _ _ cs
  have hlt' : b < w.heap.size := hlt
  clear h hlen h2 hlt
  simp only [Nat.add_zero] at cs
  by_cases hs : s.length ≤ 1048576
  ·by_cases ht : t.length ≤ 1048576
   ·have HX : Hid (DS.made [s, t] = (some { a := s, b := t }, 0)) := by simp [DS.made, hs, ht, Hid]
    have hok : DS.Ok { a := s, b := t } := ⟨by simpa [DS.size, DS.file, DS.base, DS.of] using hs, by simpa [DS.size, DS.file, DS.base, DS.of] using ht, by simp, by simp⟩
    go_enter Tryz.func8, Tryz.ntmps8
    go_wp2
    go_region_held3 (fun w' => w'.cell? ⟨b, off, none⟩ = some (.string ⟨s.toArray⟩) ∧ w'.cell? ⟨b, off + 1, none⟩ = some (.string ⟨t.toArray⟩)) (first | exact ⟨cs, ct⟩ | exact ⟨cell_later (bthen (Below.refl _ w).drew (balloc _ _)) cs, cell_later (bthen (Below.refl _ w).drew (balloc _ _)) ct⟩) (fail)
    go_wp2
    go_ret2
    refine ⟨?_, .inr ⟨{ a := s, b := t }, w.heap.size, by rw [HX.out], rfl, Nat.le_refl _, hok, .slice none 0 0, ⟨heap_new w _, World.ownsRow_nil _ _ _ _⟩, rfl⟩⟩
    first
     | go_grown
     | exact (balloc w _).drew
   ·have HX : Hid (DS.made [s, t] = (none, 91)) := by simp [DS.made, ht, Hid]
    go_enter Tryz.func8, Tryz.ntmps8
    go_wp2
    go_ret2
    exact ⟨Below.refl _ _, .inl ⟨congrArg Prod.fst HX.out, ret_two rfl (val_int (congrArg Prod.snd HX.out).symm)⟩⟩
  ·have HX : Hid (DS.made [s, t] = (none, 91)) := by simp [DS.made, hs, Hid]
   go_enter Tryz.func8, Tryz.ntmps8
   go_wp2
   go_ret2
   exact ⟨Below.refl _ _, .inl ⟨congrArg Prod.fst HX.out, ret_two rfl (val_int (congrArg Prod.snd HX.out).symm)⟩⟩
 ·have HX : Hid (DS.made l = (none, 90)) := by
   unfold DS.made
   match l, h2 with
   | [], _ => exact rfl
   | [_], _ => exact rfl
   | [_, _], h2 => exact absurd rfl h2
   | _ :: _ :: _ :: _, _ => exact rfl
  have hb : ((l.length : Int) == 2) = false := by simp; omega
  have hb' : ((l.length : Int) != 2) = true := by simp; omega
  clear h
  go_enter Tryz.func8, Tryz.ntmps8
  go_wp2
  go_ret2
  exact ⟨Below.refl _ _, .inl ⟨congrArg Prod.fst HX.out, ret_two rfl (val_int (congrArg Prod.snd HX.out).symm)⟩⟩

set_option maxHeartbeats 1000000 in
theorem same_any (w : World) (ao bo : Option Addr) (ca cb : Nat) (l m : List (List UInt8)) (h : Texts w ao l) (k : Texts w bo m) :
  Calls Tryz.prog 16 #[.slice ao l.length ca, .slice bo m.length cb] w fun e w' => e = .returned (.bool (decide (l = m))) ∧ Below w.heap.size w w' := by
 have hl := h.len
 have hm := k.len
 by_cases hlm : l.length = m.length
 ·have HLM := Lib.hid hlm
  have hle : m.length ≤ l.length := by omega
  have hle' : l.length ≤ m.length := by omega
  have hb : ((l.length : Int) == (m.length : Int)) = true := by simp; omega
  have hb' : ((l.length : Int) != (m.length : Int)) = false := by simp; omega
  have HA := Lib.hid h
  have HK := Lib.hid k
  clear hlm h k
  go_enter Tryz.func16, Tryz.ntmps16
  go_wp2
  clear hb hb'
  go_loopw [5] (fun i wr => ∃ j : Nat, i = .int .i64 j ∧ j ≤ l.length ∧ l.take j = m.take j ∧ Below w.heap.size w wr) (fun i _ => l.length - (intOf i).toNat)
  case atStart => exact ⟨0, rfl, by omega, by simp, Below.refl _ _⟩
  case round =>
   obtain ⟨j, rfl, hj, htk, hbl⟩ := hrel
   have HT := Lib.hid htk
   have HB := Lib.hid hbl
   clear htk hbl
   by_cases hlt : j < l.length
   ·have hlt' : j < m.length := by omega
    obtain ⟨b, off, rfl, cs⟩ := HA.out.cell j l[j] (List.getElem?_eq_getElem hlt)
    obtain ⟨b', off', rfl, ct⟩ := HK.out.cell j m[j] (List.getElem?_eq_getElem hlt')
    have HS : Hid (l.take (j + 1) = l.take j ++ [l[j]]) := List.take_succ_eq_append_getElem hlt
    have HS' : Hid (m.take (j + 1) = m.take j ++ [m[j]]) := List.take_succ_eq_append_getElem hlt'
    have HE : Hid (l[j] ≠ m[j] → l ≠ m) := fun h e => h (by subst e; rfl)
    have cs' := cell_later HB.out cs
    have ct' := cell_later HB.out ct
    generalize l[j] = s at cs' HS HE
    generalize m[j] = t at ct' HS' HE
    clear cs ct
    by_cases he : s = t
    ·subst he
     go_wp2
     go_quiet (fail)
     go_wp2
     go_roundw
     case rel =>
      refine ⟨j + 1, by go_num, by omega, by rw [HS.out, HS'.out, HT.out], ?_⟩
      exact ((HB.out).trans ((below_drewN (Below.refl _ _) _).mono HB.out.size))
     case measure => simp [intOf]; omega
    ·have hst : (s == t) = false := by simp [he]
     have HX : Hid (decide (l = m) = false) := by simp [HE.out he, Hid]
     clear he
     go_wp2
     go_quiet (fail)
     go_wp2
     go_ret
     exact ⟨ret_bool (by rw [HX.out]), (HB.out).trans ((below_drewN (Below.refl _ _) _).mono HB.out.size)⟩
   ·have HX : Hid (decide (l = m) = true) := by
     have e1 : l.take j = l := List.take_of_length_le (by omega)
     have e2 : m.take j = m := List.take_of_length_le (by omega)
     have := HT.out
     rw [e1, e2] at this
     simp [this, Hid]
    go_wp2
    go_ret
    exact ⟨ret_bool (by rw [HX.out]), HB.out⟩
 ·have HX : Hid (decide (l = m) = false) := by
   have : ¬ l = m := fun e => hlm (by rw [e])
   simp [this, Hid]
  have hb : ((l.length : Int) == (m.length : Int)) = false := by simp; omega
  have hb' : ((l.length : Int) != (m.length : Int)) = true := by simp; omega
  clear h k hlm
  go_enter Tryz.func16, Tryz.ntmps16
  go_wp2
  go_ret
  exact ⟨ret_bool (by rw [HX.out]), Below.refl _ _⟩
end Go.Proofs.YtpjpknndfhablaaGreat
namespace Go.Proofs.YtpjpknndfhablaaGreat
open Go.RowKit

theorem Tryz.uInfo : (Tryz.prog.info? 177).map (fun i => (i.zero, i.size, i.bytes)) = some (some (.agg #[.int .i64 0, .int .u8 0]), 2, 16) := by kernel_rfl

theorem owns_slice {w : World} {base e size n : Nat} {v : Value} {xs : List Value} (h : w.ownsRow base e size v n xs) : ∃ ao cap, v = .slice ao n cap := by
  rcases h.2 with ⟨rfl, rfl⟩ | ⟨g, cap, cur, rfl, _⟩
  · exact ⟨none, 0, rfl⟩
  · exact ⟨_, cap, rfl⟩
theorem owns_base {w : World} {base base' e size n : Nat} {v : Value} {xs : List Value} (h : w.ownsRow base e size v n xs) (hb : base' ≤ base) : w.ownsRow base' e size v n xs := by
  refine ⟨h.1, ?_⟩
  rcases h.2 with h0 | ⟨g, cap, cur, e1, e2, e3⟩
  · exact .inl h0
  · exact .inr ⟨g, cap, cur, e1, Nat.le_trans hb e2, e3⟩

/-- The loop of Append, from a frame on: said of what it knows. -/
structure LayRel (w wr : World) (u : List (Bool × UInt8)) (q : Bool) (s : List UInt8) (j : Nat) (v : Value) : Prop where
  own : wr.ownsRow w.heap.size 177 2 v (u.length + j) (uCells (u ++ (s.take j).map (q, ·)))
  below : Below w.heap.size w wr
theorem LayRel.step {w wr : World} {u : List (Bool × UInt8)} {q : Bool} {s : List UInt8} {j : Nat} {v : Value} (h : LayRel w wr u q s j v) {x : UInt8} (hx : s[j]? = some x) {w0 w1 : World} {v' : Value} (h0 : Below wr.heap.size wr w0)
    (ho : w1.ownsRow w.heap.size 177 2 v' (u.length + j + 1) (uCells (u ++ (s.take j).map (q, ·)) ++ [.int .i64 (DS.fi q), .int .u8 x.toNat]))
    (hg : w0.grownBy w1 v.ownBlock) : LayRel w w1 u q s (j + 1) v' := by
  have e1 : u ++ (s.take (j + 1)).map (q, ·) = (u ++ (s.take j).map (q, ·)) ++ [(q, x)] := by rw [List.take_add_one, hx]; simp
  have ht := Touch.trans (Touch.of_below (S := fun k => v.ownBlock = some k) h0) (touch_of_grown hg) (fun _ _ h => h)
  refine ⟨?_, ?_⟩
  · rw [e1, uCells_append]; exact ho
  · exact (Touch.trans (Touch.of_below (S := fun k => v.ownBlock = some k) h.below) ht (fun _ _ h => h)).below (Nat.le_refl _) (fun k hk hs => by have := (h.own.lt k hs).1; omega)

set_option maxHeartbeats 2000000 in
theorem rappend_any (b : Nat) (w : World) (d : DS) (ub : Option Nat) (f : Int) (s : List UInt8) (h : RefAt w b d ub) (hs : s.length ≤ 9223372036854775807 - 1048576) :
    Calls Tryz.prog 90 #[.pointer (some ⟨b, 0, none⟩), .int .i64 f, .string ⟨s.toArray⟩] w fun e w' => e = .returned (.int .i64 (d.append f s).2) ∧
      ∃ ub', RefAt w' b (d.append f s).1 ub' ∧ Newer w ub ub' ∧ Touch (· = b) w w' := by
  have hok' := h.1.append f s
  obtain ⟨hok, us, h, rfl⟩ := h
  obtain ⟨c0, c1, c2, c3, c4, c5, cf, hlt⟩ := h.cells
  have H := Lib.hid h
  have HS := Lib.hid hs
  clear h c0 c1 c2 c3 c4
  cases hd : d.dead
  · rw [hd] at c5
    by_cases hf : f = 0 ∨ f = 1
    · obtain ⟨q, rfl⟩ := DS.fi_of hf
      have hz : d.sizeI (DS.fi q) = (d.size q : Int) := by simp [DS.sizeI, DS.fileNo_of]
      have HZ := Lib.hid hz
      have hbl := hok.base_len' q
      have hu := hok.u_len
      clear hf hz
      cases q
      · simp only [DS.fi, Bool.false_eq_true, if_false] at HZ hok' ⊢
        have HZ' : Hid (d.sizeI 0 = (d.size false : Int)) := HZ
        have hno : DS.fileNo 0 = some false := rfl
        clear HZ
        by_cases hc : d.size false + s.length > 1048576
        · have HX : Hid (d.append 0 s = (d, 91)) := by unfold DS.append; rw [if_neg (by simp [hd]), hno]; simp only []; rw [if_pos hc]; exact rfl
          have hs2 : (s.length : Int) ≤ 9223372036853727231 := by have := HS.out; omega
          have hci : (1048576 : Int) < (d.size false : Int) + (s.length : Int) := by omega
          clear hd hc hs hno
          go_enter Tryz.func90, Tryz.ntmps90
          go_wp2_with (first
            | (go_at_call 89; go_must (refine (rsize_any b w d us _ H.out hok).mono ?_; rw [HZ'.out]; rintro e w' ⟨rfl, rfl⟩)))
          go_ret
          exact ⟨ret_int (by rw [HX.out]), us.ownBlock, by rw [HX.out]; exact ⟨hok, us, H.out, rfl⟩, Newer.refl _ _, Touch.refl _ _⟩
        · have hkp := hok.keep
          have HC := Lib.hid hc
          have HD := Lib.hid hd
          have hci : (d.size false : Int) + (s.length : Int) ≤ 1048576 := by omega
          have hsl : s.length ≤ 1048576 := by omega
          clear hd hc hs
          cases hg : d.goes
          all_goals have HG := Lib.hid hg
          all_goals clear hg
          all_goals rcases H.out.own.2 with ⟨hus, h0⟩ | ⟨g, cap, cur, hus, _, hgg, hnc, hcm, hcs, ht⟩
          all_goals (try have H0 := Lib.hid h0)
          all_goals (try clear h0)
          all_goals have HUS := Lib.hid hus
          all_goals clear hus
          all_goals (try clear hgg hnc hcm hcs ht)
          all_goals go_enter Tryz.func90, Tryz.ntmps90
          all_goals go_wp2_with (first
            | (go_at_call 89; go_must (refine (rsize_any b w d _ _ H.out hok).mono ?_; rw [HZ'.out]; rintro e w' ⟨rfl, rfl⟩))
            | (go_at_call 143; go_must (refine (rgoes_any b w d _ H.out hok).mono ?_; rw [HG.out]; rintro e w5 ⟨rfl, hr5, ht5⟩; have HR5 := Lib.hid hr5; have HT5 := Lib.hid ht5; obtain ⟨c0', c1', c2', c3', c4', c5'', cf', hlt'⟩ := hr5.cells; rw [HUS.out] at c2'; clear hr5 ht5 c0' c1' c3' c5''))
            | (at_builtin; (refine wpList_append_own2 _ rfl (.tmp 29) (.tmp 33) 90 rfl w5.heap.size 177 2 16 _ Tryz.uInfo Tryz.underlying90 rfl (by decide) _ 0 [] rfl (World.ownsRow_made w5 #[] 0 (Nat.le_refl _) (by decide) rfl) ⟨g, 0, none⟩ d.u.length cap (uCells d.u) rfl (uCells_length _) (fun j u hj => (World.cell?_of_block (heap_alloc _ (by rw [addr_block]; exact (HR5.out.own.lt g (by rw [HUS.out]; rfl)).2))).trans (HR5.out.own.cells (g := g) (by rw [HUS.out]; rfl) j u hj)) (uCells_one _) (by unfold maxLen; omega) (by omega) (by simp) ?_; intro v0 w6 ho hgr hb; have HL0 : Hid (LayRel w5 w6 d.u false s 0 v0) := ⟨by simpa using ho, (Touch.trans (Touch.of_below (S := fun _ => False) (balloc w5 _)) (touch_of_grown hgr) (fun k hk h => by have : w5.heap.size = k := Option.some.inj h; omega)).below (Nat.le_refl _) (fun _ _ h => h)⟩; clear ho hgr hb)))
          all_goals go_loopw [8, 9] (fun v i wr => ∃ j : Nat, i = .int .i64 j ∧ j ≤ s.length ∧ LayRel w5 wr d.u false s j v) (fun _ i _ => s.length - (intOf i).toNat)
          all_goals first
            | (case atStart =>
                first
                  | exact ⟨0, rfl, Nat.zero_le _, HL0.out⟩
                  | (have hu0 : d.u = [] := List.eq_nil_of_length_eq_zero H0.out
                     exact ⟨0, rfl, Nat.zero_le _, by rw [hu0]; exact World.ownsRow_made w5 #[] 0 (Nat.le_refl _) (by decide) rfl, balloc w5 _⟩))
            | skip
          all_goals
            obtain ⟨j, rfl, hj, hlay⟩ := hrel
            have HL := Lib.hid hlay
            have hsz := hlay.below.size
            clear hlay
            by_cases hlt : j < s.length
            · obtain ⟨x, hx⟩ : ∃ x, s[j]? = some x := ⟨_, List.getElem?_eq_getElem hlt⟩
              have hx' : s[j] = x := by rw [List.getElem?_eq_getElem hlt] at hx; exact Option.some.inj hx
              have HXX := Lib.hid hx
              have HXB := Lib.hid hx'
              clear hx hx'
              go_wp2_with (first | (at_builtin; go_must (refine wpList_append_own2 _ rfl (.tmp 41) (.tmp 47) 90 rfl w5.heap.size 177 2 16 _ Tryz.uInfo Tryz.underlying90 rfl (by decide) _ _ _ rfl (own_touch HL.out.own (Touch.of_below (S := fun _ => False) (balloc wr _)) (fun _ _ h => h)) ⟨wr.heap.size, 0, none⟩ 1 1 [.int .i64 0, .int .u8 x.toNat] rfl rfl (fun i u hi => by
                  match i, hi with
                  | 0, hi => simp at hi; subst hi; exact cell_of (heap_new wr _) rfl
                  | 1, hi => simp at hi; subst hi; exact cell_of (heap_new wr _) (congrArg (fun y : UInt8 => some (Value.int .u8 (y.toNat : Int))) HXB.out)) (by intro u hu; simp at hu; rcases hu with rfl | rfl <;> rfl) (by unfold maxLen; omega) (by omega) (by simp; omega) ?_; intro v' w1 ho hgr hb; have HS' : Hid (LayRel w5 w1 d.u false s (j + 1) v') := HL.out.step HXX.out (balloc wr _) ho hgr; clear ho hgr hb)))
              go_roundw
              case rel => exact ⟨j + 1, by go_num, by omega, HS'.out⟩
              case measure => simp [intOf]; omega
            · obtain rfl : j = s.length := by omega
              obtain ⟨vo, vc, rfl⟩ := owns_slice HL.out.own
              have h6 := HR5.out.below HL.out.below
              obtain ⟨_, _, x2, _, x4, _, xf, xl⟩ := h6.cells
              have HL6 := Lib.hid h6
              clear h6 c2' c4'
              have hlay7 : RefU (wr.setCell ⟨b, 2, none⟩ (.slice vo (d.u.length + s.length) vc)) b (d.tick.lay false s) (.slice vo (d.u.length + s.length) vc) := by
                have hb7 := heap_set (i := 2) (.slice vo (d.u.length + s.length) vc) HL6.out.blk
                refine ⟨by rw [hb7]; simp [refBlock, DS.lay, DS.tick], ?_⟩
                have h1 := owns_base HL.out.own (Nat.zero_le _)
                rw [List.take_length] at h1
                have h2 := own_touch h1 ((Touch.refl (· = b) wr).setCell (a := ⟨b, 2, none⟩) (.slice vo (d.u.length + s.length) vc) (fun _ => rfl)) (fun k hk e => by
                  have h3 := (HL.out.own.lt k hk).1
                  have h4 := HT5.out.size
                  have h5 := HR5.out.lt
                  omega)
                have e : (d.tick.lay false s).u.length = d.u.length + s.length := by simp [DS.lay, DS.tick]
                rw [e]; exact h2
              have HL7 := Lib.hid hlay7
              have ht7 : Hid (Touch (· = b) w (wr.setCell ⟨b, 2, none⟩ (.slice vo (d.u.length + s.length) vc))) := Touch.setCell (Touch.trans HT5.out (Touch.of_below (S := fun _ => False) HL.out.below) (fun _ _ h => h.elim)) _ (fun _ => rfl)
              have hn7 : Hid (Newer w us.ownBlock (Value.ownBlock (.slice vo (d.u.length + s.length) vc))) := fun k hk => .inr (by have := (HL.out.own.lt k hk).1; have := HT5.out.size; omega)
              clear hlay7
              first
                | (have HX : Hid (d.append 0 s = (d.tick.lay false s, 0)) := by unfold DS.append; rw [if_neg (by simp [HD.out]), hno]; simp only []; rw [if_neg HC.out, if_neg (by simp [HG.out])]; exact rfl
                   go_wp2
                   go_ret
                   refine ⟨ret_int (by rw [HX.out]), _, ?_, hn7.out, ht7.out⟩
                   rw [HX.out] at hok' ⊢
                   exact ⟨hok', _, HL7.out, rfl⟩)
                | (have HX : Hid (d.append 0 s = ((d.tick.lay false s).die d.keep, 2)) := by unfold DS.append; rw [if_neg (by simp [HD.out]), hno]; simp only []; rw [if_neg HC.out, if_pos HG.out]; exact rfl
                   have hok7 : (d.tick.lay false s).Ok := hok.tick.lay false s (by rw [DS.size_tick]; have := HC.out; omega)
                   go_wp2_with (first | (go_at_call 132; go_must (refine (rdie_any b _ (d.tick.lay false s) _ d.keep HL7.out hok7 (by omega)).mono ?_; rintro e w8 ⟨rfl, hr8, ht8⟩; have HR8 := Lib.hid hr8; have HT8 := Lib.hid ht8; clear hr8 ht8)))
                   go_ret
                   refine ⟨ret_int (by rw [HX.out]), none, ?_, Newer.none _ _, Touch.trans ht7.out HT8.out (fun _ _ h => h)⟩
                   rw [HX.out] at hok' ⊢
                   exact ⟨hok', _, HR8.out, rfl⟩)
      · simp only [DS.fi, if_true] at HZ hok' ⊢
        have HZ' : Hid (d.sizeI 1 = (d.size true : Int)) := HZ
        have hno : DS.fileNo 1 = some true := rfl
        clear HZ
        by_cases hc : d.size true + s.length > 1048576
        · have HX : Hid (d.append 1 s = (d, 91)) := by unfold DS.append; rw [if_neg (by simp [hd]), hno]; simp only []; rw [if_pos hc]; exact rfl
          have hs2 : (s.length : Int) ≤ 9223372036853727231 := by have := HS.out; omega
          have hci : (1048576 : Int) < (d.size true : Int) + (s.length : Int) := by omega
          clear hd hc hs hno
          go_enter Tryz.func90, Tryz.ntmps90
          go_wp2_with (first
            | (go_at_call 89; go_must (refine (rsize_any b w d us _ H.out hok).mono ?_; rw [HZ'.out]; rintro e w' ⟨rfl, rfl⟩)))
          go_ret
          exact ⟨ret_int (by rw [HX.out]), us.ownBlock, by rw [HX.out]; exact ⟨hok, us, H.out, rfl⟩, Newer.refl _ _, Touch.refl _ _⟩
        · have hkp := hok.keep
          have HC := Lib.hid hc
          have HD := Lib.hid hd
          have hci : (d.size true : Int) + (s.length : Int) ≤ 1048576 := by omega
          have hsl : s.length ≤ 1048576 := by omega
          clear hd hc hs
          cases hg : d.goes
          all_goals have HG := Lib.hid hg
          all_goals clear hg
          all_goals rcases H.out.own.2 with ⟨hus, h0⟩ | ⟨g, cap, cur, hus, _, hgg, hnc, hcm, hcs, ht⟩
          all_goals (try have H0 := Lib.hid h0)
          all_goals (try clear h0)
          all_goals have HUS := Lib.hid hus
          all_goals clear hus
          all_goals (try clear hgg hnc hcm hcs ht)
          all_goals go_enter Tryz.func90, Tryz.ntmps90
          all_goals go_wp2_with (first
            | (go_at_call 89; go_must (refine (rsize_any b w d _ _ H.out hok).mono ?_; rw [HZ'.out]; rintro e w' ⟨rfl, rfl⟩))
            | (go_at_call 143; go_must (refine (rgoes_any b w d _ H.out hok).mono ?_; rw [HG.out]; rintro e w5 ⟨rfl, hr5, ht5⟩; have HR5 := Lib.hid hr5; have HT5 := Lib.hid ht5; obtain ⟨c0', c1', c2', c3', c4', c5'', cf', hlt'⟩ := hr5.cells; rw [HUS.out] at c2'; clear hr5 ht5 c0' c1' c3' c5''))
            | (at_builtin; (refine wpList_append_own2 _ rfl (.tmp 29) (.tmp 33) 90 rfl w5.heap.size 177 2 16 _ Tryz.uInfo Tryz.underlying90 rfl (by decide) _ 0 [] rfl (World.ownsRow_made w5 #[] 0 (Nat.le_refl _) (by decide) rfl) ⟨g, 0, none⟩ d.u.length cap (uCells d.u) rfl (uCells_length _) (fun j u hj => (World.cell?_of_block (heap_alloc _ (by rw [addr_block]; exact (HR5.out.own.lt g (by rw [HUS.out]; rfl)).2))).trans (HR5.out.own.cells (g := g) (by rw [HUS.out]; rfl) j u hj)) (uCells_one _) (by unfold maxLen; omega) (by omega) (by simp) ?_; intro v0 w6 ho hgr hb; have HL0 : Hid (LayRel w5 w6 d.u true s 0 v0) := ⟨by simpa using ho, (Touch.trans (Touch.of_below (S := fun _ => False) (balloc w5 _)) (touch_of_grown hgr) (fun k hk h => by have : w5.heap.size = k := Option.some.inj h; omega)).below (Nat.le_refl _) (fun _ _ h => h)⟩; clear ho hgr hb)))
          all_goals go_loopw [8, 9] (fun v i wr => ∃ j : Nat, i = .int .i64 j ∧ j ≤ s.length ∧ LayRel w5 wr d.u true s j v) (fun _ i _ => s.length - (intOf i).toNat)
          all_goals first
            | (case atStart =>
                first
                  | exact ⟨0, rfl, Nat.zero_le _, HL0.out⟩
                  | (have hu0 : d.u = [] := List.eq_nil_of_length_eq_zero H0.out
                     exact ⟨0, rfl, Nat.zero_le _, by rw [hu0]; exact World.ownsRow_made w5 #[] 0 (Nat.le_refl _) (by decide) rfl, balloc w5 _⟩))
            | skip
          all_goals
            obtain ⟨j, rfl, hj, hlay⟩ := hrel
            have HL := Lib.hid hlay
            have hsz := hlay.below.size
            clear hlay
            by_cases hlt : j < s.length
            · obtain ⟨x, hx⟩ : ∃ x, s[j]? = some x := ⟨_, List.getElem?_eq_getElem hlt⟩
              have hx' : s[j] = x := by rw [List.getElem?_eq_getElem hlt] at hx; exact Option.some.inj hx
              have HXX := Lib.hid hx
              have HXB := Lib.hid hx'
              clear hx hx'
              go_wp2_with (first | (at_builtin; go_must (refine wpList_append_own2 _ rfl (.tmp 41) (.tmp 47) 90 rfl w5.heap.size 177 2 16 _ Tryz.uInfo Tryz.underlying90 rfl (by decide) _ _ _ rfl (own_touch HL.out.own (Touch.of_below (S := fun _ => False) (balloc wr _)) (fun _ _ h => h)) ⟨wr.heap.size, 0, none⟩ 1 1 [.int .i64 1, .int .u8 x.toNat] rfl rfl (fun i u hi => by
                  match i, hi with
                  | 0, hi => simp at hi; subst hi; exact cell_of (heap_new wr _) rfl
                  | 1, hi => simp at hi; subst hi; exact cell_of (heap_new wr _) (congrArg (fun y : UInt8 => some (Value.int .u8 (y.toNat : Int))) HXB.out)) (by intro u hu; simp at hu; rcases hu with rfl | rfl <;> rfl) (by unfold maxLen; omega) (by omega) (by simp; omega) ?_; intro v' w1 ho hgr hb; have HS' : Hid (LayRel w5 w1 d.u true s (j + 1) v') := HL.out.step HXX.out (balloc wr _) ho hgr; clear ho hgr hb)))
              go_roundw
              case rel => exact ⟨j + 1, by go_num, by omega, HS'.out⟩
              case measure => simp [intOf]; omega
            · obtain rfl : j = s.length := by omega
              obtain ⟨vo, vc, rfl⟩ := owns_slice HL.out.own
              have h6 := HR5.out.below HL.out.below
              obtain ⟨_, _, x2, _, x4, _, xf, xl⟩ := h6.cells
              have HL6 := Lib.hid h6
              clear h6 c2' c4'
              have hlay7 : RefU (wr.setCell ⟨b, 2, none⟩ (.slice vo (d.u.length + s.length) vc)) b (d.tick.lay true s) (.slice vo (d.u.length + s.length) vc) := by
                have hb7 := heap_set (i := 2) (.slice vo (d.u.length + s.length) vc) HL6.out.blk
                refine ⟨by rw [hb7]; simp [refBlock, DS.lay, DS.tick], ?_⟩
                have h1 := owns_base HL.out.own (Nat.zero_le _)
                rw [List.take_length] at h1
                have h2 := own_touch h1 ((Touch.refl (· = b) wr).setCell (a := ⟨b, 2, none⟩) (.slice vo (d.u.length + s.length) vc) (fun _ => rfl)) (fun k hk e => by
                  have h3 := (HL.out.own.lt k hk).1
                  have h4 := HT5.out.size
                  have h5 := HR5.out.lt
                  omega)
                have e : (d.tick.lay true s).u.length = d.u.length + s.length := by simp [DS.lay, DS.tick]
                rw [e]; exact h2
              have HL7 := Lib.hid hlay7
              have ht7 : Hid (Touch (· = b) w (wr.setCell ⟨b, 2, none⟩ (.slice vo (d.u.length + s.length) vc))) := Touch.setCell (Touch.trans HT5.out (Touch.of_below (S := fun _ => False) HL.out.below) (fun _ _ h => h.elim)) _ (fun _ => rfl)
              have hn7 : Hid (Newer w us.ownBlock (Value.ownBlock (.slice vo (d.u.length + s.length) vc))) := fun k hk => .inr (by have := (HL.out.own.lt k hk).1; have := HT5.out.size; omega)
              clear hlay7
              first
                | (have HX : Hid (d.append 1 s = (d.tick.lay true s, 0)) := by unfold DS.append; rw [if_neg (by simp [HD.out]), hno]; simp only []; rw [if_neg HC.out, if_neg (by simp [HG.out])]; exact rfl
                   go_wp2
                   go_ret
                   refine ⟨ret_int (by rw [HX.out]), _, ?_, hn7.out, ht7.out⟩
                   rw [HX.out] at hok' ⊢
                   exact ⟨hok', _, HL7.out, rfl⟩)
                | (have HX : Hid (d.append 1 s = ((d.tick.lay true s).die d.keep, 2)) := by unfold DS.append; rw [if_neg (by simp [HD.out]), hno]; simp only []; rw [if_neg HC.out, if_pos HG.out]; exact rfl
                   have hok7 : (d.tick.lay true s).Ok := hok.tick.lay true s (by rw [DS.size_tick]; have := HC.out; omega)
                   go_wp2_with (first | (go_at_call 132; go_must (refine (rdie_any b _ (d.tick.lay true s) _ d.keep HL7.out hok7 (by omega)).mono ?_; rintro e w8 ⟨rfl, hr8, ht8⟩; have HR8 := Lib.hid hr8; have HT8 := Lib.hid ht8; clear hr8 ht8)))
                   go_ret
                   refine ⟨ret_int (by rw [HX.out]), none, ?_, Newer.none _ _, Touch.trans ht7.out HT8.out (fun _ _ h => h)⟩
                   rw [HX.out] at hok' ⊢
                   exact ⟨hok', _, HR8.out, rfl⟩)
    · have hf' : (f != 0) = true ∧ (f != 1) = true := by constructor <;> (rw [bne_iff_ne]; omega)
      have h2 : (f == 0) = false ∧ (f == 1) = false := by constructor <;> (rw [beq_eq_false_iff_ne]; omega)
      obtain ⟨h0, h1⟩ := hf'
      obtain ⟨h2, h3⟩ := h2
      have HX : Hid (d.append f s = (d, 90)) := by unfold DS.append; rw [if_neg (by simp [hd]), DS.fileNo_none hf]; exact rfl
      clear hf hd hs
      go_enter Tryz.func90, Tryz.ntmps90
      go_wp2
      go_ret
      exact ⟨ret_int (by rw [HX.out]), us.ownBlock, by rw [HX.out]; exact ⟨hok, us, H.out, rfl⟩, Newer.refl _ _, Touch.refl _ _⟩
  · rw [hd] at c5
    have HX : Hid (d.append f s = (d, 2)) := by unfold DS.append; rw [if_pos hd]; exact rfl
    clear hd hs
    go_enter Tryz.func90, Tryz.ntmps90
    go_wp2
    go_ret
    exact ⟨ret_int (by rw [HX.out]), us.ownBlock, by rw [HX.out]; exact ⟨hok, us, H.out, rfl⟩, Newer.refl _ _, Touch.refl _ _⟩
end Go.Proofs.YtpjpknndfhablaaGreat
namespace Go.Proofs.YtpjpknndfhablaaGreat
open Go.RowKit

/-- In w block c is a disk in state d, all its blocks made since w0; nothing older has turned. -/
def DiskNew (w0 w : World) (c : Nat) (d : DS) (m : Nat) : Prop := w0.heap.size ≤ c ∧ Below w0.heap.size w0 w ∧ ∃ rb, DiskAt w c d m rb ∧ ∀ k, rb = some k → w0.heap.size ≤ k

theorem DiskNew.ok {w0 w : World} {c : Nat} {d : DS} {m : Nat} (h : DiskNew w0 w c d m) : d.Ok := by obtain ⟨_, _, rb, h, _⟩ := h; exact h.1
theorem DiskNew.size {w0 w : World} {c : Nat} {d : DS} {m : Nat} (h : DiskNew w0 w c d m) : w0.heap.size ≤ w.heap.size := h.2.1.size
theorem DiskNew.turn {w0 w w' : World} {c : Nat} {d' : DS} {m' : Nat} {rb rb' : Option Nat} (hc : w0.heap.size ≤ c) (hb : Below w0.heap.size w0 w) (hr : ∀ k, rb = some k → w0.heap.size ≤ k)
  (h' : DiskAt w' c d' m' rb') (hn : Newer w rb rb') (ht : Touch (own2 c rb) w w') : DiskNew w0 w' c d' m' := by
 refine ⟨hc, hb.trans (ht.below hb.size (fun k hk ho => ?_)), rb', h', fun k hk => ?_⟩
 ·rcases ho with rfl | ho
  ·omega
  ·have := hr k ho; omega
 ·rcases hn k hk with h | h
  ·exact hr k h
  ·exact Nat.le_trans hb.size h
theorem DiskNew.below {w0 w w' : World} {c : Nat} {d : DS} {m : Nat} (h : DiskNew w0 w c d m) (hb : Below w.heap.size w w') : DiskNew w0 w' c d m := by
 obtain ⟨hc, hb0, rb, h, hr⟩ := h
 exact ⟨hc, hb0.trans (hb.mono hb0.size), rb, h.below hb, hr⟩
theorem DiskNew.mono {w0 w : World} {c : Nat} {d : DS} {m n : Nat} (h : DiskNew w0 w c d m) (hmn : m ≤ n) : DiskNew w0 w c d n := by
 obtain ⟨hc, hb0, rb, h, hr⟩ := h
 exact ⟨hc, hb0, rb, h.mono hmn, hr⟩
section
variable {w0 w : World} {c : Nat} {d : DS} {m : Nat} (h : DiskNew w0 w c d m)
include h
end

/-- Whatever is no disk's lies as it lay. -/
def NotDisk (o : Obj) : Prop := ∀ c f, o ≠ .cells c 89 f ∧ o ≠ .cells c 106 f
def KeepsND (w w' : World) : Prop := ∀ (g : Nat) (o : Obj), w.heap[g]? = some o → NotDisk o → w'.heap[g]? = some o
theorem KeepsND.below {w w' : World} (h : Below w.heap.size w w') : KeepsND w w' := fun _ _ hg _ => stays hg h
theorem KeepsND.trans {w w1 w2 : World} (h : KeepsND w w1) (h' : KeepsND w1 w2) : KeepsND w w2 := fun g o hg hn => h' g o (h g o hg hn) hn
theorem Two.keeps {w w' : World} {g : Nat} {s t : List UInt8} (h : Two w g s t) (hk : KeepsND w w') : Two w' g s t := by
 obtain ⟨cur, hg, h0, h1⟩ := h
 exact ⟨cur, hk g _ hg (fun c f => ⟨by simp, by simp⟩), h0, h1⟩
section
variable {w0 w : World} {c : Nat} {d : DS} {m : Nat} (h : DiskNew w0 w c d m)
include h
end

theorem tmod_neg {n m : Int} (hm : 0 < m) (h : n.tmod m < 0) : n.tmod m + m = n % m := by
 have := Int.tmod_eq_emod (a := n) (b := m)
 have h1 := Int.emod_nonneg n (show m ≠ 0 by omega)
 have h2 := Int.emod_lt_of_pos n hm
 split at this <;> omega
theorem tmod_pos {n m : Int} (hm : 0 < m) (h : 0 ≤ n.tmod m) : n.tmod m = n % m := by
 have := Int.tmod_eq_emod (a := n) (b := m)
 have h1 := Int.emod_nonneg n (show m ≠ 0 by omega)
 have h2 := Int.emod_lt_of_pos n hm
 split at this <;> omega
theorem tmod_lo {n m : Int} (hm : 0 < m) : -m < n.tmod m ∧ n.tmod m < m := by
 have := Int.tmod_eq_emod (a := n) (b := m)
 have h1 := Int.emod_nonneg n (show m ≠ 0 by omega)
 have h2 := Int.emod_lt_of_pos n hm
 split at this <;> omega

end Go.Proofs.YtpjpknndfhablaaGreat
namespace Go.Proofs.YtpjpknndfhablaaGreat
open Go.ChangeShapes Go.WideShapes Go.ChangeAt Go.RowKit Go.Deep
theorem Tryz.own : ownKnob Tryz.prog.godebug = none := by kernel_rfl
theorem Tryz.laidOut : laidOutB Tryz.prog = true := by kernel_rfl
section
variable {H : Type} {enc : TypeId × Value → H} {P : Program} {w : World} {base : Nat} {spare : Nat → Bool} {held : Bool}
theorem open_slice_fields {t e : TypeId} {fs : Array Field} {fuel : Nat} {cs : List Value} {x : DataW H × List MemPlace} (ht : P.underlying t = some (.slice e)) (he : P.underlying e = some (.struct fs))
  (hone : oneCellFields P fs = true) (hC : P.cellsOf e = fs.size) (h : DataW.trod enc P w base spare held fuel t cs = some x) :
  (cs = [.slice none 0 0] ∧ x = (.nil, [])) ∨
  ∃ (a : Addr) (len cap m : Nat) (D : Nat → DataW H) (Pl : Nat → List MemPlace), cs = [.slice (some a) len cap] ∧ base ≤ a.block ∧ len ≤ cap ∧ cap ≤ maxLen ∧ m = (if spare a.block then cap else len) ∧
   x = (.slice ((List.range len).map D) ((List.range (m - len)).map fun j => D (len + j)), MemPlace.row a (m * fs.size) ++ (List.range m).flatMap Pl) ∧
   ∀ i, i < m → ∃ (ys : List (DataW H × List MemPlace)) (n : Nat), D i = .agg (ys.map (·.1)) ∧ Pl i = ys.flatMap (·.2) ∧ ys.length = fs.size ∧
    ∀ (j : Nat) (f : Field), fs[j]? = some f → ∃ (v : Value) (y : DataW H × List MemPlace), w.cell? (a.add (i * fs.size + j)) = some v ∧ ys[j]? = some y ∧ DataW.trod enc P w base spare held n f.type [v] = some y := by
 rcases open_slice ht h with h0 | ⟨a, len, cap, m, n, D, Pl, hcs, hb, hl, hm, hmm, hx, hi⟩
 ·exact .inl h0
 ·refine .inr ⟨a, len, cap, m, D, Pl, hcs, hb, hl, hm, hmm, by rw [hC] at hx; exact hx, fun i him => ?_⟩
  obtain ⟨cs', hc, ht'⟩ := hi i him
  rw [hC] at hc
  obtain ⟨ys, n', hn', hy, hlen, hyl, hf⟩ := DataW.trod_struct he ht'
  obtain ⟨_, hcl, hat⟩ := World.cells?_some hc
  simp only [Prod.mk.injEq] at hy
  refine ⟨ys, n', hy.1, hy.2, hyl, fun j f hj => ?_⟩
  obtain ⟨ho, hk⟩ := hone_of hone j f hj
  have hjl : j < fs.size := (Array.getElem?_eq_some_iff.1 hj).1
  have hcell := hat j hjl
  have hv : cs'[j]? = some (cs'[j]'(by omega)) := List.getElem?_eq_getElem (by omega)
  have h1 := hf j f hj
  rw [ho, hk] at h1
  have hone' : (cs'.drop j).take 1 = [cs'[j]'(by omega)] := by
   rw [List.drop_eq_getElem_cons (by omega)]
   rfl
  rw [hone'] at h1
  have hys : ys[j]? = some (ys[j]'(by omega)) := List.getElem?_eq_getElem (by omega)
  refine ⟨_, _, ?_, hys, h1.trans hys⟩
  rw [← Go.Deep.add_add, hcell, hv]
end

/-- A list out of what holds at each place. -/
theorem list_of {T : Type} {Q : Nat → T → Prop} : ∀ (n : Nat), (∀ i, i < n → ∃ o, Q i o) → ∃ l : List T, l.length = n ∧ ∀ i o, l[i]? = some o → Q i o
 | 0, _ => ⟨[], rfl, by simp⟩
 | n + 1, h => by
  obtain ⟨l, hl, hq⟩ := list_of n (fun i hi => h i (by omega))
  obtain ⟨o, ho⟩ := h n (by omega)
  refine ⟨l ++ [o], by simp [hl], fun i x hx => ?_⟩
  rw [List.getElem?_append] at hx
  split at hx
  ·exact hq i x hx
  ·have hi : i = n := by
    by_cases e : i - l.length = 0
    ·omega
    ·exfalso
     rw [List.getElem?_eq_none (by simp; omega)] at hx
     cases hx
   subst hi
   rw [hl, Nat.sub_self] at hx
   simp at hx
   subst hx
   exact ho
theorem weightsAll_mem {H : Type} {P : Program} {e : TypeId} {x : DataW H} : ∀ {elems : List (DataW H)}, x ∈ elems → ∀ n ∈ x.weights P e, n ∈ DataW.weightsAll P e elems
 | d :: r, h, n, hn => by
  simp only [DataW.weightsAll, List.mem_append]
  rcases List.mem_cons.1 h with rfl | h
  ·exact Or.inl hn
  ·exact Or.inr (weightsAll_mem h n hn)
theorem plainSpot {w : World} {a : Addr} {v : Value} (h : w.cell? (a.add 0) = some v) : ∃ b off, a = ⟨b, off, none⟩ := by
 obtain ⟨b, off, s⟩ := a
 have hs : s = none := by simpa [Addr.add] using World.cell?_spot h
 subst hs
 exact ⟨b, off, rfl⟩
theorem int_fits {n : Int} (h : (Lit.int .i64 n).wf = true) : -9223372036854775808 ≤ n ∧ n ≤ 9223372036854775807 := by
 have h1 : IntKind.i64.min = -9223372036854775808 := rfl
 have h2 : IntKind.i64.max = 9223372036854775807 := rfl
 simp only [Lit.wf, Bool.and_eq_true, decide_eq_true_eq] at h
 omega
theorem cell_lt {w : World} {b o : Nat} {v : Value} (h : w.cell? ⟨b, o, none⟩ = some v) : b < w.heap.size := by
 apply Classical.byContradiction
 intro hn
 have : w.heap[b]? = none := Array.getElem?_eq_none (by omega)
 simp [World.cell?, this] at h
end Go.Proofs.YtpjpknndfhablaaGreat
namespace Go.Proofs.YtpjpknndfhablaaGreat

abbrev U32 := BitVec 32
namespace Sha
def ror (x : U32) (n : Nat) : U32 := x >>> n ||| x <<< (32 - n)
def s0 (x : U32) : U32 := ror x 7 ^^^ ror x 18 ^^^ x >>> 3
def s1 (x : U32) : U32 := ror x 17 ^^^ ror x 19 ^^^ x >>> 10
def e1 (x : U32) : U32 := ror x 6 ^^^ ror x 11 ^^^ ror x 25
def e0 (x : U32) : U32 := ror x 2 ^^^ ror x 13 ^^^ ror x 22
def ch (e f g : U32) : U32 := (e &&& f) ^^^ (~~~e &&& g)
def maj (a b c : U32) : U32 := (a &&& b) ^^^ (a &&& c) ^^^ (b &&& c)
/-- Bytes as a number, the highest first. -/
def val (l : List UInt8) : Nat := l.foldl (fun n b => n * 256 + b.toNat) 0
/-- A number as so many bytes, the highest first. -/
def big (n : Nat) : Nat → List UInt8
 | 0 => []
 | k + 1 => big (n / 256) k ++ [UInt8.ofNat n]
def word (bs : List UInt8) (k : Nat) : U32 := BitVec.ofNat 32 (val ((bs.drop (4 * k)).take 4))
def nextW (w : List U32) : U32 :=
 w.getD (w.length - 16) 0 + s0 (w.getD (w.length - 15) 0) + w.getD (w.length - 7) 0 + s1 (w.getD (w.length - 2) 0)
/-- The first k words of a block's schedule. -/
def sched (bs : List UInt8) : Nat → List U32
 | 0 => []
 | k + 1 => sched bs k ++ [if k < 16 then word bs k else nextW (sched bs k)]
structure St where
 a : U32
 b : U32
 c : U32
 d : U32
 e : U32
 f : U32
 g : U32
 h : U32
def tOf (v : St) (k w : U32) : U32 := v.h + e1 v.e + ch v.e v.f v.g + k + w
def uOf (v : St) : U32 := e0 v.a + maj v.a v.b v.c
def rnd (v : St) (k w : U32) : St := ⟨tOf v k w + uOf v, v.a, v.b, v.c, v.d + tOf v k w, v.e, v.f, v.g⟩
def rounds (s : St) (ks ws : List U32) : Nat → St
 | 0 => s
 | k + 1 => rnd (rounds s ks ws k) (ks.getD k 0) (ws.getD k 0)
def St.plus (v s : St) : St := ⟨v.a + s.a, v.b + s.b, v.c + s.c, v.d + s.d, v.e + s.e, v.f + s.f, v.g + s.g, v.h + s.h⟩
def block (ks : List U32) (s : St) (bs : List UInt8) : St := (rounds s ks (sched bs 64) 64).plus s
def St.list (s : St) : List U32 := [s.a, s.b, s.c, s.d, s.e, s.f, s.g, s.h]
def St.bytes (s : St) : List UInt8 := s.list.flatMap fun x => big x.toNat 4
/-- n blocks of bytes, one behind the other. -/
def blocks (ks : List U32) (s : St) : Nat → List UInt8 → St
 | 0, _ => s
 | n + 1, b => blocks ks (block ks s (b.take 64)) n (b.drop 64)
/-- How many bytes 0 stand behind the 128. -/
def gap (n : Nat) : Nat := (119 - n % 64) % 64
def pad (s : List UInt8) : List UInt8 := s ++ [128] ++ List.replicate (gap s.length) 0 ++ big (8 * s.length) 8
def K : List U32 := [0x428a2f98, 0x71374491, 0xb5c0fbcf, 0xe9b5dba5, 0x3956c25b, 0x59f111f1, 0x923f82a4, 0xab1c5ed5, 0xd807aa98, 0x12835b01, 0x243185be, 0x550c7dc3, 0x72be5d74, 0x80deb1fe, 0x9bdc06a7, 0xc19bf174, 0xe49b69c1, 0xefbe4786, 0x0fc19dc6, 0x240ca1cc, 0x2de92c6f, 0x4a7484aa, 0x5cb0a9dc, 0x76f988da, 0x983e5152, 0xa831c66d, 0xb00327c8, 0xbf597fc7, 0xc6e00bf3, 0xd5a79147, 0x06ca6351, 0x14292967, 0x27b70a85, 0x2e1b2138, 0x4d2c6dfc, 0x53380d13, 0x650a7354, 0x766a0abb, 0x81c2c92e, 0x92722c85, 0xa2bfe8a1, 0xa81a664b, 0xc24b8b70, 0xc76c51a3, 0xd192e819, 0xd6990624, 0xf40e3585, 0x106aa070, 0x19a4c116, 0x1e376c08, 0x2748774c, 0x34b0bcb5, 0x391c0cb3, 0x4ed8aa4a, 0x5b9cca4f, 0x682e6ff3, 0x748f82ee, 0x78a5636f, 0x84c87814, 0x8cc70208, 0x90befffa, 0xa4506ceb, 0xbef9a3f7, 0xc67178f2]
def start : St := ⟨0x6a09e667, 0xbb67ae85, 0x3c6ef372, 0xa54ff53a, 0x510e527f, 0x9b05688c, 0x1f83d9ab, 0x5be0cd19⟩
def sum (s : List UInt8) : List UInt8 := (blocks K start ((pad s).length / 64) (pad s)).bytes
theorem big_length (n k : Nat) : (big n k).length = k := by
 induction k generalizing n with
 | zero => rfl
 | succ k ih => simp [big, ih]
end Sha
end Go.Proofs.YtpjpknndfhablaaGreat
namespace Go.Proofs.YtpjpknndfhablaaGreat
namespace Crc
def poly : U32 := 0xEDB88320
/-- One bit, the byte mixed in before. -/
def step (r : U32) : U32 := if r &&& 1 = 1 then r >>> 1 ^^^ poly else r >>> 1
def steps : Nat → U32 → U32
 | 0, r => r
 | k + 1, r => step (steps k r)
/-- One bit, mixed in bit by bit: the document's. -/
def bit (r : U32) (b : Bool) : U32 := if (r.getLsbD 0 != b) then r >>> 1 ^^^ poly else r >>> 1
def bits (x : UInt8) : Nat → U32 → U32
 | 0, r => r
 | k + 1, r => bit (bits x k r) (x.toNat.testBit k)
def byte (r : U32) (x : UInt8) : U32 := steps 8 (r ^^^ BitVec.ofNat 32 x.toNat)
def sum (s : List UInt8) : U32 := ~~~ (s.foldl byte 0xffffffff)
def rbyte (r : U32) (x : UInt8) : U32 := bits x 8 r
theorem and_one (r : U32) : (r &&& 1 = 1) ↔ r.getLsbD 0 = true := by
 constructor
 ·intro h
  have : (r &&& 1).getLsbD 0 = (1 : U32).getLsbD 0 := by rw [h]
  simpa using this
 ·intro h
  apply BitVec.eq_of_getLsbD_eq
  intro i hi
  rw [BitVec.getLsbD_and]
  cases i with
  | zero => rw [h]; rfl
  | succ i =>
   have : (1 : U32).getLsbD (i + 1) = false := by
    rw [show (1 : U32) = BitVec.ofNat 32 1 from rfl, BitVec.getLsbD_ofNat, Nat.testBit_succ]
    simp
   rw [this]; simp
theorem steps_bits (r : U32) (x : UInt8) (k : Nat) : steps k (r ^^^ BitVec.ofNat 32 x.toNat) = bits x k r ^^^ (BitVec.ofNat 32 x.toNat >>> k) := by
 induction k with
 | zero => simp [steps, bits]
 | succ k ih =>
  rw [steps, ih, bits]
  generalize bits x k r = q
  have hb : (BitVec.ofNat 32 x.toNat >>> k).getLsbD 0 = x.toNat.testBit k := by
   rw [BitVec.getLsbD_ushiftRight, BitVec.getLsbD_ofNat, Nat.add_zero]
   by_cases hk : k < 32
   ·simp [hk]
   ·have : x.toNat.testBit k = false := Nat.testBit_lt_two_pow (Nat.lt_of_lt_of_le x.toNat_lt (Nat.pow_le_pow_right (by decide) (by omega)))
    simp [this]
  have hs : (BitVec.ofNat 32 x.toNat) >>> (k + 1) = (BitVec.ofNat 32 x.toNat >>> k) >>> 1 := by rw [← BitVec.shiftRight_add]
  rw [hs]
  generalize BitVec.ofNat 32 x.toNat >>> k = y at hb ⊢
  unfold step bit
  simp only [and_one, BitVec.getLsbD_xor, hb, BitVec.ushiftRight_xor_distrib]
  split
  ·rw [BitVec.xor_assoc, BitVec.xor_comm (y >>> 1), ← BitVec.xor_assoc]
  ·rfl
theorem byte_eq : byte = rbyte := by
 funext r x
 rw [byte, steps_bits, rbyte]
 have : BitVec.ofNat 32 x.toNat >>> 8 = 0 := by
  apply BitVec.eq_of_toNat_eq
  have := x.toNat_lt
  simp [BitVec.toNat_ushiftRight, Nat.shiftRight_eq_div_pow]
  omega
 rw [this]; simp
end Crc
end Go.Proofs.YtpjpknndfhablaaGreat
namespace Go.Proofs.YtpjpknndfhablaaGreat
namespace Wal
def crc (s : List UInt8) : Nat := (Crc.sum s).toNat
def frame (s : List UInt8) : List UInt8 := Sha.big s.length 4 ++ Sha.big (crc s) 4 ++ s
def magic : List UInt8 := [83, 78, 76, 49]
def head (g : Nat) (snap : List UInt8) : List UInt8 := magic ++ Sha.big g 8 ++ frame snap
/-- The frame that stands at a place, of at most so many bytes. -/
def whole (file : List UInt8) (p most : Nat) : List UInt8 × Bool :=
 if file.length < p + 8 then ([], false) else
 if most < Sha.val ((file.drop p).take 4) ∨ file.length - p - 8 < Sha.val ((file.drop p).take 4) then ([], false) else
 ((file.drop (p + 8)).take (Sha.val ((file.drop p).take 4)), crc ((file.drop (p + 8)).take (Sha.val ((file.drop p).take 4))) == Sha.val ((file.drop (p + 4)).take 4))
/-- A file's generation, its snapshot, where its records begin; 0: it does not count. -/
def counts (file : List UInt8) : Nat × List UInt8 × Nat :=
 if file.length < 12 ∨ file.take 4 ≠ magic then (0, [], 0) else
 if (whole file 12 524288).2 = false ∨ 4611686018427387904 < Sha.val ((file.drop 4).take 8) then (0, [], 0) else
 (Sha.val ((file.drop 4).take 8), (whole file 12 524288).1, 20 + (whole file 12 524288).1.length)
/-- The records from a place on, and where they end. -/
def reads (file : List UInt8) : Nat → Nat → List (List UInt8) × Nat
 | 0, p => ([], p)
 | k + 1, p => if (whole file p 65536).2 then ((whole file p 65536).1 :: (reads file k (p + 8 + (whole file p 65536).1.length)).1, (reads file k (p + 8 + (whole file p 65536).1.length)).2) else ([], p)
def recs (file : List UInt8) (p : Nat) : List (List UInt8) × Nat := reads file (file.length + 1 - p) p
/-- An open log: its file, its generation, how many records, is it dead? -/
structure LS where
 f : Bool := false
 g : Nat := 0
 n : Nat := 0
 dead : Bool := false
/-- Lay a file of a generation, and sync. -/
def lays (d : DS) (f : Bool) (g : Nat) (snap : List UInt8) : DS × Int :=
 if (d.append (DS.fi f) (head g snap)).2 ≠ 0 then d.append (DS.fi f) (head g snap) else (d.append (DS.fi f) (head g snap)).1.sync
def append (l : LS) (d : DS) (s : List UInt8) : LS × DS × Int :=
 if l.dead then (l, d, 2) else
 if 65536 < s.length then (l, d, 101) else
 if 1048576 < d.size l.f + 8 + s.length then (l, d, 102) else
 if (d.append (DS.fi l.f) (frame s)).2 ≠ 0 then ({ l with dead := true }, (d.append (DS.fi l.f) (frame s)).1, 2) else ({ l with n := l.n + 1 }, (d.append (DS.fi l.f) (frame s)).1, 0)
def sync (l : LS) (d : DS) : LS × DS × Int :=
 if l.dead then (l, d, 2) else
 if d.sync.2 ≠ 0 then ({ l with dead := true }, d.sync.1, 2) else (l, d.sync.1, 0)
def checkpoint (l : LS) (d : DS) (snap : List UInt8) : LS × DS × Int :=
 if l.dead then (l, d, 2) else
 if 524288 < snap.length then (l, d, 101) else
 if l.g = 4611686018427387904 then (l, d, 102) else
 if (lays d (!l.f) (l.g + 1) snap).2 ≠ 0 then ({ l with dead := true }, (lays d (!l.f) (l.g + 1) snap).1, 2) else
 if ((lays d (!l.f) (l.g + 1) snap).1.cut (DS.fi l.f) 0).2 ≠ 0 then ({ l with dead := true }, ((lays d (!l.f) (l.g + 1) snap).1.cut (DS.fi l.f) 0).1, 2) else
 ({ l with f := !l.f, g := l.g + 1, n := 0 }, ((lays d (!l.f) (l.g + 1) snap).1.cut (DS.fi l.f) 0).1, 0)
def room (l : LS) (d : DS) : Int := max (-1) (min 65536 (1048576 - d.size l.f - 8))
def new (d : DS) : Option LS × DS × Int :=
 if d.dead then (none, d, 2) else
 if 0 < d.size false + d.size true then (none, d, 100) else
 if (lays d false 1 []).2 ≠ 0 then (none, (lays d false 1 []).1, 2) else (some { f := false, g := 1, n := 0, dead := false }, (lays d false 1 []).1, 0)
/-- Which file counts more, and what stands in it. -/
def best (d : DS) : Bool := decide ((counts (d.file false)).1 < (counts (d.file true)).1)
def cutEnd (d : DS) (f : Bool) (p : Nat) : DS × Int := if p < (d.file f).length then d.cut (DS.fi f) p else (d, 0)
def cutOther (d : DS) (f : Bool) (other : List UInt8) : DS × Int := if other ≠ [] then d.cut (DS.fi f) 0 else (d, 0)
/-- The cuts of an opening. -/
def cuts (d : DS) (f : Bool) (p : Nat) : DS × Int :=
 if (cutEnd d f p).2 ≠ 0 then cutEnd d f p else cutOther (cutEnd d f p).1 (!f) (d.file (!f))
structure Opened where
 l : LS
 snap : List UInt8
 rs : List (List UInt8)
def shown (d : DS) : Nat × List UInt8 × Nat := counts (d.file (best d))
def shownRecs (d : DS) : List (List UInt8) × Nat := recs (d.file (best d)) (shown d).2.2
def open_ (d : DS) : Option Opened × DS × Int :=
 if d.dead then (none, d, 2) else
 if (shown d).1 = 0 then (none, d, 100) else
 if (cuts d (best d) (shownRecs d).2).2 ≠ 0 then (none, (cuts d (best d) (shownRecs d).2).1, 2) else
 (some ⟨{ f := best d, g := (shown d).1, n := (shownRecs d).1.length, dead := false }, (shown d).2.1, (shownRecs d).1⟩, (cuts d (best d) (shownRecs d).2).1, 0)

/-! Numbers as bytes. -/
theorem val_from (b : List UInt8) (n : Nat) : b.foldl (fun n x => n * 256 + x.toNat) n = n * 256 ^ b.length + Sha.val b := by
 induction b generalizing n with
 | nil => simp [Sha.val]
 | cons x b ih =>
  have h1 := ih (n * 256 + x.toNat)
  have h2 := ih (0 * 256 + x.toNat)
  simp only [Sha.val, List.foldl_cons, List.length_cons] at h1 h2 ⊢
  rw [h1, h2, Nat.pow_succ, Nat.add_mul, Nat.zero_mul, Nat.zero_add, Nat.mul_assoc, Nat.mul_comm 256 (256 ^ b.length)]; omega
theorem val_lt (l : List UInt8) : Sha.val l < 256 ^ l.length := by
 induction l with
 | nil => simp [Sha.val]
 | cons x l ih =>
  have h := val_from l x.toNat
  have e : Sha.val (x :: l) = l.foldl (fun n x => n * 256 + x.toNat) x.toNat := by simp [Sha.val]
  rw [e, h, List.length_cons, Nat.pow_succ]
  have hx := x.toNat_lt
  have : x.toNat * 256 ^ l.length ≤ 255 * 256 ^ l.length := Nat.mul_le_mul_right _ (by omega)
  omega
theorem val_big (n k : Nat) : Sha.val (Sha.big n k) = n % 256 ^ k := by
 induction k generalizing n with
 | zero => simp [Sha.big, Sha.val, Nat.mod_one]
 | succ k ih =>
  have h : Sha.val (Sha.big (n / 256) k ++ [UInt8.ofNat n]) = Sha.val (Sha.big (n / 256) k) * 256 + (UInt8.ofNat n).toNat := by simp [Sha.val]
  rw [Sha.big, h, ih, Nat.pow_succ, UInt8.toNat_ofNat']
  have h1 := Nat.div_add_mod n 256
  have h2 : n % (256 ^ k * 256) = n / 256 % 256 ^ k * 256 + n % 256 := by
   rw [Nat.mul_comm (256 ^ k) 256, Nat.mod_mul, Nat.mul_comm 256 (n / 256 % 256 ^ k)]; omega
  rw [h2]
theorem val_big_of {n k : Nat} (h : n < 256 ^ k) : Sha.val (Sha.big n k) = n := by rw [val_big, Nat.mod_eq_of_lt h]
theorem crc_lt (s : List UInt8) : crc s < 4294967296 := (Crc.sum s).isLt
theorem frame_length (s : List UInt8) : (frame s).length = 8 + s.length := by simp [frame, Sha.big_length]; omega
theorem head_length (g : Nat) (s : List UInt8) : (head g s).length = 20 + s.length := by simp [head, magic, frame_length, Sha.big_length]; omega
/-! A frame where one stands; none where only a beginning of one does. -/
theorem whole_frame {a s r : List UInt8} {most : Nat} (hs : s.length ≤ most) (h4 : s.length < 4294967296) : whole (a ++ (frame s ++ r)) a.length most = (s, true) := by
 have e1 : ((a ++ (frame s ++ r)).drop a.length).take 4 = Sha.big s.length 4 := by
  simp only [List.drop_left, frame, List.append_assoc]
  rw [List.take_left' (Sha.big_length _ _)]
 have e2 : ((a ++ (frame s ++ r)).drop (a.length + 4)).take 4 = Sha.big (crc s) 4 := by
  rw [← List.drop_drop, List.drop_left]
  simp only [frame, List.append_assoc]
  rw [List.drop_left' (Sha.big_length _ _), List.take_left' (Sha.big_length _ _)]
 have e3 : ((a ++ (frame s ++ r)).drop (a.length + 8)).take s.length = s := by
  rw [← List.drop_drop, List.drop_left]
  simp only [frame]
  rw [List.append_assoc, List.drop_left' (by simp [Sha.big_length])]
  simp
 have v1 : Sha.val (Sha.big s.length 4) = s.length := val_big_of (by simpa using h4)
 have v2 : Sha.val (Sha.big (crc s) 4) = crc s := val_big_of (by simpa using crc_lt s)
 unfold whole
 rw [e1, v1, e2, v2, e3, if_neg (by simp [frame_length]; omega), if_neg (by simp [frame_length]; omega)]
 simp
theorem whole_short {file : List UInt8} {p most : Nat} (h : file.length < p + 8) : whole file p most = ([], false) := by
 unfold whole; rw [if_pos h]
theorem whole_none {a s : List UInt8} {most k : Nat} (hk : k < (frame s).length) (h4 : s.length < 4294967296) : whole (a ++ (frame s).take k) a.length most = ([], false) := by
 rw [frame_length] at hk
 by_cases h8 : k < 8
 ·refine whole_short ?_
  simp [frame_length]; omega
 ·have e1 : ((a ++ (frame s).take k).drop a.length).take 4 = Sha.big s.length 4 := by
   rw [List.drop_left, List.take_take, Nat.min_eq_left (by omega), frame, List.append_assoc, List.take_left' (Sha.big_length _ _)]
  have v1 : Sha.val (Sha.big s.length 4) = s.length := val_big_of (by simpa using h4)
  unfold whole
  rw [e1, v1, if_neg (by simp [frame_length]; omega), if_pos]
  right
  simp [frame_length]; omega
end Wal
end Go.Proofs.YtpjpknndfhablaaGreat
namespace Go.Proofs.YtpjpknndfhablaaGreat
namespace Sto
abbrev S := List UInt8
abbrev lt (a b : S) : Bool := Op.bytesLess a b
theorem lt_irrefl : ∀ a : S, lt a a = false
 | [] => rfl
 | x :: r => by simp [lt, Op.bytesLess]; exact lt_irrefl r
theorem lt_total : ∀ a b : S, lt a b = true ∨ a = b ∨ lt b a = true
 | [], [] => .inr (.inl rfl)
 | [], _ :: _ => .inl rfl
 | _ :: _, [] => .inr (.inr rfl)
 | x :: a, y :: b => by
  by_cases h1 : x < y
  ·exact .inl (by simp [lt, Op.bytesLess, h1])
  by_cases h2 : y < x
  ·exact .inr (.inr (by simp [lt, Op.bytesLess, h2]))
  have e : x = y := UInt8.le_antisymm (UInt8.not_lt.1 h2) (UInt8.not_lt.1 h1)
  subst e
  rcases lt_total a b with h | h | h
  ·exact .inl (by simp only [lt] at h; simp [lt, Op.bytesLess, h])
  ·exact .inr (.inl (by rw [h]))
  ·exact .inr (.inr (by simp only [lt] at h; simp [lt, Op.bytesLess, h]))
theorem lt_trans : ∀ {a b c : S}, lt a b = true → lt b c = true → lt a c = true
 | _, [], _, h, _ => by simp [lt, Op.bytesLess] at h
 | _, _ :: _, [], _, h => by simp [lt, Op.bytesLess] at h
 | [], _ :: _, _ :: _, _, _ => rfl
 | x :: a, y :: b, z :: c, h, g => by
  simp only [lt, Op.bytesLess, Bool.or_eq_true, Bool.and_eq_true, decide_eq_true_eq, beq_iff_eq] at h g ⊢
  rcases h with h | ⟨rfl, h⟩
  ·rcases g with g | ⟨rfl, g⟩
   ·exact .inl (UInt8.lt_trans h g)
   ·exact .inl h
  ·rcases g with g | ⟨rfl, g⟩
   ·exact .inl g
   ·exact .inr ⟨rfl, lt_trans (a := a) (b := b) (c := c) h g⟩
theorem lt_asymm {a b : S} (h : lt a b = true) : lt b a = false := by
 cases e : lt b a with
 | false => rfl
 | true => have := lt_trans h e; rw [lt_irrefl] at this; cases this
theorem lt_ne {a b : S} (h : lt a b = true) : a ≠ b := by
 rintro rfl
 rw [lt_irrefl] at h
 cases h
/-- Pairs: keys and values. -/
abbrev Pairs := List (S × S)
def Rise (l : Pairs) : Prop := l.Pairwise fun p q => lt p.1 q.1 = true
def get : Pairs → S → Option S
 | [], _ => none
 | p :: r, k => if lt p.1 k then get r k else if p.1 = k then some p.2 else none
def put : Pairs → S → S → Pairs
 | [], k, v => [(k, v)]
 | p :: r, k, v => if lt p.1 k then p :: put r k v else if p.1 = k then (k, v) :: r else (k, v) :: p :: r
def del : Pairs → S → Pairs
 | [], _ => []
 | p :: r, k => if lt p.1 k then p :: del r k else if p.1 = k then r else p :: r
/-- Where a key stands, or would. -/
def place : Pairs → S → Nat
 | [], _ => 0
 | p :: r, k => if lt p.1 k then place r k + 1 else 0
def here (l : Pairs) (k : S) : Bool := (get l k).isSome
def size : Pairs → Nat
 | [] => 0
 | p :: r => p.1.length + p.2.length + size r
def fits (l : Pairs) : Bool := decide (l.length ≤ 2048) && decide (size l ≤ 262144)
def scan (l : Pairs) (k : S) (most : Nat) : Pairs := (l.filter fun p => !lt p.1 k).take most
def keyOk (k : S) : Bool := decide (1 ≤ k.length) && decide (k.length ≤ 64)
def valueOk (v : S) : Bool := decide (v.length ≤ 4096)
/-- A put, or a delete. -/
structure Ch where
 put : Bool
 key : S
 value : S
 deriving DecidableEq
def changes : Pairs → Pairs → List Ch
 | [], [] => []
 | [], q :: b => ⟨true, q.1, q.2⟩ :: changes [] b
 | p :: a, [] => ⟨false, p.1, []⟩ :: changes a []
 | p :: a, q :: b =>
  if lt p.1 q.1 then ⟨false, p.1, []⟩ :: changes a (q :: b)
  else if lt q.1 p.1 then ⟨true, q.1, q.2⟩ :: changes (p :: a) b
  else if p.2 = q.2 then changes a b else ⟨true, q.1, q.2⟩ :: changes a b
termination_by a b => a.length + b.length
/-- One change; none: it changes nothing. -/
def step (l : Pairs) (c : Ch) : Option Pairs :=
 if c.put then if get l c.key = some c.value then none else some (put l c.key c.value)
 else if here l c.key then some (del l c.key) else none
def steps : Pairs → List Ch → Option Pairs
 | l, [] => some l
 | l, c :: r => (step l c).bind fun m => steps m r
def does (l : Pairs) (c : List Ch) : Option Pairs := (steps l c).bind fun m => if fits m then some m else none
/-- The bytes of a change; of changes. -/
def enc1 (c : Ch) : S := (if c.put then 1 else 0) :: UInt8.ofNat c.key.length :: (c.key ++ if c.put then Sha.big c.value.length 2 ++ c.value else [])
def enc (l : List Ch) : S := l.flatMap enc1
def encode (l : List Ch) (count : Nat) : S := Sha.big l.length count ++ enc l
/-- The change that stands at the front, and what stands behind it. -/
def one (s : S) : Option (Ch × S) :=
 match s with
 | kind :: many :: r =>
  if r.length < many.toNat then none else
  if kind = 0 then some (⟨false, r.take many.toNat, []⟩, r.drop many.toNat) else
  if kind = 1 then
   if (r.drop many.toNat).length < 2 then none else
   if ((r.drop many.toNat).drop 2).length < Sha.val ((r.drop many.toNat).take 2) then none else
   some (⟨true, r.take many.toNat, ((r.drop many.toNat).drop 2).take (Sha.val ((r.drop many.toNat).take 2))⟩, ((r.drop many.toNat).drop 2).drop (Sha.val ((r.drop many.toNat).take 2)))
  else none
 | _ => none
def after (last : Option S) (k : S) : Bool := match last with | none => true | some j => lt j k
def dec : Nat → S → Option S → Option (List Ch)
 | 0, s, _ => if s = [] then some [] else none
 | n + 1, s, last => match one s with
  | none => none
  | some (c, r) => if keyOk c.key && valueOk c.value && after last c.key then (dec n r (some c.key)).map (c :: ·) else none
def decode (s : S) (count most : Nat) : Option (List Ch) :=
 if s.length < count then none else
 if Sha.val (s.take count) < 1 ∨ most < Sha.val (s.take count) then none else dec (Sha.val (s.take count)) (s.drop count) none
/-! The document's words. -/
theorem place_le : ∀ (l : Pairs) (k : S), place l k ≤ l.length
 | [], _ => Nat.le_refl _
 | p :: r, k => by
  unfold place
  split
  ·have := place_le r k; simp; omega
  ·simp
theorem get_place : ∀ (l : Pairs) (k : S), get l k = match l[place l k]? with | some p => if p.1 = k then some p.2 else none | none => none
 | [], _ => rfl
 | p :: r, k => by
  unfold get place
  split
  ·rw [get_place r k]; simp
  ·simp
theorem here_place (l : Pairs) (k : S) : here l k = (match l[place l k]? with | some p => decide (p.1 = k) | none => false) := by
 unfold here
 rw [get_place]
 cases l[place l k]? with
 | none => rfl
 | some p => by_cases h : p.1 = k <;> simp [h]
theorem place_before : ∀ (l : Pairs) (k : S) (j : Nat) (p : S × S), j < place l k → l[j]? = some p → lt p.1 k = true
 | [], _, j, _, h, _ => by simp [place] at h
 | q :: r, k, j, p, h, hp => by
  unfold place at h
  split at h
  ·rename_i hq
   cases j with
   | zero => simp at hp; subst hp; exact hq
   | succ j => exact place_before r k j p (by omega) (by simpa using hp)
  ·omega
theorem place_at : ∀ (l : Pairs) (k : S) (p : S × S), l[place l k]? = some p → lt p.1 k = false
 | [], _, _, h => by simp [place] at h
 | q :: r, k, p, h => by
  unfold place at h
  split at h
  ·exact place_at r k p (by simpa using h)
  ·rename_i hq
   simp at h
   subst h
   simpa using hq
theorem put_place : ∀ (l : Pairs) (k v : S), put l k v = l.take (place l k) ++ (k, v) :: l.drop (place l k + if here l k then 1 else 0)
 | [], _, _ => rfl
 | p :: r, k, v => by
  have ih := put_place r k v
  by_cases h : lt p.1 k = true
  ·have e : here (p :: r) k = here r k := by simp [here, get, h]
   simp only [put, place, h, if_true, e, List.take_succ_cons, List.cons_append]
   rw [ih, show place r k + 1 + (if here r k = true then 1 else 0) = (place r k + if here r k = true then 1 else 0) + 1 by omega, List.drop_succ_cons]
  ·by_cases hk : p.1 = k <;> simp [put, place, h, hk, here, get]
   simp [← hk, lt_irrefl]
theorem del_place : ∀ (l : Pairs) (k : S), del l k = if here l k then l.take (place l k) ++ l.drop (place l k + 1) else l
 | [], _ => rfl
 | p :: r, k => by
  have ih := del_place r k
  by_cases h : lt p.1 k = true
  ·have e : here (p :: r) k = here r k := by simp [here, get, h]
   simp only [del, place, h, if_true, e, ih]
   split <;> simp
  ·by_cases hk : p.1 = k <;> simp [del, place, h, hk, here, get]
   simp [← hk, lt_irrefl]
end Sto
end Go.Proofs.YtpjpknndfhablaaGreat
namespace Go.Proofs.YtpjpknndfhablaaGreat
namespace Sto
theorem mem_changes : ∀ (a b : Pairs) (c : Ch), c ∈ changes a b → (c.put = false ∧ c.value = [] ∧ ∃ p ∈ a, p.1 = c.key) ∨ (c.put = true ∧ (c.key, c.value) ∈ b)
 | [], [], c, h => by simp [changes] at h
 | [], q :: b, c, h => by
  rw [changes] at h
  rcases List.mem_cons.1 h with rfl | h
  ·exact .inr (by simp)
  ·rcases mem_changes [] b c h with h | ⟨h1, h2⟩
   ·exact .inl h
   ·exact .inr ⟨h1, by simp [h2]⟩
 | p :: a, [], c, h => by
  rw [changes] at h
  rcases List.mem_cons.1 h with rfl | h
  ·exact .inl (by simp)
  ·rcases mem_changes a [] c h with ⟨h1, h2, x, hx, he⟩ | h
   ·exact .inl ⟨h1, h2, x, by simp [hx], he⟩
   ·exact .inr h
 | p :: a, q :: b, c, h => by
  rw [changes] at h
  split at h
  ·rcases List.mem_cons.1 h with rfl | h
   ·exact .inl (by simp)
   ·rcases mem_changes a (q :: b) c h with ⟨h1, h2, x, hx, he⟩ | h
    ·exact .inl ⟨h1, h2, x, by simp [hx], he⟩
    ·exact .inr h
  ·split at h
   ·rcases List.mem_cons.1 h with rfl | h
    ·exact .inr (by simp)
    ·rcases mem_changes (p :: a) b c h with h | ⟨h1, h2⟩
     ·exact .inl h
     ·exact .inr ⟨h1, by simp [h2]⟩
   ·have hm : c = ⟨true, q.1, q.2⟩ ∨ c ∈ changes a b := by
     split at h
     ·exact .inr h
     ·exact List.mem_cons.1 h
    rcases hm with rfl | h
    ·exact .inr (by simp)
    ·rcases mem_changes a b c h with ⟨h1, h2, x, hx, he⟩ | ⟨h1, h2⟩
     ·exact .inl ⟨h1, h2, x, by simp [hx], he⟩
     ·exact .inr ⟨h1, by simp [h2]⟩
termination_by a b => a.length + b.length
def RiseC (l : List Ch) : Prop := l.Pairwise fun c d => lt c.key d.key = true
theorem changes_key {a b : Pairs} {c : Ch} (h : c ∈ changes a b) : (∃ p ∈ a, p.1 = c.key) ∨ (∃ p ∈ b, p.1 = c.key) := by
 rcases mem_changes a b c h with ⟨_, _, h⟩ | ⟨_, h⟩
 ·exact .inl h
 ·exact .inr ⟨_, h, rfl⟩
theorem changes_rise : ∀ (a b : Pairs), Rise a → Rise b → RiseC (changes a b)
 | [], [], _, _ => by simp [changes, RiseC]
 | [], q :: b, ha, hb => by
  rw [changes]
  refine List.pairwise_cons.2 ⟨fun c hc => ?_, changes_rise [] b ha (List.Pairwise.of_cons hb)⟩
  rcases changes_key hc with ⟨x, hx, e⟩ | ⟨x, hx, e⟩
  ·simp at hx
  ·rw [← e]; exact List.rel_of_pairwise_cons hb hx
 | p :: a, [], ha, hb => by
  rw [changes]
  refine List.pairwise_cons.2 ⟨fun c hc => ?_, changes_rise a [] (List.Pairwise.of_cons ha) hb⟩
  rcases changes_key hc with ⟨x, hx, e⟩ | ⟨x, hx, e⟩
  ·rw [← e]; exact List.rel_of_pairwise_cons ha hx
  ·simp at hx
 | p :: a, q :: b, ha, hb => by
  have A : ∀ x ∈ a, lt p.1 x.1 = true := fun x hx => List.rel_of_pairwise_cons ha hx
  have B : ∀ x ∈ b, lt q.1 x.1 = true := fun x hx => List.rel_of_pairwise_cons hb hx
  rw [changes]
  by_cases h1 : lt p.1 q.1 = true
  ·rw [if_pos h1]
   refine List.pairwise_cons.2 ⟨fun c hc => ?_, changes_rise a (q :: b) (List.Pairwise.of_cons ha) hb⟩
   rcases changes_key hc with ⟨x, hx, e⟩ | ⟨x, hx, e⟩ <;> rw [← e]
   ·exact A x hx
   ·rcases List.mem_cons.1 hx with rfl | hx
    ·exact h1
    ·exact lt_trans h1 (B x hx)
  rw [if_neg h1]
  by_cases h2 : lt q.1 p.1 = true
  ·rw [if_pos h2]
   refine List.pairwise_cons.2 ⟨fun c hc => ?_, changes_rise (p :: a) b ha (List.Pairwise.of_cons hb)⟩
   rcases changes_key hc with ⟨x, hx, e⟩ | ⟨x, hx, e⟩ <;> rw [← e]
   ·rcases List.mem_cons.1 hx with rfl | hx
    ·exact h2
    ·exact lt_trans h2 (A x hx)
   ·exact B x hx
  rw [if_neg h2]
  have he : p.1 = q.1 := by
   rcases lt_total p.1 q.1 with h | h | h
   ·exact absurd h h1
   ·exact h
   ·exact absurd h h2
  have ih := changes_rise a b (List.Pairwise.of_cons ha) (List.Pairwise.of_cons hb)
  split
  ·exact ih
  ·refine List.pairwise_cons.2 ⟨fun c hc => ?_, ih⟩
   rcases changes_key hc with ⟨x, hx, e⟩ | ⟨x, hx, e⟩ <;> rw [← e]
   ·show lt q.1 x.1 = true
    rw [← he]; exact A x hx
   ·exact B x hx
termination_by a b => a.length + b.length
/-! Rising pairs stay rising. -/
theorem mem_put : ∀ {l : Pairs} {k v : S} {x : S × S}, x ∈ put l k v → x = (k, v) ∨ x ∈ l
 | [], k, v, x, h => by simp [put] at h; exact .inl h
 | p :: r, k, v, x, h => by
  unfold put at h
  split at h
  ·rcases List.mem_cons.1 h with rfl | h
   ·exact .inr (by simp)
   ·rcases mem_put h with h | h
    ·exact .inl h
    ·exact .inr (by simp [h])
  ·split at h
   ·rcases List.mem_cons.1 h with rfl | h
    ·exact .inl rfl
    ·exact .inr (by simp [h])
   ·rcases List.mem_cons.1 h with rfl | h
    ·exact .inl rfl
    ·exact .inr h
theorem mem_del : ∀ {l : Pairs} {k : S} {x : S × S}, x ∈ del l k → x ∈ l
 | [], _, _, h => by simp [del] at h
 | p :: r, k, x, h => by
  unfold del at h
  split at h
  ·rcases List.mem_cons.1 h with rfl | h
   ·simp
   ·have := mem_del h; simp [this]
  ·split at h
   ·simp [h]
   ·exact h
theorem put_rise : ∀ {l : Pairs} (k v : S), Rise l → Rise (put l k v)
 | [], _, _, _ => by simp [put, Rise]
 | p :: r, k, v, h => by
  have A : ∀ x ∈ r, lt p.1 x.1 = true := fun x hx => List.rel_of_pairwise_cons h hx
  unfold put
  split
  ·rename_i h1
   refine List.pairwise_cons.2 ⟨fun x hx => ?_, put_rise k v (List.Pairwise.of_cons h)⟩
   rcases mem_put hx with rfl | hx
   ·exact h1
   ·exact A x hx
  ·rename_i h1
   split
   ·rename_i h2
    refine List.pairwise_cons.2 ⟨fun x hx => ?_, List.Pairwise.of_cons h⟩
    show lt k x.1 = true
    rw [← h2]; exact A x hx
   ·rename_i h2
    have h3 : lt k p.1 = true := by
     rcases lt_total p.1 k with h | h | h
     ·exact absurd h h1
     ·exact absurd h h2
     ·exact h
    refine List.pairwise_cons.2 ⟨fun x hx => ?_, h⟩
    rcases List.mem_cons.1 hx with rfl | hx
    ·exact h3
    ·exact lt_trans h3 (A x hx)
theorem del_rise : ∀ {l : Pairs} (k : S), Rise l → Rise (del l k)
 | [], _, _ => by simp [del, Rise]
 | p :: r, k, h => by
  unfold del
  split
  ·exact List.pairwise_cons.2 ⟨fun x hx => List.rel_of_pairwise_cons h (mem_del hx), del_rise k (List.Pairwise.of_cons h)⟩
  ·split
   ·exact List.Pairwise.of_cons h
   ·exact h
end Sto
end Go.Proofs.YtpjpknndfhablaaGreat
