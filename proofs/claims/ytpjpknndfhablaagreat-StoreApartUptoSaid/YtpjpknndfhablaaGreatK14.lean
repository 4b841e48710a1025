/- The walk of the document's Append. A disk that the call itself made: the contracts once more, for laws over one disk. And small functions of the law's own. Whatever is of none of some types lies as it lay: disks and logs behind calls on others. strings.Builder: copyCheck and WriteString at this program (turned from the library's own walk). The program's encode. -/
import Derived.Laws.AppendOwnNone
import Derived.Test.YtpjpknndfhablaaGreatShelf
import Derived.Test.YtpjpknndfhablaaGreatK10
import Derived.Test.YtpjpknndfhablaaGreatK13
namespace Go.Proofs.YtpjpknndfhablaaGreat
open Go.RowKit

theorem Tryz.uInfo : (Tryz.prog.info? 177).map (fun i => (i.zero, i.size, i.bytes)) = some (some (.agg #[.int .i64 0, .int .u8 0]), 2, 16) := by kernel_rfl

theorem owns_slice {w : World} {base e size n : Nat} {v : Value} {xs : List Value} (h : w.ownsRow base e size v n xs) : ∃ ao cap, v = .slice ao n cap := by
  rcases h.2 with ⟨rfl, rfl⟩ | ⟨g, cap, cur, rfl, _⟩
  · exact ⟨none, 0, rfl⟩
  · exact ⟨_, cap, rfl⟩
theorem owns_base {w : World} {base base' e size n : Nat} {v : Value} {xs : List Value} (h : w.ownsRow base e size v n xs) (hb : base' ≤ base) : w.ownsRow base' e size v n xs := by
  refine ⟨h.1, ?_⟩
  rcases h.2 with h0 | ⟨g, cap, cur, e1, e2, e3⟩
  · exact .inl h0
  · exact .inr ⟨g, cap, cur, e1, Nat.le_trans hb e2, e3⟩

/-- The loop of Append, from a frame on: said of what it knows. -/
structure LayRel (w wr : World) (u : List (Bool × UInt8)) (q : Bool) (s : List UInt8) (j : Nat) (v : Value) : Prop where
  own : wr.ownsRow w.heap.size 177 2 v (u.length + j) (uCells (u ++ (s.take j).map (q, ·)))
  below : Below w.heap.size w wr
theorem LayRel.step {w wr : World} {u : List (Bool × UInt8)} {q : Bool} {s : List UInt8} {j : Nat} {v : Value} (h : LayRel w wr u q s j v) {x : UInt8} (hx : s[j]? = some x) {w0 w1 : World} {v' : Value} (h0 : Below wr.heap.size wr w0)
    (ho : w1.ownsRow w.heap.size 177 2 v' (u.length + j + 1) (uCells (u ++ (s.take j).map (q, ·)) ++ [.int .i64 (DS.fi q), .int .u8 x.toNat]))
    (hg : w0.grownBy w1 v.ownBlock) : LayRel w w1 u q s (j + 1) v' := by
  have e1 : u ++ (s.take (j + 1)).map (q, ·) = (u ++ (s.take j).map (q, ·)) ++ [(q, x)] := by rw [List.take_add_one, hx]; simp
  have ht := Touch.trans (Touch.of_below (S := fun k => v.ownBlock = some k) h0) (touch_of_grown hg) (fun _ _ h => h)
  refine ⟨?_, ?_⟩
  · rw [e1, uCells_append]; exact ho
  · exact (Touch.trans (Touch.of_below (S := fun k => v.ownBlock = some k) h.below) ht (fun _ _ h => h)).below (Nat.le_refl _) (fun k hk hs => by have := (h.own.lt k hs).1; omega)

set_option maxHeartbeats 2000000 in
theorem rappend_any (b : Nat) (w : World) (d : DS) (ub : Option Nat) (f : Int) (s : List UInt8) (h : RefAt w b d ub) (hs : s.length ≤ 9223372036854775807 - 1048576) :
    Calls Tryz.prog 90 #[.pointer (some ⟨b, 0, none⟩), .int .i64 f, .string ⟨s.toArray⟩] w fun e w' => e = .returned (.int .i64 (d.append f s).2) ∧
      ∃ ub', RefAt w' b (d.append f s).1 ub' ∧ Newer w ub ub' ∧ Touch (· = b) w w' := by
  have hok' := h.1.append f s
  obtain ⟨hok, us, h, rfl⟩ := h
  obtain ⟨c0, c1, c2, c3, c4, c5, cf, hlt⟩ := h.cells
  have H := Lib.hid h
  have HS := Lib.hid hs
  clear h c0 c1 c2 c3 c4
  cases hd : d.dead
  · rw [hd] at c5
    by_cases hf : f = 0 ∨ f = 1
    · obtain ⟨q, rfl⟩ := DS.fi_of hf
      have hz : d.sizeI (DS.fi q) = (d.size q : Int) := by simp [DS.sizeI, DS.fileNo_of]
      have HZ := Lib.hid hz
      have hbl := hok.base_len' q
      have hu := hok.u_len
      clear hf hz
      cases q
      · simp only [DS.fi, Bool.false_eq_true, if_false] at HZ hok' ⊢
        have HZ' : Hid (d.sizeI 0 = (d.size false : Int)) := HZ
        have hno : DS.fileNo 0 = some false := rfl
        clear HZ
        by_cases hc : d.size false + s.length > 1048576
        · have HX : Hid (d.append 0 s = (d, 91)) := by unfold DS.append; rw [if_neg (by simp [hd]), hno]; simp only []; rw [if_pos hc]; exact rfl
          have hs2 : (s.length : Int) ≤ 9223372036853727231 := by have := HS.out; omega
          have hci : (1048576 : Int) < (d.size false : Int) + (s.length : Int) := by omega
          clear hd hc hs hno
          go_enter Tryz.func90, Tryz.ntmps90
          go_wp2_with (first
            | (go_at_call 89; go_must (refine (rsize_any b w d us _ H.out hok).mono ?_; rw [HZ'.out]; rintro e w' ⟨rfl, rfl⟩)))
          go_ret
          exact ⟨ret_int (by rw [HX.out]), us.ownBlock, by rw [HX.out]; exact ⟨hok, us, H.out, rfl⟩, Newer.refl _ _, Touch.refl _ _⟩
        · have hkp := hok.keep
          have HC := Lib.hid hc
          have HD := Lib.hid hd
          have hci : (d.size false : Int) + (s.length : Int) ≤ 1048576 := by omega
          have hsl : s.length ≤ 1048576 := by omega
          clear hd hc hs
          cases hg : d.goes
          all_goals have HG := Lib.hid hg
          all_goals clear hg
          all_goals rcases H.out.own.2 with ⟨hus, h0⟩ | ⟨g, cap, cur, hus, _, hgg, hnc, hcm, hcs, ht⟩
          all_goals (try have H0 := Lib.hid h0)
          all_goals (try clear h0)
          all_goals have HUS := Lib.hid hus
          all_goals clear hus
          all_goals (try clear hgg hnc hcm hcs ht)
          all_goals go_enter Tryz.func90, Tryz.ntmps90
          all_goals go_wp2_with (first
            | (go_at_call 89; go_must (refine (rsize_any b w d _ _ H.out hok).mono ?_; rw [HZ'.out]; rintro e w' ⟨rfl, rfl⟩))
            | (go_at_call 143; go_must (refine (rgoes_any b w d _ H.out hok).mono ?_; rw [HG.out]; rintro e w5 ⟨rfl, hr5, ht5⟩; have HR5 := Lib.hid hr5; have HT5 := Lib.hid ht5; obtain ⟨c0', c1', c2', c3', c4', c5'', cf', hlt'⟩ := hr5.cells; rw [HUS.out] at c2'; clear hr5 ht5 c0' c1' c3' c5''))
            | (at_builtin; (refine wpList_append_own2 _ rfl (.tmp 29) (.tmp 33) 90 rfl w5.heap.size 177 2 16 _ Tryz.uInfo Tryz.underlying90 rfl (by decide) _ 0 [] rfl (World.ownsRow_made w5 #[] 0 (Nat.le_refl _) (by decide) rfl) ⟨g, 0, none⟩ d.u.length cap (uCells d.u) rfl (uCells_length _) (fun j u hj => (World.cell?_of_block (heap_alloc _ (by rw [addr_block]; exact (HR5.out.own.lt g (by rw [HUS.out]; rfl)).2))).trans (HR5.out.own.cells (g := g) (by rw [HUS.out]; rfl) j u hj)) (uCells_one _) (by unfold maxLen; omega) (by omega) (by simp) ?_; intro v0 w6 ho hgr hb; have HL0 : Hid (LayRel w5 w6 d.u false s 0 v0) := ⟨by simpa using ho, (Touch.trans (Touch.of_below (S := fun _ => False) (balloc w5 _)) (touch_of_grown hgr) (fun k hk h => by have : w5.heap.size = k := Option.some.inj h; omega)).below (Nat.le_refl _) (fun _ _ h => h)⟩; clear ho hgr hb)))
          all_goals go_loopw [8, 9] (fun v i wr => ∃ j : Nat, i = .int .i64 j ∧ j ≤ s.length ∧ LayRel w5 wr d.u false s j v) (fun _ i _ => s.length - (intOf i).toNat)
          all_goals first
            | (case atStart =>
                first
                  | exact ⟨0, rfl, Nat.zero_le _, HL0.out⟩
                  | (have hu0 : d.u = [] := List.eq_nil_of_length_eq_zero H0.out
                     exact ⟨0, rfl, Nat.zero_le _, by rw [hu0]; exact World.ownsRow_made w5 #[] 0 (Nat.le_refl _) (by decide) rfl, balloc w5 _⟩))
            | skip
          all_goals
            obtain ⟨j, rfl, hj, hlay⟩ := hrel
            have HL := Lib.hid hlay
            have hsz := hlay.below.size
            clear hlay
            by_cases hlt : j < s.length
            · obtain ⟨x, hx⟩ : ∃ x, s[j]? = some x := ⟨_, List.getElem?_eq_getElem hlt⟩
              have hx' : s[j] = x := by rw [List.getElem?_eq_getElem hlt] at hx; exact Option.some.inj hx
              have HXX := Lib.hid hx
              have HXB := Lib.hid hx'
              clear hx hx'
              go_wp2_with (first | (at_builtin; go_must (refine wpList_append_own2 _ rfl (.tmp 41) (.tmp 47) 90 rfl w5.heap.size 177 2 16 _ Tryz.uInfo Tryz.underlying90 rfl (by decide) _ _ _ rfl (own_touch HL.out.own (Touch.of_below (S := fun _ => False) (balloc wr _)) (fun _ _ h => h)) ⟨wr.heap.size, 0, none⟩ 1 1 [.int .i64 0, .int .u8 x.toNat] rfl rfl (fun i u hi => by
                  match i, hi with
                  | 0, hi => simp at hi; subst hi; exact cell_of (heap_new wr _) rfl
                  | 1, hi => simp at hi; subst hi; exact cell_of (heap_new wr _) (congrArg (fun y : UInt8 => some (Value.int .u8 (y.toNat : Int))) HXB.out)) (by intro u hu; simp at hu; rcases hu with rfl | rfl <;> rfl) (by unfold maxLen; omega) (by omega) (by simp; omega) ?_; intro v' w1 ho hgr hb; have HS' : Hid (LayRel w5 w1 d.u false s (j + 1) v') := HL.out.step HXX.out (balloc wr _) ho hgr; clear ho hgr hb)))
              go_roundw
              case rel => exact ⟨j + 1, by go_num, by omega, HS'.out⟩
              case measure => simp [intOf]; omega
            · obtain rfl : j = s.length := by omega
              obtain ⟨vo, vc, rfl⟩ := owns_slice HL.out.own
              have h6 := HR5.out.below HL.out.below
              obtain ⟨_, _, x2, _, x4, _, xf, xl⟩ := h6.cells
              have HL6 := Lib.hid h6
              clear h6 c2' c4'
              have hlay7 : RefU (wr.setCell ⟨b, 2, none⟩ (.slice vo (d.u.length + s.length) vc)) b (d.tick.lay false s) (.slice vo (d.u.length + s.length) vc) := by
                have hb7 := heap_set (i := 2) (.slice vo (d.u.length + s.length) vc) HL6.out.blk
                refine ⟨by rw [hb7]; simp [refBlock, DS.lay, DS.tick], ?_⟩
                have h1 := owns_base HL.out.own (Nat.zero_le _)
                rw [List.take_length] at h1
                have h2 := own_touch h1 ((Touch.refl (· = b) wr).setCell (a := ⟨b, 2, none⟩) (.slice vo (d.u.length + s.length) vc) (fun _ => rfl)) (fun k hk e => by
                  have h3 := (HL.out.own.lt k hk).1
                  have h4 := HT5.out.size
                  have h5 := HR5.out.lt
                  omega)
                have e : (d.tick.lay false s).u.length = d.u.length + s.length := by simp [DS.lay, DS.tick]
                rw [e]; exact h2
              have HL7 := Lib.hid hlay7
              have ht7 : Hid (Touch (· = b) w (wr.setCell ⟨b, 2, none⟩ (.slice vo (d.u.length + s.length) vc))) := Touch.setCell (Touch.trans HT5.out (Touch.of_below (S := fun _ => False) HL.out.below) (fun _ _ h => h.elim)) _ (fun _ => rfl)
              have hn7 : Hid (Newer w us.ownBlock (Value.ownBlock (.slice vo (d.u.length + s.length) vc))) := fun k hk => .inr (by have := (HL.out.own.lt k hk).1; have := HT5.out.size; omega)
              clear hlay7
              first
                | (have HX : Hid (d.append 0 s = (d.tick.lay false s, 0)) := by unfold DS.append; rw [if_neg (by simp [HD.out]), hno]; simp only []; rw [if_neg HC.out, if_neg (by simp [HG.out])]; exact rfl
                   go_wp2
                   go_ret
                   refine ⟨ret_int (by rw [HX.out]), _, ?_, hn7.out, ht7.out⟩
                   rw [HX.out] at hok' ⊢
                   exact ⟨hok', _, HL7.out, rfl⟩)
                | (have HX : Hid (d.append 0 s = ((d.tick.lay false s).die d.keep, 2)) := by unfold DS.append; rw [if_neg (by simp [HD.out]), hno]; simp only []; rw [if_neg HC.out, if_pos HG.out]; exact rfl
                   have hok7 : (d.tick.lay false s).Ok := hok.tick.lay false s (by rw [DS.size_tick]; have := HC.out; omega)
                   go_wp2_with (first | (go_at_call 132; go_must (refine (rdie_any b _ (d.tick.lay false s) _ d.keep HL7.out hok7 (by omega)).mono ?_; rintro e w8 ⟨rfl, hr8, ht8⟩; have HR8 := Lib.hid hr8; have HT8 := Lib.hid ht8; clear hr8 ht8)))
                   go_ret
                   refine ⟨ret_int (by rw [HX.out]), none, ?_, Newer.none _ _, Touch.trans ht7.out HT8.out (fun _ _ h => h)⟩
                   rw [HX.out] at hok' ⊢
                   exact ⟨hok', _, HR8.out, rfl⟩)
      · simp only [DS.fi, if_true] at HZ hok' ⊢
        have HZ' : Hid (d.sizeI 1 = (d.size true : Int)) := HZ
        have hno : DS.fileNo 1 = some true := rfl
        clear HZ
        by_cases hc : d.size true + s.length > 1048576
        · have HX : Hid (d.append 1 s = (d, 91)) := by unfold DS.append; rw [if_neg (by simp [hd]), hno]; simp only []; rw [if_pos hc]; exact rfl
          have hs2 : (s.length : Int) ≤ 9223372036853727231 := by have := HS.out; omega
          have hci : (1048576 : Int) < (d.size true : Int) + (s.length : Int) := by omega
          clear hd hc hs hno
          go_enter Tryz.func90, Tryz.ntmps90
          go_wp2_with (first
            | (go_at_call 89; go_must (refine (rsize_any b w d us _ H.out hok).mono ?_; rw [HZ'.out]; rintro e w' ⟨rfl, rfl⟩)))
          go_ret
          exact ⟨ret_int (by rw [HX.out]), us.ownBlock, by rw [HX.out]; exact ⟨hok, us, H.out, rfl⟩, Newer.refl _ _, Touch.refl _ _⟩
        · have hkp := hok.keep
          have HC := Lib.hid hc
          have HD := Lib.hid hd
          have hci : (d.size true : Int) + (s.length : Int) ≤ 1048576 := by omega
          have hsl : s.length ≤ 1048576 := by omega
          clear hd hc hs
          cases hg : d.goes
          all_goals have HG := Lib.hid hg
          all_goals clear hg
          all_goals rcases H.out.own.2 with ⟨hus, h0⟩ | ⟨g, cap, cur, hus, _, hgg, hnc, hcm, hcs, ht⟩
          all_goals (try have H0 := Lib.hid h0)
          all_goals (try clear h0)
          all_goals have HUS := Lib.hid hus
          all_goals clear hus
          all_goals (try clear hgg hnc hcm hcs ht)
          all_goals go_enter Tryz.func90, Tryz.ntmps90
          all_goals go_wp2_with (first
            | (go_at_call 89; go_must (refine (rsize_any b w d _ _ H.out hok).mono ?_; rw [HZ'.out]; rintro e w' ⟨rfl, rfl⟩))
            | (go_at_call 143; go_must (refine (rgoes_any b w d _ H.out hok).mono ?_; rw [HG.out]; rintro e w5 ⟨rfl, hr5, ht5⟩; have HR5 := Lib.hid hr5; have HT5 := Lib.hid ht5; obtain ⟨c0', c1', c2', c3', c4', c5'', cf', hlt'⟩ := hr5.cells; rw [HUS.out] at c2'; clear hr5 ht5 c0' c1' c3' c5''))
            | (at_builtin; (refine wpList_append_own2 _ rfl (.tmp 29) (.tmp 33) 90 rfl w5.heap.size 177 2 16 _ Tryz.uInfo Tryz.underlying90 rfl (by decide) _ 0 [] rfl (World.ownsRow_made w5 #[] 0 (Nat.le_refl _) (by decide) rfl) ⟨g, 0, none⟩ d.u.length cap (uCells d.u) rfl (uCells_length _) (fun j u hj => (World.cell?_of_block (heap_alloc _ (by rw [addr_block]; exact (HR5.out.own.lt g (by rw [HUS.out]; rfl)).2))).trans (HR5.out.own.cells (g := g) (by rw [HUS.out]; rfl) j u hj)) (uCells_one _) (by unfold maxLen; omega) (by omega) (by simp) ?_; intro v0 w6 ho hgr hb; have HL0 : Hid (LayRel w5 w6 d.u true s 0 v0) := ⟨by simpa using ho, (Touch.trans (Touch.of_below (S := fun _ => False) (balloc w5 _)) (touch_of_grown hgr) (fun k hk h => by have : w5.heap.size = k := Option.some.inj h; omega)).below (Nat.le_refl _) (fun _ _ h => h)⟩; clear ho hgr hb)))
          all_goals go_loopw [8, 9] (fun v i wr => ∃ j : Nat, i = .int .i64 j ∧ j ≤ s.length ∧ LayRel w5 wr d.u true s j v) (fun _ i _ => s.length - (intOf i).toNat)
          all_goals first
            | (case atStart =>
                first
                  | exact ⟨0, rfl, Nat.zero_le _, HL0.out⟩
                  | (have hu0 : d.u = [] := List.eq_nil_of_length_eq_zero H0.out
                     exact ⟨0, rfl, Nat.zero_le _, by rw [hu0]; exact World.ownsRow_made w5 #[] 0 (Nat.le_refl _) (by decide) rfl, balloc w5 _⟩))
            | skip
          all_goals
            obtain ⟨j, rfl, hj, hlay⟩ := hrel
            have HL := Lib.hid hlay
            have hsz := hlay.below.size
            clear hlay
            by_cases hlt : j < s.length
            · obtain ⟨x, hx⟩ : ∃ x, s[j]? = some x := ⟨_, List.getElem?_eq_getElem hlt⟩
              have hx' : s[j] = x := by rw [List.getElem?_eq_getElem hlt] at hx; exact Option.some.inj hx
              have HXX := Lib.hid hx
              have HXB := Lib.hid hx'
              clear hx hx'
              go_wp2_with (first | (at_builtin; go_must (refine wpList_append_own2 _ rfl (.tmp 41) (.tmp 47) 90 rfl w5.heap.size 177 2 16 _ Tryz.uInfo Tryz.underlying90 rfl (by decide) _ _ _ rfl (own_touch HL.out.own (Touch.of_below (S := fun _ => False) (balloc wr _)) (fun _ _ h => h)) ⟨wr.heap.size, 0, none⟩ 1 1 [.int .i64 1, .int .u8 x.toNat] rfl rfl (fun i u hi => by
                  match i, hi with
                  | 0, hi => simp at hi; subst hi; exact cell_of (heap_new wr _) rfl
                  | 1, hi => simp at hi; subst hi; exact cell_of (heap_new wr _) (congrArg (fun y : UInt8 => some (Value.int .u8 (y.toNat : Int))) HXB.out)) (by intro u hu; simp at hu; rcases hu with rfl | rfl <;> rfl) (by unfold maxLen; omega) (by omega) (by simp; omega) ?_; intro v' w1 ho hgr hb; have HS' : Hid (LayRel w5 w1 d.u true s (j + 1) v') := HL.out.step HXX.out (balloc wr _) ho hgr; clear ho hgr hb)))
              go_roundw
              case rel => exact ⟨j + 1, by go_num, by omega, HS'.out⟩
              case measure => simp [intOf]; omega
            · obtain rfl : j = s.length := by omega
              obtain ⟨vo, vc, rfl⟩ := owns_slice HL.out.own
              have h6 := HR5.out.below HL.out.below
              obtain ⟨_, _, x2, _, x4, _, xf, xl⟩ := h6.cells
              have HL6 := Lib.hid h6
              clear h6 c2' c4'
              have hlay7 : RefU (wr.setCell ⟨b, 2, none⟩ (.slice vo (d.u.length + s.length) vc)) b (d.tick.lay true s) (.slice vo (d.u.length + s.length) vc) := by
                have hb7 := heap_set (i := 2) (.slice vo (d.u.length + s.length) vc) HL6.out.blk
                refine ⟨by rw [hb7]; simp [refBlock, DS.lay, DS.tick], ?_⟩
                have h1 := owns_base HL.out.own (Nat.zero_le _)
                rw [List.take_length] at h1
                have h2 := own_touch h1 ((Touch.refl (· = b) wr).setCell (a := ⟨b, 2, none⟩) (.slice vo (d.u.length + s.length) vc) (fun _ => rfl)) (fun k hk e => by
                  have h3 := (HL.out.own.lt k hk).1
                  have h4 := HT5.out.size
                  have h5 := HR5.out.lt
                  omega)
                have e : (d.tick.lay true s).u.length = d.u.length + s.length := by simp [DS.lay, DS.tick]
                rw [e]; exact h2
              have HL7 := Lib.hid hlay7
              have ht7 : Hid (Touch (· = b) w (wr.setCell ⟨b, 2, none⟩ (.slice vo (d.u.length + s.length) vc))) := Touch.setCell (Touch.trans HT5.out (Touch.of_below (S := fun _ => False) HL.out.below) (fun _ _ h => h.elim)) _ (fun _ => rfl)
              have hn7 : Hid (Newer w us.ownBlock (Value.ownBlock (.slice vo (d.u.length + s.length) vc))) := fun k hk => .inr (by have := (HL.out.own.lt k hk).1; have := HT5.out.size; omega)
              clear hlay7
              first
                | (have HX : Hid (d.append 1 s = (d.tick.lay true s, 0)) := by unfold DS.append; rw [if_neg (by simp [HD.out]), hno]; simp only []; rw [if_neg HC.out, if_neg (by simp [HG.out])]; exact rfl
                   go_wp2
                   go_ret
                   refine ⟨ret_int (by rw [HX.out]), _, ?_, hn7.out, ht7.out⟩
                   rw [HX.out] at hok' ⊢
                   exact ⟨hok', _, HL7.out, rfl⟩)
                | (have HX : Hid (d.append 1 s = ((d.tick.lay true s).die d.keep, 2)) := by unfold DS.append; rw [if_neg (by simp [HD.out]), hno]; simp only []; rw [if_neg HC.out, if_pos HG.out]; exact rfl
                   have hok7 : (d.tick.lay true s).Ok := hok.tick.lay true s (by rw [DS.size_tick]; have := HC.out; omega)
                   go_wp2_with (first | (go_at_call 132; go_must (refine (rdie_any b _ (d.tick.lay true s) _ d.keep HL7.out hok7 (by omega)).mono ?_; rintro e w8 ⟨rfl, hr8, ht8⟩; have HR8 := Lib.hid hr8; have HT8 := Lib.hid ht8; clear hr8 ht8)))
                   go_ret
                   refine ⟨ret_int (by rw [HX.out]), none, ?_, Newer.none _ _, Touch.trans ht7.out HT8.out (fun _ _ h => h)⟩
                   rw [HX.out] at hok' ⊢
                   exact ⟨hok', _, HR8.out, rfl⟩)
    · have hf' : (f != 0) = true ∧ (f != 1) = true := by constructor <;> (rw [bne_iff_ne]; omega)
      have h2 : (f == 0) = false ∧ (f == 1) = false := by constructor <;> (rw [beq_eq_false_iff_ne]; omega)
      obtain ⟨h0, h1⟩ := hf'
      obtain ⟨h2, h3⟩ := h2
      have HX : Hid (d.append f s = (d, 90)) := by unfold DS.append; rw [if_neg (by simp [hd]), DS.fileNo_none hf]; exact rfl
      clear hf hd hs
      go_enter Tryz.func90, Tryz.ntmps90
      go_wp2
      go_ret
      exact ⟨ret_int (by rw [HX.out]), us.ownBlock, by rw [HX.out]; exact ⟨hok, us, H.out, rfl⟩, Newer.refl _ _, Touch.refl _ _⟩
  · rw [hd] at c5
    have HX : Hid (d.append f s = (d, 2)) := by unfold DS.append; rw [if_pos hd]; exact rfl
    clear hd hs
    go_enter Tryz.func90, Tryz.ntmps90
    go_wp2
    go_ret
    exact ⟨ret_int (by rw [HX.out]), us.ownBlock, by rw [HX.out]; exact ⟨hok, us, H.out, rfl⟩, Newer.refl _ _, Touch.refl _ _⟩
end Go.Proofs.YtpjpknndfhablaaGreat
namespace Go.Proofs.YtpjpknndfhablaaGreat
open Go.RowKit

/-- In w block c is a disk in state d, all its blocks made since w0; nothing older has turned. -/
def DiskNew (w0 w : World) (c : Nat) (d : DS) (m : Nat) : Prop := w0.heap.size ≤ c ∧ Below w0.heap.size w0 w ∧ ∃ rb, DiskAt w c d m rb ∧ ∀ k, rb = some k → w0.heap.size ≤ k

theorem DiskNew.ok {w0 w : World} {c : Nat} {d : DS} {m : Nat} (h : DiskNew w0 w c d m) : d.Ok := by obtain ⟨_, _, rb, h, _⟩ := h; exact h.1
theorem DiskNew.size {w0 w : World} {c : Nat} {d : DS} {m : Nat} (h : DiskNew w0 w c d m) : w0.heap.size ≤ w.heap.size := h.2.1.size
theorem DiskNew.turn {w0 w w' : World} {c : Nat} {d' : DS} {m' : Nat} {rb rb' : Option Nat} (hc : w0.heap.size ≤ c) (hb : Below w0.heap.size w0 w) (hr : ∀ k, rb = some k → w0.heap.size ≤ k)
    (h' : DiskAt w' c d' m' rb') (hn : Newer w rb rb') (ht : Touch (own2 c rb) w w') : DiskNew w0 w' c d' m' := by
  refine ⟨hc, hb.trans (ht.below hb.size (fun k hk ho => ?_)), rb', h', fun k hk => ?_⟩
  · rcases ho with rfl | ho
    · omega
    · have := hr k ho; omega
  · rcases hn k hk with h | h
    · exact hr k h
    · exact Nat.le_trans hb.size h
theorem DiskNew.below {w0 w w' : World} {c : Nat} {d : DS} {m : Nat} (h : DiskNew w0 w c d m) (hb : Below w.heap.size w w') : DiskNew w0 w' c d m := by
  obtain ⟨hc, hb0, rb, h, hr⟩ := h
  exact ⟨hc, hb0.trans (hb.mono hb0.size), rb, h.below hb, hr⟩
theorem DiskNew.mono {w0 w : World} {c : Nat} {d : DS} {m n : Nat} (h : DiskNew w0 w c d m) (hmn : m ≤ n) : DiskNew w0 w c d n := by
  obtain ⟨hc, hb0, rb, h, hr⟩ := h
  exact ⟨hc, hb0, rb, h.mono hmn, hr⟩
section
variable {w0 w : World} {c : Nat} {d : DS} {m : Nat} (h : DiskNew w0 w c d m)
include h
theorem append_new (f : Int) (s : List UInt8) (hs : s.length ≤ 9223372036854775807) (hm : m < 5000000000000) :
    Calls Tryz.prog 126 #[.pointer (some ⟨c, 0, none⟩), .int .i64 f, .string ⟨s.toArray⟩] w fun e w' => e = .returned (.int .i64 (d.append f s).2) ∧ DiskNew w0 w' c (d.append f s).1 (m + 1) := by
  obtain ⟨hc, hb, rb, h, hr⟩ := h
  exact (append_any c w d m rb f s h hs hm).mono fun e w' ⟨he, rb', h', hn, ht⟩ => ⟨he, .turn hc hb hr h' hn ht⟩
theorem sync_new : Calls Tryz.prog 139 #[.pointer (some ⟨c, 0, none⟩)] w fun e w' => e = .returned (.int .i64 d.sync.2) ∧ DiskNew w0 w' c d.sync.1 m := by
  obtain ⟨hc, hb, rb, h, hr⟩ := h
  exact (sync_any c w d m rb h).mono fun e w' ⟨he, rb', h', hn, ht⟩ => ⟨he, .turn hc hb hr h' hn ht⟩
theorem cut_new (f n : Int) : Calls Tryz.prog 98 #[.pointer (some ⟨c, 0, none⟩), .int .i64 f, .int .i64 n] w fun e w' => e = .returned (.int .i64 (d.cut f n).2) ∧ DiskNew w0 w' c (d.cut f n).1 m := by
  obtain ⟨hc, hb, rb, h, hr⟩ := h
  exact (cut_any c w d m rb f n h).mono fun e w' ⟨he, rb', h', hn, ht⟩ => ⟨he, .turn hc hb hr h' hn ht⟩
theorem crash_new (k : Int) (hk : k ≤ 9223372036854775807) : Calls Tryz.prog 31 #[.pointer (some ⟨c, 0, none⟩), .int .i64 k] w fun e w' => e = .returned (.int .i64 (d.crash k).2) ∧ DiskNew w0 w' c (d.crash k).1 m := by
  obtain ⟨hc, hb, rb, h, hr⟩ := h
  exact (crash_any c w d m rb k h hk).mono fun e w' ⟨he, rb', h', hn, ht⟩ => ⟨he, .turn hc hb hr h' hn ht⟩
theorem arm_new (n k : Int) (hn : n ≤ 9223372036854775807) (hk : k ≤ 9223372036854775807) : Calls Tryz.prog 28 #[.pointer (some ⟨c, 0, none⟩), .int .i64 n, .int .i64 k] w fun e w' => e = .returned (.int .i64 (d.arm n k).2) ∧ DiskNew w0 w' c (d.arm n k).1 m := by
  obtain ⟨hc, hb, rb, h, hr⟩ := h
  exact (arm_any c w d m rb n k h hn hk).mono fun e w' ⟨he, h', ht⟩ => ⟨he, .turn hc hb hr h' (Newer.refl _ _) ht⟩
theorem revive_new : Calls Tryz.prog 32 #[.pointer (some ⟨c, 0, none⟩)] w fun e w' => e = .returned (.tuple #[]) ∧ DiskNew w0 w' c d.revive m := by
  obtain ⟨hc, hb, rb, h, hr⟩ := h
  exact (revive_any c w d m rb h).mono fun e w' ⟨he, h', ht⟩ => ⟨he, .turn hc hb hr h' (Newer.refl _ _) ht⟩
theorem dead_new : Calls Tryz.prog 30 #[.pointer (some ⟨c, 0, none⟩)] w fun e w' => e = .returned (.bool d.dead) ∧ w = w' := by
  obtain ⟨hc, hb, rb, h, hr⟩ := h
  exact dead_any c w d m rb h
theorem waiting_new : Calls Tryz.prog 113 #[.pointer (some ⟨c, 0, none⟩)] w fun e w' => e = .returned (.int .i64 d.u.length) ∧ DiskNew w0 w' c d m ∧ Below w.heap.size w w' := by
  have h0 := h
  obtain ⟨hc, hb, rb, ⟨hok, rs, r, h, _, _⟩, hr⟩ := h
  exact (waiting_any c w d rs r h hok).mono fun e w' ⟨he, hb'⟩ => ⟨he, h0.below hb', hb'⟩
theorem size_new (f : Int) : Calls Tryz.prog 85 #[.pointer (some ⟨c, 0, none⟩), .int .i64 f] w fun e w' => e = .returned (.int .i64 (d.sizeI f)) ∧ DiskNew w0 w' c d m ∧ Below w.heap.size w w' := by
  have h0 := h
  obtain ⟨hc, hb, rb, ⟨hok, rs, r, h, _, _⟩, hr⟩ := h
  exact (size_any c w d rs r f h hok).mono fun e w' ⟨he, hb'⟩ => ⟨he, h0.below hb', hb'⟩
theorem files_new : Calls Tryz.prog 17 #[.pointer (some ⟨c, 0, none⟩)] w fun e w' => ∃ g, e = .returned (.slice (some ⟨g, 0, none⟩) 2 2) ∧ w.heap.size ≤ g ∧ Two w' g (d.file false) (d.file true) ∧ DiskNew w0 w' c d m ∧ Below w.heap.size w w' := by
  have h0 := h
  obtain ⟨hc, hb, rb, h, hr⟩ := h
  exact (files_any c w d m rb h).mono fun e w' ⟨g, he, hg, ht, hb'⟩ => ⟨g, he, hg, ht, h0.below hb', hb'⟩
end

/-- Whatever is no disk's lies as it lay. -/
def NotDisk (o : Obj) : Prop := ∀ c f, o ≠ .cells c 89 f ∧ o ≠ .cells c 106 f
def KeepsND (w w' : World) : Prop := ∀ (g : Nat) (o : Obj), w.heap[g]? = some o → NotDisk o → w'.heap[g]? = some o
theorem KeepsND.below {w w' : World} (h : Below w.heap.size w w') : KeepsND w w' := fun _ _ hg _ => stays hg h
theorem KeepsND.trans {w w1 w2 : World} (h : KeepsND w w1) (h' : KeepsND w1 w2) : KeepsND w w2 := fun g o hg hn => h' g o (h g o hg hn) hn
theorem keeps_of_touch {w w' : World} {c : Nat} {d : DS} {m : Nat} {rb : Option Nat} (h : DiskAt w c d m rb) (ht : Touch (own2 c rb) w w') : KeepsND w w' := by
  intro g o hg hn
  refine (ht.block g (heap_lt hg) ?_).trans hg
  obtain ⟨_, rs, r, h, _, rfl⟩ := h
  rintro (rfl | ho)
  · have := h.blk; rw [hg] at this
    exact (hn _ _).1 (Option.some.inj this)
  · rcases h.own.2 with ⟨rfl, _⟩ | ⟨g', cap, cur, rfl, _, hg', _⟩
    · cases ho
    · have e : g' = g := Option.some.inj ho
      subst e
      rw [hg] at hg'
      exact (hn _ _).2 (Option.some.inj hg')
theorem Two.keeps {w w' : World} {g : Nat} {s t : List UInt8} (h : Two w g s t) (hk : KeepsND w w') : Two w' g s t := by
  obtain ⟨cur, hg, h0, h1⟩ := h
  exact ⟨cur, hk g _ hg (fun c f => ⟨by simp, by simp⟩), h0, h1⟩
section
variable {w0 w : World} {c : Nat} {d : DS} {m : Nat} (h : DiskNew w0 w c d m)
include h
theorem append_newK (f : Int) (s : List UInt8) (hs : s.length ≤ 9223372036854775807) (hm : m < 5000000000000) :
    Calls Tryz.prog 126 #[.pointer (some ⟨c, 0, none⟩), .int .i64 f, .string ⟨s.toArray⟩] w fun e w' => e = .returned (.int .i64 (d.append f s).2) ∧ DiskNew w0 w' c (d.append f s).1 (m + 1) ∧ KeepsND w w' := by
  obtain ⟨hc, hb, rb, h, hr⟩ := h
  exact (append_any c w d m rb f s h hs hm).mono fun e w' ⟨he, rb', h', hn, ht⟩ => ⟨he, .turn hc hb hr h' hn ht, keeps_of_touch h ht⟩
theorem sync_newK : Calls Tryz.prog 139 #[.pointer (some ⟨c, 0, none⟩)] w fun e w' => e = .returned (.int .i64 d.sync.2) ∧ DiskNew w0 w' c d.sync.1 m ∧ KeepsND w w' := by
  obtain ⟨hc, hb, rb, h, hr⟩ := h
  exact (sync_any c w d m rb h).mono fun e w' ⟨he, rb', h', hn, ht⟩ => ⟨he, .turn hc hb hr h' hn ht, keeps_of_touch h ht⟩
theorem cut_newK (f n : Int) : Calls Tryz.prog 98 #[.pointer (some ⟨c, 0, none⟩), .int .i64 f, .int .i64 n] w fun e w' => e = .returned (.int .i64 (d.cut f n).2) ∧ DiskNew w0 w' c (d.cut f n).1 m ∧ KeepsND w w' := by
  obtain ⟨hc, hb, rb, h, hr⟩ := h
  exact (cut_any c w d m rb f n h).mono fun e w' ⟨he, rb', h', hn, ht⟩ => ⟨he, .turn hc hb hr h' hn ht, keeps_of_touch h ht⟩
theorem crash_newK (k : Int) (hk : k ≤ 9223372036854775807) : Calls Tryz.prog 31 #[.pointer (some ⟨c, 0, none⟩), .int .i64 k] w fun e w' => e = .returned (.int .i64 (d.crash k).2) ∧ DiskNew w0 w' c (d.crash k).1 m ∧ KeepsND w w' := by
  obtain ⟨hc, hb, rb, h, hr⟩ := h
  exact (crash_any c w d m rb k h hk).mono fun e w' ⟨he, rb', h', hn, ht⟩ => ⟨he, .turn hc hb hr h' hn ht, keeps_of_touch h ht⟩
end

theorem tmod_neg {n m : Int} (hm : 0 < m) (h : n.tmod m < 0) : n.tmod m + m = n % m := by
  have := Int.tmod_eq_emod (a := n) (b := m)
  have h1 := Int.emod_nonneg n (show m ≠ 0 by omega)
  have h2 := Int.emod_lt_of_pos n hm
  split at this <;> omega
theorem tmod_pos {n m : Int} (hm : 0 < m) (h : 0 ≤ n.tmod m) : n.tmod m = n % m := by
  have := Int.tmod_eq_emod (a := n) (b := m)
  have h1 := Int.emod_nonneg n (show m ≠ 0 by omega)
  have h2 := Int.emod_lt_of_pos n hm
  split at this <;> omega
theorem tmod_lo {n m : Int} (hm : 0 < m) : -m < n.tmod m ∧ n.tmod m < m := by
  have := Int.tmod_eq_emod (a := n) (b := m)
  have h1 := Int.emod_nonneg n (show m ≠ 0 by omega)
  have h2 := Int.emod_lt_of_pos n hm
  split at this <;> omega

end Go.Proofs.YtpjpknndfhablaaGreat
namespace Go.Proofs.YtpjpknndfhablaaGreat
open Go.RowKit
/-- Of none of these types. -/
def Off (ts : List TypeId) (o : Obj) : Prop := ∀ c t f, o = .cells c t f → t ∉ ts
theorem off_cells {ts : List TypeId} {c : Array Value} {t : TypeId} {f : Nat × Nat} (h : t ∉ ts) : Off ts (.cells c t f) := fun _ _ _ e => by cases e; exact h
def KeepsOff (ts : List TypeId) (w w' : World) : Prop := ∀ (g : Nat) (o : Obj), w.heap[g]? = some o → Off ts o → w'.heap[g]? = some o
theorem KeepsOff.refl (ts : List TypeId) (w : World) : KeepsOff ts w w := fun _ _ h _ => h
theorem KeepsOff.below {ts : List TypeId} {w w' : World} (h : Below w.heap.size w w') : KeepsOff ts w w' := fun _ _ hg _ => stays hg h
theorem KeepsOff.trans {ts : List TypeId} {w w1 w2 : World} (h : KeepsOff ts w w1) (h' : KeepsOff ts w1 w2) : KeepsOff ts w w2 := fun g o hg hn => h' g o (h g o hg hn) hn
theorem KeepsOff.mono {ts us : List TypeId} {w w' : World} (h : KeepsOff ts w w') (hs : ∀ t, t ∈ ts → t ∈ us) : KeepsOff us w w' := fun g o hg hn => h g o hg (fun c t f e ht => hn c t f e (hs t ht))
theorem KeepsOff.cells {ts : List TypeId} {w w' : World} (h : KeepsOff ts w w') {g : Nat} {c : Array Value} {t : TypeId} {f : Nat × Nat} (hg : w.heap[g]? = some (.cells c t f)) (ht : t ∉ ts) : w'.heap[g]? = some (.cells c t f) := h g _ hg (off_cells ht)
/-- These blocks are of those types. -/
def Typed (ts : List TypeId) (w : World) (S : Nat → Prop) : Prop := ∀ k, S k → ∃ c t f, w.heap[k]? = some (.cells c t f) ∧ t ∈ ts
theorem KeepsOff.of_touch {ts : List TypeId} {w w' : World} {S : Nat → Prop} (hs : Typed ts w S) (ht : Touch S w w') : KeepsOff ts w w' := by
  intro g o hg hn
  refine (ht.block g (heap_lt hg) fun h => ?_).trans hg
  obtain ⟨c, t, f, hc, hm⟩ := hs g h
  rw [hg] at hc
  exact hn c t f (Option.some.inj hc) hm
theorem KeepsOff.own {ts : List TypeId} {w w' : World} {base e size n : Nat} {v : Value} {xs : List Value} (hk : KeepsOff ts w w') (h : w.ownsRow base e size v n xs) (he : e ∉ ts) : w'.ownsRow base e size v n xs := by
  refine ⟨h.1, ?_⟩
  rcases h.2 with h0 | ⟨g, cap, cur, rfl, hb, hg, rest⟩
  · exact .inl h0
  · exact .inr ⟨g, cap, cur, rfl, hb, hk.cells hg he, rest⟩
theorem typed_own {ts : List TypeId} {w : World} {base e size n : Nat} {v : Value} {xs : List Value} (h : w.ownsRow base e size v n xs) (he : e ∈ ts) : Typed ts w (fun k => v.ownBlock = some k) := by
  intro k hk
  rcases h.2 with ⟨rfl, _⟩ | ⟨g, cap, cur, rfl, hb, hg, _⟩
  · cases hk
  · have e1 : g = k := Option.some.inj hk
    subst e1
    exact ⟨_, _, _, hg, he⟩
theorem DiskAt.typed {w : World} {c : Nat} {d : DS} {m : Nat} {rb : Option Nat} (h : DiskAt w c d m rb) : Typed [89, 106] w (own2 c rb) := by
  obtain ⟨_, rs, r, h, _, rfl⟩ := h
  rintro k (rfl | hk)
  · exact ⟨_, _, _, h.blk, by simp⟩
  · exact typed_own h.own (by simp) k hk
theorem RefAt.typed {w : World} {y : Nat} {d : DS} {ub : Option Nat} (h : RefAt w y d ub) : Typed [92] w (· = y) := by
  obtain ⟨_, us, h, _⟩ := h
  rintro k rfl
  exact ⟨_, _, _, h.blk, by simp⟩
theorem DiskAt.keepsOff {ts : List TypeId} {w w' : World} (hk : KeepsOff ts w w') (h1 : 89 ∉ ts) (h2 : 106 ∉ ts) {c : Nat} {d : DS} {m : Nat} {rb : Option Nat} (h : DiskAt w c d m rb) : DiskAt w' c d m rb := by
  obtain ⟨ok, rs, r, h, hm, rfl⟩ := h
  exact ⟨ok, rs, r, ⟨hk.cells h.blk h1, hk.own h.own h2, h.u⟩, hm, rfl⟩
theorem RefAt.keepsOff {ts : List TypeId} {w w' : World} (hk : KeepsOff ts w w') (h1 : 92 ∉ ts) (h2 : 177 ∉ ts) {y : Nat} {d : DS} {ub : Option Nat} (h : RefAt w y d ub) : RefAt w' y d ub := by
  obtain ⟨ok, us, h, rfl⟩ := h
  exact ⟨ok, us, ⟨hk.cells h.blk h1, hk.own h.own h2⟩, rfl⟩
theorem LogAt.keepsOff {ts : List TypeId} {w w' : World} (hk : KeepsOff ts w w') (h1 : 148 ∉ ts) {x c : Nat} {l : Wal.LS} (h : LogAt w x c l) : LogAt w' x c l := hk.cells h h1
theorem Two.keepsOff {ts : List TypeId} {w w' : World} (hk : KeepsOff ts w w') (h1 : 9 ∉ ts) {g : Nat} {s t : List UInt8} (h : Two w g s t) : Two w' g s t := by
  obtain ⟨cur, hg, h0, h1'⟩ := h
  exact ⟨cur, hk.cells hg h1, h0, h1'⟩
theorem RecsAt.keepsOff {ts : List TypeId} {w w' : World} (hk : KeepsOff ts w w') (h1 : 9 ∉ ts) {base : Nat} {v : Value} {rs : List (List UInt8)} (h : RecsAt w base v rs) : RecsAt w' base v rs := by
  obtain ⟨g, cur, hv, hb, hg, rest⟩ := h
  exact ⟨g, cur, hv, hb, hk.cells hg h1, rest⟩
theorem LogAt.typed3 {w : World} {x c c' : Nat} {l : Wal.LS} {d : DS} {m : Nat} {rb : Option Nat} (hl : LogAt w x c' l) (h : DiskAt w c d m rb) : Typed [89, 106, 148] w (own3 c rb x) := by
  rintro k (hk | rfl)
  · obtain ⟨a, t, f, h1, h2⟩ := h.typed k hk
    exact ⟨a, t, f, h1, by simp at h2; rcases h2 with rfl | rfl <;> simp⟩
  · exact ⟨_, _, _, hl, by simp⟩
end Go.Proofs.YtpjpknndfhablaaGreat
namespace Go.Proofs.YtpjpknndfhablaaGreat
open Go.RowKit Go.Shelf
theorem buiSize : (Tryz.prog.info? 189).map (·.size) = some 2 := by kernel_rfl
theorem buiLies : liesAt Tryz.prog Tryz.prog.depth 189 (2 / Tryz.prog.cellsOf 189) 0 189 1 = true := by kernel_rfl
set_option maxHeartbeats 1000000 in
set_option maxRecDepth 100000 in
theorem copyCheck_used (b : Nat) (w : World) (h0 : w.cell? ⟨b, 0, none⟩ = some (.pointer (some ⟨b, 0, none⟩))) :
    Calls Tryz.prog 159 #[.pointer (some ⟨b, 0, none⟩)] w fun e w' => e = .returned (.tuple #[]) ∧ w' = w := by
  obtain ⟨j, hj, _⟩ := Option.map_eq_some_iff.1 buiSize
  go_enter Tryz.func159, Tryz.ntmps159
  go_wp2
  rw [Lib.run_neq_ptr_same w _ Tryz.underlying187 hj]
  go_wp2
  go_end0
  exact ⟨rfl, rfl⟩
set_option maxHeartbeats 1000000 in
set_option maxRecDepth 100000 in
theorem copyCheck_fresh (b : Nat) (w : World) (h0 : w.cell? ⟨b, 0, none⟩ = some (.pointer none)) (hsh : w.shape? b = some (189, 2)) (hfz : w.frozen? ⟨b, 0, none⟩ = false) :
    Calls Tryz.prog 159 #[.pointer (some ⟨b, 0, none⟩)] w fun e w' => e = .returned (.tuple #[]) ∧ w' = w.setCell ⟨b, 0, none⟩ (.pointer (some ⟨b, 0, none⟩)) := by
  obtain ⟨j, hj, hjs⟩ := Option.map_eq_some_iff.1 buiSize
  go_enter Tryz.func159, Tryz.ntmps159
  go_wp2
  rw [Lib.run_to_unsafe w ⟨b, 0, none⟩ Tryz.underlying187 Tryz.underlying225 hj (by rw [hjs]; decide) hsh (Nat.zero_lt_succ 1)]
  simp only [Result.andThen]
  rw [Oper.upon_value]
  go_wp2
  rw [run_callFunc_extern Tryz.func181 (by kernel_rfl) (by kernel_rfl) (by kernel_rfl) (e := Extern.AbiNoEscape.same) (by kernel_rfl)]
  rw [Lib.run_noEscape]
  simp only [Result.andThen]
  rw [Oper.upon_value]
  go_wp2
  rw [Lib.run_from_unsafe w ⟨b, 0, none⟩ Tryz.underlying225 Tryz.underlying187 hj hsh buiLies]
  simp only [Result.andThen]
  rw [Oper.upon_value]
  go_wp2
  go_end0
  exact ⟨rfl, rfl⟩
def buiT : List TypeId := [189, 5]
theorem keeps_set {w : World} {b i : Nat} {cs : Array Value} {T : TypeId} {fr : Nat × Nat} {ts : List TypeId} (h : w.heap[b]? = some (.cells cs T fr)) (hT : T ∈ ts) (v : Value) : KeepsOff ts w (w.setCell ⟨b, i, none⟩ v) :=
  KeepsOff.of_touch (S := (· = b)) (by rintro k rfl; exact ⟨_, _, _, h, hT⟩) ((Touch.refl (· = b) w).setCell _ (fun _ => rfl))
theorem copyCheck_any (B b : Nat) (bs : List Value) (w : World) (h : Lib.IsBuilder 189 5 B b bs w) :
    Calls Tryz.prog 159 #[.pointer (some ⟨b, 0, none⟩)] w fun e w' => e = .returned (.tuple #[]) ∧ (Lib.BuilderAt 189 5 B b (.pointer (some ⟨b, 0, none⟩)) bs w' ∧ Below B w w' ∧ KeepsOff buiT w w') := by
  rcases h with h | h
  · refine (copyCheck_fresh b w h.cell0 h.shape h.frozen0).mono ?_
    rintro e w' ⟨rfl, rfl⟩
    obtain ⟨h1, v, hbk, r⟩ := h
    exact ⟨rfl, Lib.BuilderAt.used ⟨h1, v, hbk, r⟩ _, (Below.refl B w).setCell (p := ⟨b, 0, none⟩) h1 _, keeps_set hbk (by simp [buiT]) _⟩
  · refine (copyCheck_used b w h.cell0).mono ?_
    rintro e w' ⟨rfl, rfl⟩
    exact ⟨rfl, h, Below.refl B _, KeepsOff.refl _ _⟩
set_option maxHeartbeats 1000000 in
set_option maxRecDepth 100000 in
theorem writeString_any (B b : Nat) (bs : List Value) (s : ByteArray) (w : World) (h : Lib.IsBuilder 189 5 B b bs w) (hlen : bs.length + s.size ≤ 140737488355328) (hBw : B ≤ w.heap.size) :
    Calls Tryz.prog 122 #[.pointer (some ⟨b, 0, none⟩), .string s] w fun e w' => e = .returned (.tuple #[.int .i64 s.size, .nilIface]) ∧ (Lib.BuilderAt 189 5 B b (.pointer (some ⟨b, 0, none⟩)) (bs ++ Lib.strCells s) w' ∧ Below B w w' ∧ KeepsOff buiT w w') := by
  obtain ⟨i0, hi, hz0, hz1, hz2⟩ := info_parts Tryz.byteInfo
  go_enter Tryz.func122, Tryz.ntmps122
  go_wp2_with (go_at_call 159; refine (copyCheck_any B b bs _ h).mono ?_)
  rintro e w1 ⟨rfl, h1, hb1, hk1⟩
  obtain ⟨hB, v, hbk, hown, hne⟩ := h1
  have HK1 := Lib.hid hk1
  have HOWN := Lib.hid hown
  have HBK := Lib.hid hbk
  clear hk1
  have c0 : w1.cell? ⟨b, 0, none⟩ = some (.pointer (some ⟨b, 0, none⟩)) := by rw [Lib.cell_of_heap hbk]; rfl
  have c1 : w1.cell? ⟨b, 1, none⟩ = some v := by rw [Lib.cell_of_heap hbk]; rfl
  go_wp2_with (at_builtin; refine Lib.wpList_append_own_string _ rfl _ _ 175 9 rfl B 5 i0 Tryz.underlying175 Tryz.underlying9 hi hz0 hz1 hz2 _ _ _ rfl hown s rfl ?c3 ?c4 ?c5 ?_)
  case c3 => unfold maxLen; omega
  case c4 => omega
  case c5 => have := hb1.size; omega
  intro v' w2 hown' hgrow _
  have hlt : b < w1.heap.size := by
    rcases Nat.lt_or_ge b w1.heap.size with h' | h'
    · exact h'
    · simp [Array.getElem?_eq_none h'] at hbk
  have hb2 : w2.heap[b]? = some (.cells #[.pointer (some ⟨b, 0, none⟩), v] 189 (0, 0)) := by
    rw [hgrow.block b hlt (fun e => hne e.symm)]
    exact hbk
  have d0 : w2.cell? ⟨b, 0, none⟩ = some (.pointer (some ⟨b, 0, none⟩)) := by rw [Lib.cell_of_heap hb2]; rfl
  have d1 : w2.cell? ⟨b, 1, none⟩ = some v := by rw [Lib.cell_of_heap hb2]; rfl
  have f1 : w2.frozen? ⟨b, 1, none⟩ = false := Lib.frozen_of_heap hb2 1
  obtain ⟨ao, n', cap, rfl⟩ : ∃ ao n' cap, v' = .slice ao n' cap := by
    rcases hown'.2 with ⟨hv, _⟩ | ⟨g, cap, cur, hv, _⟩
    · exact ⟨_, _, _, hv⟩
    · exact ⟨_, _, _, hv⟩
  go_wp2
  go_ret2
  refine ⟨rfl, ?_, ?_, ?_⟩
  · exact Lib.BuilderAt.put (T := 189) (e := 5) hB hb2 (bs' := bs ++ Lib.strCells s) (by simpa [Lib.strCells_length] using hown') (by decide)
  · exact (hb1.grown hgrow (by have := hb1.size; omega) (fun k hk => (hown.lt k hk).1)).setCell (p := ⟨b, 1, none⟩) hB _
  · exact (HK1.out.trans (KeepsOff.of_touch (typed_own (ts := buiT) HOWN.out (by simp [buiT])) ((touch_of_grown hgrow).mono (fun _ _ h => h)))).trans (keeps_set hb2 (by simp [buiT]) _)
end Go.Proofs.YtpjpknndfhablaaGreat
namespace Go.Proofs.YtpjpknndfhablaaGreat
open Go.RowKit Go.Shelf
theorem buiInfo : (Tryz.prog.info? 189).map (fun i => (i.zero, i.size, i.bytes)) = some (some (.agg #[.pointer none, .slice none 0 0]), 2, 32) := by kernel_rfl
/-- A builder in block b that holds these bytes. -/
def BuiAt (w : World) (B b : Nat) (l : List UInt8) : Prop := Lib.IsBuilder 189 5 B b (Lib.byteCells l) w
theorem BuiAt.fresh (w : World) : BuiAt (w.alloc (.cells #[.pointer none, .slice none 0 0] 189)) w.heap.size w.heap.size [] :=
  .inl ⟨Nat.le_refl _, .slice none 0 0, heap_new w _, World.ownsRow_nil _ _ _ _, by simp [Value.ownBlock]⟩
theorem BuiAt.lt {w : World} {B b : Nat} {l : List UInt8} (h : BuiAt w B b l) : B ≤ b ∧ b < w.heap.size := by
  rcases h with ⟨h1, v, h2, _⟩ | ⟨h1, v, h2, _⟩
  · exact ⟨h1, heap_lt h2⟩
  · exact ⟨h1, heap_lt h2⟩
theorem BuiAt.below {w w' : World} {B b : Nat} {l : List UInt8} (h : BuiAt w B b l) (hb : Below w.heap.size w w') : BuiAt w' B b l := by
  rcases h with ⟨h1, v, h2, h3, h4⟩ | ⟨h1, v, h2, h3, h4⟩
  · exact .inl ⟨h1, v, stays h2 hb, own_touch h3 (Touch.of_below (S := fun _ => False) hb) (fun _ _ h => h), h4⟩
  · exact .inr ⟨h1, v, stays h2 hb, own_touch h3 (Touch.of_below (S := fun _ => False) hb) (fun _ _ h => h), h4⟩
theorem write_any (B b : Nat) (l s : List UInt8) (w : World) (h : BuiAt w B b l) (hlen : l.length + s.length ≤ 140737488355328) :
    Calls Tryz.prog 122 #[.pointer (some ⟨b, 0, none⟩), .string ⟨s.toArray⟩] w fun e w' => (∃ n : Int, e = .returned (.tuple #[.int .i64 n, .nilIface])) ∧ BuiAt w' B b (l ++ s) ∧ Below B w w' ∧ KeepsOff buiT w w' := by
  have hB : B ≤ w.heap.size := by have := h.lt; omega
  refine (writeString_any B b (Lib.byteCells l) ⟨s.toArray⟩ w h (by rw [Lib.byteCells_length]; simpa [ByteArray.size] using hlen) hB).mono ?_
  rintro e w' ⟨rfl, h1, h2, h3⟩
  refine ⟨⟨_, rfl⟩, .inr ?_, h2, h3⟩
  have e1 : Lib.byteCells (l ++ s) = Lib.byteCells l ++ Lib.strCells ⟨s.toArray⟩ := by simp [Lib.byteCells, Lib.strCells]
  rw [e1]
  exact h1
namespace Sto
theorem enc_append (a b : List Ch) : enc (a ++ b) = enc a ++ enc b := by simp [enc]
theorem enc_snoc {c : List Ch} {j : Nat} {x : Ch} (h : c[j]? = some x) : enc (c.take (j + 1)) = enc (c.take j) ++ enc1 x := by
  rw [List.take_add_one, h, enc_append]
  simp [enc]
theorem enc_take_le (c : List Ch) (j : Nat) : (enc (c.take j)).length ≤ (enc c).length := by
  have := congrArg List.length (enc_append (c.take j) (c.drop j))
  rw [List.take_append_drop, List.length_append] at this
  omega
theorem big_one (n : Nat) : Sha.big n 1 = [UInt8.ofNat n] := by simp [Sha.big]
end Sto
set_option maxHeartbeats 4000000 in
set_option maxRecDepth 100000 in
theorem encode11_any (v : Value) (c : List Sto.Ch) (count : Nat) (w : World) (h : ChsAt w v c) (hf : ∀ x ∈ c, Sto.Fine x) (hcount : count ≤ 4) (hlen : (Sto.encode c count).length ≤ 140737488355328) (hcl : c.length ≤ 4398046511104) :
    Calls Tryz.prog 66 #[v, .int .i64 count] w fun e w' => e = .returned (.string ⟨(Sto.encode c count).toArray⟩) ∧ Below w.heap.size w w' := by
  obtain ⟨ao, cap, rfl, hn1, hn2, hrd⟩ := chsAt_read h
  have HRD : Hid (∀ w' : World, Below w.heap.size w w' → ∀ (j : Nat) p, c[j]? = some p → ∃ g, ao = some ⟨g, 0, none⟩ ∧ g < w.heap.size ∧ w'.cell? ⟨g, j * 3, none⟩ = some (.bool p.put) ∧ w'.cell? ⟨g, j * 3 + 1, none⟩ = some (.string ⟨p.key.toArray⟩) ∧ w'.cell? ⟨g, j * 3 + 2, none⟩ = some (.string ⟨p.value.toArray⟩)) := Lib.hid (fun w' hb j p hj => by
    obtain ⟨g, e, hg, a, b, d⟩ := hrd j p hj
    exact ⟨g, e, hg, cell_later hb a, cell_later hb b, cell_later hb d⟩)
  have HF := Lib.hid hf
  clear hrd hf h
  obtain ⟨B, hB⟩ : ∃ B, w.heap.size = B := ⟨_, rfl⟩
  have hfr := BuiAt.fresh w
  have hba := balloc w (.cells #[.pointer none, .slice none 0 0] 189)
  obtain ⟨wa, hwa⟩ : ∃ W, w.alloc (.cells #[.pointer none, .slice none 0 0] 189) = W := ⟨_, rfl⟩
  rw [hwa, hB] at hfr
  rw [hwa, hB] at hba
  rw [hB] at HRD
  have HBA := Lib.hid hba
  have HFR := Lib.hid hfr
  have hnum := number11_any c.length count wa hcount (by omega)
  obtain ⟨H, hH⟩ : ∃ H, Sha.big c.length count = H := ⟨_, rfl⟩
  have hHl : H.length = count := by rw [← hH]; exact Sha.big_length _ _
  rw [hH] at hnum
  have HN := Lib.hid hnum
  have HE : Hid (Sto.encode c count = H ++ Sto.enc c) := Lib.hid (by unfold Sto.encode; rw [hH])
  rw [HE.out] at hlen
  rw [List.length_append] at hlen
  clear hnum hba hfr hH
  go_enter Tryz.func66, Tryz.ntmps66
  go_wp2_with fail
  try rw [hwa]
  try rw [hB]
  refine HN.out.mono ?_
  rintro e w1 ⟨rfl, hb1⟩
  have HB1 := Lib.hid hb1
  have HFR1 := Lib.hid (HFR.out.below hb1)
  clear hb1 hwa
  go_wp2_with fail
  refine (write_any B B [] H w1 HFR1.out (by simp; omega)).mono ?_
  rintro e w2 ⟨⟨n, rfl⟩, hbu, hb2, _⟩
  have HBU := Lib.hid hbu
  have HB2 : Hid (Below B w w2) := Lib.hid ((HBA.out.trans (HB1.out.mono (by have := HFR.out.lt; omega))).trans hb2)
  clear hbu hb2
  go_wp2_with fail
  go_loopw [16] (fun i wr => ∃ j : Nat, i = .int .i64 j ∧ j ≤ c.length ∧ BuiAt wr B B (H ++ Sto.enc (c.take j)) ∧ Below B w wr) (fun i _ => c.length - (intOf i).toNat)
  case atStart => exact ⟨0, rfl, Nat.zero_le _, by simpa [Sto.enc] using HBU.out, HB2.out⟩
  case round =>
    obtain ⟨j, rfl, hj, hbu, hbl⟩ := hrel
    have HU := Lib.hid hbu
    have HB := Lib.hid hbl
    clear hbu hbl
    by_cases hlt : j < c.length
    · obtain ⟨⟨pu, ky, vl⟩, hx⟩ : ∃ x, c[j]? = some x := ⟨_, List.getElem?_eq_getElem hlt⟩
      obtain ⟨g, rfl, hg, c0, c1, c2⟩ := HRD.out _ HB.out j _ hx
      simp only at c0 c1 c2
      have HFX := Lib.hid (HF.out _ (List.mem_of_getElem? hx))
      have hkl : ky.length ≤ 64 := (Sto.keyOk_iff.1 HFX.out.key).2
      have hvl : vl.length ≤ 4096 := Sto.valueOk_iff.1 HFX.out.value
      have hsn := Sto.enc_snoc hx
      have hle := Sto.enc_take_le c (j + 1)
      have HSN := Lib.hid hsn
      have hszl : (Sto.enc (c.take j)).length + (Sto.enc1 ⟨pu, ky, vl⟩).length ≤ (Sto.enc c).length := by
        rw [hsn, List.length_append] at hle
        exact hle
      obtain ⟨gb, hgb⟩ : ∃ g, wr.heap.size = g := ⟨_, rfl⟩
      have hgB : B < gb := by have := HU.out.lt; omega
      have hnw := heap_new wr (.cells #[.bool pu, .string ⟨ky.toArray⟩, .string ⟨vl.toArray⟩] 116)
      have hbw := balloc wr (.cells #[.bool pu, .string ⟨ky.toArray⟩, .string ⟨vl.toArray⟩] 116)
      obtain ⟨W1, hW1⟩ : ∃ W, wr.alloc (.cells #[.bool pu, .string ⟨ky.toArray⟩, .string ⟨vl.toArray⟩] 116) = W := ⟨_, rfl⟩
      rw [hW1] at hnw hbw
      rw [hgb] at hnw
      have HNW := Lib.hid hnw
      have HU1 := Lib.hid (HU.out.below hbw)
      have HBW : Hid (Below B w W1) := Lib.hid (HB.out.trans (hbw.mono (by omega)))
      have e0 := cell_of (i := 0) hnw rfl
      clear hnw hbw hsn hle hx
      cases pu with
      | false =>
        have he1 : Sto.enc1 ⟨false, ky, vl⟩ = [0] ++ [UInt8.ofNat ky.length] ++ ky := by simp [Sto.enc1]
        rw [he1] at hszl
        rw [he1] at HSN
        simp only [List.length_append, List.length_cons, List.length_nil] at hszl
        have HNK : Hid (∀ W, Calls Tryz.prog 123 #[.int .i64 0, .int .i64 1] W fun e w' => e = .returned (.string ⟨#[0]⟩) ∧ Below W.heap.size W w') := Lib.hid (fun W => number11_any 0 1 W (by decide) (by decide))
        have HNL : Hid (∀ W, Calls Tryz.prog 123 #[.int .i64 ky.length, .int .i64 1] W fun e w' => e = .returned (.string ⟨#[UInt8.ofNat ky.length]⟩) ∧ Below W.heap.size W w') := Lib.hid (fun W => by
          have := number11_any ky.length 1 W (by decide) (by omega)
          rw [Sto.big_one] at this
          exact this)
        obtain ⟨R, hR⟩ : ∃ R, [0] ++ [UInt8.ofNat ky.length] ++ ky = R := ⟨_, rfl⟩
        have HAP1 : Hid (({ data := #[0] } : ByteArray) ++ { data := #[UInt8.ofNat ky.length] } = { data := #[0, UInt8.ofNat ky.length] }) := Lib.hid (bytes_append [0] [UInt8.ofNat ky.length])
        have HAP : Hid (({ data := #[0, UInt8.ofNat ky.length] } : ByteArray) ++ ⟨ky.toArray⟩ = ⟨R.toArray⟩) := Lib.hid (by rw [← hR]; exact bytes_append [0, UInt8.ofNat ky.length] ky)
        rw [hR] at HSN
        have hRl : R.length = 2 + ky.length := by rw [← hR]; simp; omega
        clear he1 hR
        have hlk : ¬ 9223372036854775807 < 2 + ky.length := by omega
        go_wp2_with fail
        try rw [hgb]
        try rw [hW1]
        have hS0 : W1.drew.cell? ⟨gb, 1, none⟩ = some (.string ⟨ky.toArray⟩) := cell_of HNW.out rfl
        refine wp_region_heldL (S := fun w' => w'.cell? ⟨gb, 1, none⟩ = some (.string ⟨ky.toArray⟩)) (by kernel_rfl) ?_
        refine wpAnyH_takeL (i := 0) (v := ?_) rfl (by kernel_rfl) (by kernel_rfl) (by kernel_rfl) (fun _ _ _ h => h) ?_ (by assumption) ?_; rotate_left; focus (first | (refine Or.inr ⟨by rfl, ?_⟩; with_reducible rfl) | (refine Or.inl ⟨by rfl, ?_⟩; (intro w hSw; (try dsimp only at hSw); go_simp); try with_reducible rfl))
        try simp only [Act.put, List.setIfInBounds_toArray, List.set_cons_zero, List.set_cons_succ]
        refine wpAnyH_takeL (i := 2) (v := ?_) rfl (by kernel_rfl) (by kernel_rfl) (by kernel_rfl) (fun _ _ _ h => h) ?_ (by assumption) ?_; rotate_left; focus (first | (refine Or.inr ⟨by rfl, ?_⟩; with_reducible rfl) | (refine Or.inl ⟨by rfl, ?_⟩; (intro w hSw; (try dsimp only at hSw); go_simp); try with_reducible rfl))
        try simp only [Act.put, List.setIfInBounds_toArray, List.set_cons_zero, List.set_cons_succ]
        refine wpAnyH_takeL (i := 3) (v := ?_) rfl (by kernel_rfl) (by kernel_rfl) (by kernel_rfl) (fun _ _ _ h => h) ?_ (by assumption) ?_; rotate_left; focus (first | (refine Or.inr ⟨by rfl, ?_⟩; with_reducible rfl) | (refine Or.inl ⟨by rfl, ?_⟩; (intro w hSw; (try dsimp only at hSw); go_simp); try with_reducible rfl))
        try simp only [Act.put, List.setIfInBounds_toArray, List.set_cons_zero, List.set_cons_succ]
        refine wpAnyH_takeL (i := 4) (v := ?_) rfl (by kernel_rfl) (by kernel_rfl) (by kernel_rfl) (fun _ _ _ h => h) ?_ (by assumption) ?_; rotate_left; focus (first | (refine Or.inr ⟨by rfl, ?_⟩; with_reducible rfl) | (refine Or.inl ⟨by rfl, ?_⟩; (intro w hSw; (try dsimp only at hSw); go_simp); try with_reducible rfl))
        try simp only [Act.put, List.setIfInBounds_toArray, List.set_cons_zero, List.set_cons_succ]
        refine wpAnyH_takeL (i := 7) (v := ?_) rfl (by kernel_rfl) (by kernel_rfl) (by kernel_rfl) (fun _ _ _ h => h) ?_ (by assumption) ?_; rotate_left; focus (first | (refine Or.inr ⟨by rfl, ?_⟩; with_reducible rfl) | (refine Or.inl ⟨by rfl, ?_⟩; (intro w hSw; (try dsimp only at hSw); go_simp); try with_reducible rfl))
        try simp only [Act.put, List.setIfInBounds_toArray, List.set_cons_zero, List.set_cons_succ]
        refine wpAnyH_takeL (i := 8) (v := ?_) rfl (by kernel_rfl) (by kernel_rfl) (by kernel_rfl) (fun _ _ _ h => h) ?_ (by assumption) ?_; rotate_left; focus (first | (refine Or.inr ⟨by rfl, ?_⟩; with_reducible rfl) | (refine Or.inl ⟨by rfl, ?_⟩; (intro w hSw; (try dsimp only at hSw); go_simp); try with_reducible rfl))
        try simp only [Act.put, List.setIfInBounds_toArray, List.set_cons_zero, List.set_cons_succ]
        refine wpAnyH_oneL (i := 1) rfl (by kernel_rfl) ?_
        intro K hK
        rw [if_pos (by rfl)]
        go_simp
        go_at_call 123
        refine (HNK.out _).mono ?_
        rintro e y1 ⟨rfl, b1⟩
        have B1 := Lib.hid (bthen ((Below.refl _ W1).drew) b1)
        have hS1 := cell_later b1 hS0
        clear b1
        refine hK _ _ hS1 ?_
        clear hK K
        try simp only [Act.put, List.setIfInBounds_toArray, List.set_cons_zero, List.set_cons_succ]
        refine wpAnyH_oneL (i := 5) rfl (by kernel_rfl) ?_
        intro K hK
        rw [if_pos (by rfl)]
        go_simp
        go_at_call 123
        refine (HNL.out _).mono ?_
        rintro e y2 ⟨rfl, b2⟩
        have B2 := Lib.hid (bthen B1.out b2)
        have hS2 := cell_later b2 hS1
        have HU2 := Lib.hid (HU1.out.below B2.out)
        clear b2
        refine hK _ _ hS2 ?_
        clear hK K
        try simp only [Act.put, List.setIfInBounds_toArray, List.set_cons_zero, List.set_cons_succ]
        refine wpAnyH_takeL (i := 6) (v := ?_) rfl (by kernel_rfl) (by kernel_rfl) (by kernel_rfl) (fun _ _ _ h => h) ?_ (by assumption) ?_; rotate_left; focus (first | (refine Or.inr ⟨by rfl, ?_⟩; with_reducible rfl) | (refine Or.inl ⟨by rfl, ?_⟩; (intro w hSw; (try dsimp only at hSw); go_simp); try with_reducible rfl))
        try simp only [Act.put, List.setIfInBounds_toArray, List.set_cons_zero, List.set_cons_succ]
        refine wpAnyH_takeL (i := 9) (v := ?_) rfl (by kernel_rfl) (by kernel_rfl) (by kernel_rfl) (fun _ _ _ h => h) ?_ (by assumption) ?_; rotate_left; focus (first | (refine Or.inr ⟨by rfl, ?_⟩; with_reducible rfl) | (refine Or.inl ⟨by rfl, ?_⟩; (intro w hSw; (try dsimp only at hSw); go_simp); try with_reducible rfl))
        try simp only [Act.put, List.setIfInBounds_toArray, List.set_cons_zero, List.set_cons_succ]
        refine wpAnyH_oneL (i := 10) rfl (by kernel_rfl) ?_
        intro K hK
        rw [if_pos (by rfl)]
        go_simp
        go_at_call 122
        rw [HAP1.out, HAP.out]
        refine (write_any B B (H ++ Sto.enc (c.take j)) R y2 HU2.out (by simp; omega)).mono ?_
        rintro e y3 ⟨⟨n3, rfl⟩, hu3, hb3, hk3⟩
        have HU3 := Lib.hid hu3
        have HNW3 := Lib.hid (hk3.cells (stays HNW.out B2.out) (by decide))
        have HB3 : Hid (Below B w y3) := Lib.hid ((HBW.out.trans (B2.out.mono (by have := HU1.out.lt; omega))).trans hb3)
        have hS3 : y3.cell? ⟨gb, 1, none⟩ = some (.string ⟨ky.toArray⟩) := cell_of HNW3.out rfl
        have e0' := cell_of (i := 0) HNW3.out rfl
        clear hu3 hb3 hk3
        refine hK _ _ hS3 ?_
        clear hK K
        try simp only [Act.put, List.setIfInBounds_toArray, List.set_cons_zero, List.set_cons_succ]
        refine wpAnyH_done (by kernel_rfl) ?_ _
        go_wp2
        go_roundw
        all_goals first
          | (simp [intOf]; omega)
          | exact ⟨j + 1, by go_num, by omega, by rw [HSN.out, ← List.append_assoc]; exact HU3.out, HB3.out⟩
      | true =>
        have he1 : Sto.enc1 ⟨true, ky, vl⟩ = ([1] ++ [UInt8.ofNat ky.length] ++ ky) ++ (Sha.big vl.length 2 ++ vl) := by simp [Sto.enc1]
        rw [he1] at hszl
        rw [he1] at HSN
        simp only [List.length_append, List.length_cons, List.length_nil, Sha.big_length] at hszl
        have HNK : Hid (∀ W, Calls Tryz.prog 123 #[.int .i64 1, .int .i64 1] W fun e w' => e = .returned (.string ⟨#[1]⟩) ∧ Below W.heap.size W w') := Lib.hid (fun W => number11_any 1 1 W (by decide) (by decide))
        have HNL : Hid (∀ W, Calls Tryz.prog 123 #[.int .i64 ky.length, .int .i64 1] W fun e w' => e = .returned (.string ⟨#[UInt8.ofNat ky.length]⟩) ∧ Below W.heap.size W w') := Lib.hid (fun W => by
          have := number11_any ky.length 1 W (by decide) (by omega)
          rw [Sto.big_one] at this
          exact this)
        obtain ⟨R, hR⟩ : ∃ R, [1] ++ [UInt8.ofNat ky.length] ++ ky = R := ⟨_, rfl⟩
        have HAP1 : Hid (({ data := #[1] } : ByteArray) ++ { data := #[UInt8.ofNat ky.length] } = { data := #[1, UInt8.ofNat ky.length] }) := Lib.hid (bytes_append [1] [UInt8.ofNat ky.length])
        have HAP : Hid (({ data := #[1, UInt8.ofNat ky.length] } : ByteArray) ++ ⟨ky.toArray⟩ = ⟨R.toArray⟩) := Lib.hid (by rw [← hR]; exact bytes_append [1, UInt8.ofNat ky.length] ky)
        rw [hR] at HSN
        have hRl : R.length = 2 + ky.length := by rw [← hR]; simp; omega
        clear he1 hR
        have hlk : ¬ 9223372036854775807 < 2 + ky.length := by omega
        go_wp2_with fail
        try rw [hgb]
        try rw [hW1]
        have hS0 : W1.drew.cell? ⟨gb, 1, none⟩ = some (.string ⟨ky.toArray⟩) := cell_of HNW.out rfl
        refine wp_region_heldL (S := fun w' => w'.cell? ⟨gb, 1, none⟩ = some (.string ⟨ky.toArray⟩)) (by kernel_rfl) ?_
        refine wpAnyH_takeL (i := 0) (v := ?_) rfl (by kernel_rfl) (by kernel_rfl) (by kernel_rfl) (fun _ _ _ h => h) ?_ (by assumption) ?_; rotate_left; focus (first | (refine Or.inr ⟨by rfl, ?_⟩; with_reducible rfl) | (refine Or.inl ⟨by rfl, ?_⟩; (intro w hSw; (try dsimp only at hSw); go_simp); try with_reducible rfl))
        try simp only [Act.put, List.setIfInBounds_toArray, List.set_cons_zero, List.set_cons_succ]
        refine wpAnyH_takeL (i := 2) (v := ?_) rfl (by kernel_rfl) (by kernel_rfl) (by kernel_rfl) (fun _ _ _ h => h) ?_ (by assumption) ?_; rotate_left; focus (first | (refine Or.inr ⟨by rfl, ?_⟩; with_reducible rfl) | (refine Or.inl ⟨by rfl, ?_⟩; (intro w hSw; (try dsimp only at hSw); go_simp); try with_reducible rfl))
        try simp only [Act.put, List.setIfInBounds_toArray, List.set_cons_zero, List.set_cons_succ]
        refine wpAnyH_takeL (i := 3) (v := ?_) rfl (by kernel_rfl) (by kernel_rfl) (by kernel_rfl) (fun _ _ _ h => h) ?_ (by assumption) ?_; rotate_left; focus (first | (refine Or.inr ⟨by rfl, ?_⟩; with_reducible rfl) | (refine Or.inl ⟨by rfl, ?_⟩; (intro w hSw; (try dsimp only at hSw); go_simp); try with_reducible rfl))
        try simp only [Act.put, List.setIfInBounds_toArray, List.set_cons_zero, List.set_cons_succ]
        refine wpAnyH_takeL (i := 4) (v := ?_) rfl (by kernel_rfl) (by kernel_rfl) (by kernel_rfl) (fun _ _ _ h => h) ?_ (by assumption) ?_; rotate_left; focus (first | (refine Or.inr ⟨by rfl, ?_⟩; with_reducible rfl) | (refine Or.inl ⟨by rfl, ?_⟩; (intro w hSw; (try dsimp only at hSw); go_simp); try with_reducible rfl))
        try simp only [Act.put, List.setIfInBounds_toArray, List.set_cons_zero, List.set_cons_succ]
        refine wpAnyH_takeL (i := 7) (v := ?_) rfl (by kernel_rfl) (by kernel_rfl) (by kernel_rfl) (fun _ _ _ h => h) ?_ (by assumption) ?_; rotate_left; focus (first | (refine Or.inr ⟨by rfl, ?_⟩; with_reducible rfl) | (refine Or.inl ⟨by rfl, ?_⟩; (intro w hSw; (try dsimp only at hSw); go_simp); try with_reducible rfl))
        try simp only [Act.put, List.setIfInBounds_toArray, List.set_cons_zero, List.set_cons_succ]
        refine wpAnyH_takeL (i := 8) (v := ?_) rfl (by kernel_rfl) (by kernel_rfl) (by kernel_rfl) (fun _ _ _ h => h) ?_ (by assumption) ?_; rotate_left; focus (first | (refine Or.inr ⟨by rfl, ?_⟩; with_reducible rfl) | (refine Or.inl ⟨by rfl, ?_⟩; (intro w hSw; (try dsimp only at hSw); go_simp); try with_reducible rfl))
        try simp only [Act.put, List.setIfInBounds_toArray, List.set_cons_zero, List.set_cons_succ]
        refine wpAnyH_oneL (i := 1) rfl (by kernel_rfl) ?_
        intro K hK
        rw [if_pos (by rfl)]
        go_simp
        go_at_call 123
        refine (HNK.out _).mono ?_
        rintro e y1 ⟨rfl, b1⟩
        have B1 := Lib.hid (bthen ((Below.refl _ W1).drew) b1)
        have hS1 := cell_later b1 hS0
        clear b1
        refine hK _ _ hS1 ?_
        clear hK K
        try simp only [Act.put, List.setIfInBounds_toArray, List.set_cons_zero, List.set_cons_succ]
        refine wpAnyH_oneL (i := 5) rfl (by kernel_rfl) ?_
        intro K hK
        rw [if_pos (by rfl)]
        go_simp
        go_at_call 123
        refine (HNL.out _).mono ?_
        rintro e y2 ⟨rfl, b2⟩
        have B2 := Lib.hid (bthen B1.out b2)
        have hS2 := cell_later b2 hS1
        have HU2 := Lib.hid (HU1.out.below B2.out)
        clear b2
        refine hK _ _ hS2 ?_
        clear hK K
        try simp only [Act.put, List.setIfInBounds_toArray, List.set_cons_zero, List.set_cons_succ]
        refine wpAnyH_takeL (i := 6) (v := ?_) rfl (by kernel_rfl) (by kernel_rfl) (by kernel_rfl) (fun _ _ _ h => h) ?_ (by assumption) ?_; rotate_left; focus (first | (refine Or.inr ⟨by rfl, ?_⟩; with_reducible rfl) | (refine Or.inl ⟨by rfl, ?_⟩; (intro w hSw; (try dsimp only at hSw); go_simp); try with_reducible rfl))
        try simp only [Act.put, List.setIfInBounds_toArray, List.set_cons_zero, List.set_cons_succ]
        refine wpAnyH_takeL (i := 9) (v := ?_) rfl (by kernel_rfl) (by kernel_rfl) (by kernel_rfl) (fun _ _ _ h => h) ?_ (by assumption) ?_; rotate_left; focus (first | (refine Or.inr ⟨by rfl, ?_⟩; with_reducible rfl) | (refine Or.inl ⟨by rfl, ?_⟩; (intro w hSw; (try dsimp only at hSw); go_simp); try with_reducible rfl))
        try simp only [Act.put, List.setIfInBounds_toArray, List.set_cons_zero, List.set_cons_succ]
        refine wpAnyH_oneL (i := 10) rfl (by kernel_rfl) ?_
        intro K hK
        rw [if_pos (by rfl)]
        go_simp
        go_at_call 122
        rw [HAP1.out, HAP.out]
        refine (write_any B B (H ++ Sto.enc (c.take j)) R y2 HU2.out (by simp; omega)).mono ?_
        rintro e y3 ⟨⟨n3, rfl⟩, hu3, hb3, hk3⟩
        have HU3 := Lib.hid hu3
        have HNW3 := Lib.hid (hk3.cells (stays HNW.out B2.out) (by decide))
        have HB3 : Hid (Below B w y3) := Lib.hid ((HBW.out.trans (B2.out.mono (by have := HU1.out.lt; omega))).trans hb3)
        have hS3 : y3.cell? ⟨gb, 1, none⟩ = some (.string ⟨ky.toArray⟩) := cell_of HNW3.out rfl
        have e0' := cell_of (i := 0) HNW3.out rfl
        clear hu3 hb3 hk3
        refine hK _ _ hS3 ?_
        clear hK K
        try simp only [Act.put, List.setIfInBounds_toArray, List.set_cons_zero, List.set_cons_succ]
        refine wpAnyH_done (by kernel_rfl) ?_ _
        clear hS0 hS1 hS2
        have HNV : Hid (∀ W, Calls Tryz.prog 123 #[.int .i64 vl.length, .int .i64 2] W fun e w' => e = .returned (.string ⟨(Sha.big vl.length 2).toArray⟩) ∧ Below W.heap.size W w') := Lib.hid (fun W => number11_any vl.length 2 W (by decide) (by omega))
        obtain ⟨V2, hV2⟩ : ∃ R, Sha.big vl.length 2 = R := ⟨_, rfl⟩
        have hV2l : V2.length = 2 := by rw [← hV2]; exact Sha.big_length _ _
        rw [hV2] at HNV HSN
        have HAP3 := Lib.hid (bytes_append V2 vl)
        clear hV2
        have hlv : ¬ 9223372036854775807 < V2.length + vl.length := by omega
        have hlv2 : ¬ 9223372036854775807 < 2 + vl.length := by omega
        go_wp2_with fail
        have hT0 : y3.drew.cell? ⟨gb, 2, none⟩ = some (.string ⟨vl.toArray⟩) := cell_of HNW3.out rfl
        refine wp_region_heldL (S := fun w' => w'.cell? ⟨gb, 2, none⟩ = some (.string ⟨vl.toArray⟩)) (by kernel_rfl) ?_
        have hS0 := hT0
        refine wpAnyH_takeL (i := 0) (v := ?_) rfl (by kernel_rfl) (by kernel_rfl) (by kernel_rfl) (fun _ _ _ h => h) ?_ (by assumption) ?_; rotate_left; focus (first | (refine Or.inr ⟨by rfl, ?_⟩; with_reducible rfl) | (refine Or.inl ⟨by rfl, ?_⟩; (intro w hSw; (try dsimp only at hSw); go_simp); try with_reducible rfl))
        try simp only [Act.put, List.setIfInBounds_toArray, List.set_cons_zero, List.set_cons_succ]
        refine wpAnyH_takeL (i := 1) (v := ?_) rfl (by kernel_rfl) (by kernel_rfl) (by kernel_rfl) (fun _ _ _ h => h) ?_ (by assumption) ?_; rotate_left; focus (first | (refine Or.inr ⟨by rfl, ?_⟩; with_reducible rfl) | (refine Or.inl ⟨by rfl, ?_⟩; (intro w hSw; (try dsimp only at hSw); go_simp); try with_reducible rfl))
        try simp only [Act.put, List.setIfInBounds_toArray, List.set_cons_zero, List.set_cons_succ]
        refine wpAnyH_takeL (i := 2) (v := ?_) rfl (by kernel_rfl) (by kernel_rfl) (by kernel_rfl) (fun _ _ _ h => h) ?_ (by assumption) ?_; rotate_left; focus (first | (refine Or.inr ⟨by rfl, ?_⟩; with_reducible rfl) | (refine Or.inl ⟨by rfl, ?_⟩; (intro w hSw; (try dsimp only at hSw); go_simp); try with_reducible rfl))
        try simp only [Act.put, List.setIfInBounds_toArray, List.set_cons_zero, List.set_cons_succ]
        refine wpAnyH_takeL (i := 4) (v := ?_) rfl (by kernel_rfl) (by kernel_rfl) (by kernel_rfl) (fun _ _ _ h => h) ?_ (by assumption) ?_; rotate_left; focus (first | (refine Or.inr ⟨by rfl, ?_⟩; with_reducible rfl) | (refine Or.inl ⟨by rfl, ?_⟩; (intro w hSw; (try dsimp only at hSw); go_simp); try with_reducible rfl))
        try simp only [Act.put, List.setIfInBounds_toArray, List.set_cons_zero, List.set_cons_succ]
        refine wpAnyH_takeL (i := 5) (v := ?_) rfl (by kernel_rfl) (by kernel_rfl) (by kernel_rfl) (fun _ _ _ h => h) ?_ (by assumption) ?_; rotate_left; focus (first | (refine Or.inr ⟨by rfl, ?_⟩; with_reducible rfl) | (refine Or.inl ⟨by rfl, ?_⟩; (intro w hSw; (try dsimp only at hSw); go_simp); try with_reducible rfl))
        try simp only [Act.put, List.setIfInBounds_toArray, List.set_cons_zero, List.set_cons_succ]
        refine wpAnyH_oneL (i := 3) rfl (by kernel_rfl) ?_
        intro K hK
        rw [if_pos (by rfl)]
        go_simp
        go_at_call 123
        refine (HNV.out _).mono ?_
        rintro e y4 ⟨rfl, b4⟩
        have B4 := Lib.hid (bthen ((Below.refl _ y3).drew) b4)
        have hT1 := cell_later b4 hT0
        have HU4 := Lib.hid (HU3.out.below B4.out)
        clear b4
        refine hK _ _ hT1 ?_
        clear hK K
        try simp only [Act.put, List.setIfInBounds_toArray, List.set_cons_zero, List.set_cons_succ]
        refine wpAnyH_takeL (i := 6) (v := ?_) rfl (by kernel_rfl) (by kernel_rfl) (by kernel_rfl) (fun _ _ _ h => h) ?_ (by assumption) ?_; rotate_left; focus (first | (refine Or.inr ⟨by rfl, ?_⟩; with_reducible rfl) | (refine Or.inl ⟨by rfl, ?_⟩; (intro w hSw; (try dsimp only at hSw); go_simp); try with_reducible rfl))
        try simp only [Act.put, List.setIfInBounds_toArray, List.set_cons_zero, List.set_cons_succ]
        refine wpAnyH_oneL (i := 7) rfl (by kernel_rfl) ?_
        intro K hK
        rw [if_pos (by rfl)]
        go_simp
        go_at_call 122
        rw [HAP3.out]
        refine (write_any B B (H ++ Sto.enc (c.take j) ++ R) (V2 ++ vl) y4 HU4.out (by simp; omega)).mono ?_
        rintro e y5 ⟨⟨n5, rfl⟩, hu5, hb5, hk5⟩
        have HU5 := Lib.hid hu5
        have HB5 : Hid (Below B w y5) := Lib.hid ((HB3.out.trans (B4.out.mono (by have := HU3.out.lt; omega))).trans hb5)
        have hT3 : y5.cell? ⟨gb, 2, none⟩ = some (.string ⟨vl.toArray⟩) := cell_of (hk5.cells (stays HNW3.out B4.out) (by decide)) rfl
        clear hu5 hb5 hk5
        refine hK _ _ hT3 ?_
        clear hK K
        try simp only [Act.put, List.setIfInBounds_toArray, List.set_cons_zero, List.set_cons_succ]
        refine wpAnyH_done (by kernel_rfl) ?_ _
        go_wp2
        go_roundw
        all_goals first
          | (simp [intOf]; omega)
          | exact ⟨j + 1, by go_num, by omega, by rw [HSN.out]; have := HU5.out; simp only [List.append_assoc] at this ⊢; exact this, HB5.out⟩
    · have hjc : j = c.length := by omega
      have HU2 : Hid (BuiAt wr B B (H ++ Sto.enc c)) := Lib.hid (by have := HU.out; rw [hjc, List.take_length] at this; exact this)
      go_wp2_with fail
      refine (Tryz.Builder_String_any B B (H ++ Sto.enc c) wr HU2.out (by have := HU.out.lt; omega)).mono ?_
      rintro e w3 ⟨rfl, hb3⟩
      go_wp2_with fail
      go_ret
      exact ⟨by rw [HE.out]; rfl, by rw [hB]; exact HB.out.trans hb3⟩
end Go.Proofs.YtpjpknndfhablaaGreat
