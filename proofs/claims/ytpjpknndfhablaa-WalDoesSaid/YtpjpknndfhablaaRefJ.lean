/- The walk of the document's Append. -/
import Derived.Test.YtpjpknndfhablaaRefI
import Derived.Laws.AppendOwnNone
namespace Go.Proofs.Ytpjpknndfhablaa
open Go.RowKit

theorem Try.uInfo : (Try.prog.info? 131).map (fun i => (i.zero, i.size, i.bytes)) = some (some (.agg #[.int .i64 0, .int .u8 0]), 2, 16) := by kernel_rfl

theorem owns_slice {w : World} {base e size n : Nat} {v : Value} {xs : List Value} (h : w.ownsRow base e size v n xs) : ∃ ao cap, v = .slice ao n cap := by
  rcases h.2 with ⟨rfl, rfl⟩ | ⟨g, cap, cur, rfl, _⟩
  · exact ⟨none, 0, rfl⟩
  · exact ⟨_, cap, rfl⟩
theorem owns_base {w : World} {base base' e size n : Nat} {v : Value} {xs : List Value} (h : w.ownsRow base e size v n xs) (hb : base' ≤ base) : w.ownsRow base' e size v n xs := by
  refine ⟨h.1, ?_⟩
  rcases h.2 with h0 | ⟨g, cap, cur, e1, e2, e3⟩
  · exact .inl h0
  · exact .inr ⟨g, cap, cur, e1, Nat.le_trans hb e2, e3⟩

/-- The loop of Append, from a frame on: said of what it knows. -/
structure LayRel (w wr : World) (u : List (Bool × UInt8)) (q : Bool) (s : List UInt8) (j : Nat) (v : Value) : Prop where
  own : wr.ownsRow w.heap.size 131 2 v (u.length + j) (uCells (u ++ (s.take j).map (q, ·)))
  below : Below w.heap.size w wr
theorem LayRel.step {w wr : World} {u : List (Bool × UInt8)} {q : Bool} {s : List UInt8} {j : Nat} {v : Value} (h : LayRel w wr u q s j v) {x : UInt8} (hx : s[j]? = some x) {w0 w1 : World} {v' : Value} (h0 : Below wr.heap.size wr w0)
    (ho : w1.ownsRow w.heap.size 131 2 v' (u.length + j + 1) (uCells (u ++ (s.take j).map (q, ·)) ++ [.int .i64 (DS.fi q), .int .u8 x.toNat]))
    (hg : w0.grownBy w1 v.ownBlock) : LayRel w w1 u q s (j + 1) v' := by
  have e1 : u ++ (s.take (j + 1)).map (q, ·) = (u ++ (s.take j).map (q, ·)) ++ [(q, x)] := by rw [List.take_add_one, hx]; simp
  have ht := Touch.trans (Touch.of_below (S := fun k => v.ownBlock = some k) h0) (touch_of_grown hg) (fun _ _ h => h)
  refine ⟨?_, ?_⟩
  · rw [e1, uCells_append]; exact ho
  · exact (Touch.trans (Touch.of_below (S := fun k => v.ownBlock = some k) h.below) ht (fun _ _ h => h)).below (Nat.le_refl _) (fun k hk hs => by have := (h.own.lt k hs).1; omega)

set_option maxHeartbeats 2000000 in
theorem rappend_any (b : Nat) (w : World) (d : DS) (ub : Option Nat) (f : Int) (s : List UInt8) (h : RefAt w b d ub) (hs : s.length ≤ 9223372036854775807 - 1048576) :
    Calls Try.prog 68 #[.pointer (some ⟨b, 0, none⟩), .int .i64 f, .string ⟨s.toArray⟩] w fun e w' => e = .returned (.int .i64 (d.append f s).2) ∧
      ∃ ub', RefAt w' b (d.append f s).1 ub' ∧ Newer w ub ub' ∧ Touch (· = b) w w' := by
  have hok' := h.1.append f s
  obtain ⟨hok, us, h, rfl⟩ := h
  obtain ⟨c0, c1, c2, c3, c4, c5, cf, hlt⟩ := h.cells
  have H := Lib.hid h
  have HS := Lib.hid hs
  clear h c0 c1 c2 c3 c4
  cases hd : d.dead
  · rw [hd] at c5
    by_cases hf : f = 0 ∨ f = 1
    · obtain ⟨q, rfl⟩ := DS.fi_of hf
      have hz : d.sizeI (DS.fi q) = (d.size q : Int) := by simp [DS.sizeI, DS.fileNo_of]
      have HZ := Lib.hid hz
      have hbl := hok.base_len' q
      have hu := hok.u_len
      clear hf hz
      cases q
      · simp only [DS.fi, Bool.false_eq_true, if_false] at HZ hok' ⊢
        have HZ' : Hid (d.sizeI 0 = (d.size false : Int)) := HZ
        have hno : DS.fileNo 0 = some false := rfl
        clear HZ
        by_cases hc : d.size false + s.length > 1048576
        · have HX : Hid (d.append 0 s = (d, 91)) := by unfold DS.append; rw [if_neg (by simp [hd]), hno]; simp only []; rw [if_pos hc]; exact rfl
          have hs2 : (s.length : Int) ≤ 9223372036853727231 := by have := HS.out; omega
          have hci : (1048576 : Int) < (d.size false : Int) + (s.length : Int) := by omega
          clear hd hc hs hno
          go_enter Try.func68, Try.ntmps68
          go_wp2_with (first
            | (go_at_call 67; go_must (refine (rsize_any b w d us _ H.out hok).mono ?_; rw [HZ'.out]; rintro e w' ⟨rfl, rfl⟩)))
          go_ret
          exact ⟨ret_int (by rw [HX.out]), us.ownBlock, by rw [HX.out]; exact ⟨hok, us, H.out, rfl⟩, Newer.refl _ _, Touch.refl _ _⟩
        · have hkp := hok.keep
          have HC := Lib.hid hc
          have HD := Lib.hid hd
          have hci : (d.size false : Int) + (s.length : Int) ≤ 1048576 := by omega
          have hsl : s.length ≤ 1048576 := by omega
          clear hd hc hs
          cases hg : d.goes
          all_goals have HG := Lib.hid hg
          all_goals clear hg
          all_goals rcases H.out.own.2 with ⟨hus, h0⟩ | ⟨g, cap, cur, hus, _, hgg, hnc, hcm, hcs, ht⟩
          all_goals (try have H0 := Lib.hid h0)
          all_goals (try clear h0)
          all_goals have HUS := Lib.hid hus
          all_goals clear hus
          all_goals (try clear hgg hnc hcm hcs ht)
          all_goals go_enter Try.func68, Try.ntmps68
          all_goals go_wp2_with (first
            | (go_at_call 67; go_must (refine (rsize_any b w d _ _ H.out hok).mono ?_; rw [HZ'.out]; rintro e w' ⟨rfl, rfl⟩))
            | (go_at_call 96; go_must (refine (rgoes_any b w d _ H.out hok).mono ?_; rw [HG.out]; rintro e w5 ⟨rfl, hr5, ht5⟩; have HR5 := Lib.hid hr5; have HT5 := Lib.hid ht5; obtain ⟨c0', c1', c2', c3', c4', c5'', cf', hlt'⟩ := hr5.cells; rw [HUS.out] at c2'; clear hr5 ht5 c0' c1' c3' c5''))
            | (at_builtin; (refine wpList_append_own2 _ rfl (.tmp 29) (.tmp 33) 73 rfl w5.heap.size 131 2 16 _ Try.uInfo Try.underlying73 rfl (by decide) _ 0 [] rfl (World.ownsRow_made w5 #[] 0 (Nat.le_refl _) (by decide) rfl) ⟨g, 0, none⟩ d.u.length cap (uCells d.u) rfl (uCells_length _) (fun j u hj => (World.cell?_of_block (heap_alloc _ (by rw [addr_block]; exact (HR5.out.own.lt g (by rw [HUS.out]; rfl)).2))).trans (HR5.out.own.cells (g := g) (by rw [HUS.out]; rfl) j u hj)) (uCells_one _) (by unfold maxLen; omega) (by omega) (by simp) ?_; intro v0 w6 ho hgr hb; have HL0 : Hid (LayRel w5 w6 d.u false s 0 v0) := ⟨by simpa using ho, (Touch.trans (Touch.of_below (S := fun _ => False) (balloc w5 _)) (touch_of_grown hgr) (fun k hk h => by have : w5.heap.size = k := Option.some.inj h; omega)).below (Nat.le_refl _) (fun _ _ h => h)⟩; clear ho hgr hb)))
          all_goals go_loopw [8, 9] (fun v i wr => ∃ j : Nat, i = .int .i64 j ∧ j ≤ s.length ∧ LayRel w5 wr d.u false s j v) (fun _ i _ => s.length - (intOf i).toNat)
          all_goals first
            | (case atStart =>
                first
                  | exact ⟨0, rfl, Nat.zero_le _, HL0.out⟩
                  | (have hu0 : d.u = [] := List.eq_nil_of_length_eq_zero H0.out
                     exact ⟨0, rfl, Nat.zero_le _, by rw [hu0]; exact World.ownsRow_made w5 #[] 0 (Nat.le_refl _) (by decide) rfl, balloc w5 _⟩))
            | skip
          all_goals
            obtain ⟨j, rfl, hj, hlay⟩ := hrel
            have HL := Lib.hid hlay
            have hsz := hlay.below.size
            clear hlay
            by_cases hlt : j < s.length
            · obtain ⟨x, hx⟩ : ∃ x, s[j]? = some x := ⟨_, List.getElem?_eq_getElem hlt⟩
              have hx' : s[j] = x := by rw [List.getElem?_eq_getElem hlt] at hx; exact Option.some.inj hx
              have HXX := Lib.hid hx
              have HXB := Lib.hid hx'
              clear hx hx'
              go_wp2_with (first | (at_builtin; go_must (refine wpList_append_own2 _ rfl (.tmp 41) (.tmp 47) 73 rfl w5.heap.size 131 2 16 _ Try.uInfo Try.underlying73 rfl (by decide) _ _ _ rfl (own_touch HL.out.own (Touch.of_below (S := fun _ => False) (balloc wr _)) (fun _ _ h => h)) ⟨wr.heap.size, 0, none⟩ 1 1 [.int .i64 0, .int .u8 x.toNat] rfl rfl (fun i u hi => by
                  match i, hi with
                  | 0, hi => simp at hi; subst hi; exact cell_of (heap_new wr _) rfl
                  | 1, hi => simp at hi; subst hi; exact cell_of (heap_new wr _) (congrArg (fun y : UInt8 => some (Value.int .u8 (y.toNat : Int))) HXB.out)) (by intro u hu; simp at hu; rcases hu with rfl | rfl <;> rfl) (by unfold maxLen; omega) (by omega) (by simp; omega) ?_; intro v' w1 ho hgr hb; have HS' : Hid (LayRel w5 w1 d.u false s (j + 1) v') := HL.out.step HXX.out (balloc wr _) ho hgr; clear ho hgr hb)))
              go_roundw
              case rel => exact ⟨j + 1, by go_num, by omega, HS'.out⟩
              case measure => simp [intOf]; omega
            · obtain rfl : j = s.length := by omega
              obtain ⟨vo, vc, rfl⟩ := owns_slice HL.out.own
              have h6 := HR5.out.below HL.out.below
              obtain ⟨_, _, x2, _, x4, _, xf, xl⟩ := h6.cells
              have HL6 := Lib.hid h6
              clear h6 c2' c4'
              have hlay7 : RefU (wr.setCell ⟨b, 2, none⟩ (.slice vo (d.u.length + s.length) vc)) b (d.tick.lay false s) (.slice vo (d.u.length + s.length) vc) := by
                have hb7 := heap_set (i := 2) (.slice vo (d.u.length + s.length) vc) HL6.out.blk
                refine ⟨by rw [hb7]; simp [refBlock, DS.lay, DS.tick], ?_⟩
                have h1 := owns_base HL.out.own (Nat.zero_le _)
                rw [List.take_length] at h1
                have h2 := own_touch h1 ((Touch.refl (· = b) wr).setCell (a := ⟨b, 2, none⟩) (.slice vo (d.u.length + s.length) vc) (fun _ => rfl)) (fun k hk e => by
                  have h3 := (HL.out.own.lt k hk).1
                  have h4 := HT5.out.size
                  have h5 := HR5.out.lt
                  omega)
                have e : (d.tick.lay false s).u.length = d.u.length + s.length := by simp [DS.lay, DS.tick]
                rw [e]; exact h2
              have HL7 := Lib.hid hlay7
              have ht7 : Hid (Touch (· = b) w (wr.setCell ⟨b, 2, none⟩ (.slice vo (d.u.length + s.length) vc))) := Touch.setCell (Touch.trans HT5.out (Touch.of_below (S := fun _ => False) HL.out.below) (fun _ _ h => h.elim)) _ (fun _ => rfl)
              have hn7 : Hid (Newer w us.ownBlock (Value.ownBlock (.slice vo (d.u.length + s.length) vc))) := fun k hk => .inr (by have := (HL.out.own.lt k hk).1; have := HT5.out.size; omega)
              clear hlay7
              first
                | (have HX : Hid (d.append 0 s = (d.tick.lay false s, 0)) := by unfold DS.append; rw [if_neg (by simp [HD.out]), hno]; simp only []; rw [if_neg HC.out, if_neg (by simp [HG.out])]; exact rfl
                   go_wp2
                   go_ret
                   refine ⟨ret_int (by rw [HX.out]), _, ?_, hn7.out, ht7.out⟩
                   rw [HX.out] at hok' ⊢
                   exact ⟨hok', _, HL7.out, rfl⟩)
                | (have HX : Hid (d.append 0 s = ((d.tick.lay false s).die d.keep, 2)) := by unfold DS.append; rw [if_neg (by simp [HD.out]), hno]; simp only []; rw [if_neg HC.out, if_pos HG.out]; exact rfl
                   have hok7 : (d.tick.lay false s).Ok := hok.tick.lay false s (by rw [DS.size_tick]; have := HC.out; omega)
                   go_wp2_with (first | (go_at_call 97; go_must (refine (rdie_any b _ (d.tick.lay false s) _ d.keep HL7.out hok7 (by omega)).mono ?_; rintro e w8 ⟨rfl, hr8, ht8⟩; have HR8 := Lib.hid hr8; have HT8 := Lib.hid ht8; clear hr8 ht8)))
                   go_ret
                   refine ⟨ret_int (by rw [HX.out]), none, ?_, Newer.none _ _, Touch.trans ht7.out HT8.out (fun _ _ h => h)⟩
                   rw [HX.out] at hok' ⊢
                   exact ⟨hok', _, HR8.out, rfl⟩)
      · simp only [DS.fi, if_true] at HZ hok' ⊢
        have HZ' : Hid (d.sizeI 1 = (d.size true : Int)) := HZ
        have hno : DS.fileNo 1 = some true := rfl
        clear HZ
        by_cases hc : d.size true + s.length > 1048576
        · have HX : Hid (d.append 1 s = (d, 91)) := by unfold DS.append; rw [if_neg (by simp [hd]), hno]; simp only []; rw [if_pos hc]; exact rfl
          have hs2 : (s.length : Int) ≤ 9223372036853727231 := by have := HS.out; omega
          have hci : (1048576 : Int) < (d.size true : Int) + (s.length : Int) := by omega
          clear hd hc hs hno
          go_enter Try.func68, Try.ntmps68
          go_wp2_with (first
            | (go_at_call 67; go_must (refine (rsize_any b w d us _ H.out hok).mono ?_; rw [HZ'.out]; rintro e w' ⟨rfl, rfl⟩)))
          go_ret
          exact ⟨ret_int (by rw [HX.out]), us.ownBlock, by rw [HX.out]; exact ⟨hok, us, H.out, rfl⟩, Newer.refl _ _, Touch.refl _ _⟩
        · have hkp := hok.keep
          have HC := Lib.hid hc
          have HD := Lib.hid hd
          have hci : (d.size true : Int) + (s.length : Int) ≤ 1048576 := by omega
          have hsl : s.length ≤ 1048576 := by omega
          clear hd hc hs
          cases hg : d.goes
          all_goals have HG := Lib.hid hg
          all_goals clear hg
          all_goals rcases H.out.own.2 with ⟨hus, h0⟩ | ⟨g, cap, cur, hus, _, hgg, hnc, hcm, hcs, ht⟩
          all_goals (try have H0 := Lib.hid h0)
          all_goals (try clear h0)
          all_goals have HUS := Lib.hid hus
          all_goals clear hus
          all_goals (try clear hgg hnc hcm hcs ht)
          all_goals go_enter Try.func68, Try.ntmps68
          all_goals go_wp2_with (first
            | (go_at_call 67; go_must (refine (rsize_any b w d _ _ H.out hok).mono ?_; rw [HZ'.out]; rintro e w' ⟨rfl, rfl⟩))
            | (go_at_call 96; go_must (refine (rgoes_any b w d _ H.out hok).mono ?_; rw [HG.out]; rintro e w5 ⟨rfl, hr5, ht5⟩; have HR5 := Lib.hid hr5; have HT5 := Lib.hid ht5; obtain ⟨c0', c1', c2', c3', c4', c5'', cf', hlt'⟩ := hr5.cells; rw [HUS.out] at c2'; clear hr5 ht5 c0' c1' c3' c5''))
            | (at_builtin; (refine wpList_append_own2 _ rfl (.tmp 29) (.tmp 33) 73 rfl w5.heap.size 131 2 16 _ Try.uInfo Try.underlying73 rfl (by decide) _ 0 [] rfl (World.ownsRow_made w5 #[] 0 (Nat.le_refl _) (by decide) rfl) ⟨g, 0, none⟩ d.u.length cap (uCells d.u) rfl (uCells_length _) (fun j u hj => (World.cell?_of_block (heap_alloc _ (by rw [addr_block]; exact (HR5.out.own.lt g (by rw [HUS.out]; rfl)).2))).trans (HR5.out.own.cells (g := g) (by rw [HUS.out]; rfl) j u hj)) (uCells_one _) (by unfold maxLen; omega) (by omega) (by simp) ?_; intro v0 w6 ho hgr hb; have HL0 : Hid (LayRel w5 w6 d.u true s 0 v0) := ⟨by simpa using ho, (Touch.trans (Touch.of_below (S := fun _ => False) (balloc w5 _)) (touch_of_grown hgr) (fun k hk h => by have : w5.heap.size = k := Option.some.inj h; omega)).below (Nat.le_refl _) (fun _ _ h => h)⟩; clear ho hgr hb)))
          all_goals go_loopw [8, 9] (fun v i wr => ∃ j : Nat, i = .int .i64 j ∧ j ≤ s.length ∧ LayRel w5 wr d.u true s j v) (fun _ i _ => s.length - (intOf i).toNat)
          all_goals first
            | (case atStart =>
                first
                  | exact ⟨0, rfl, Nat.zero_le _, HL0.out⟩
                  | (have hu0 : d.u = [] := List.eq_nil_of_length_eq_zero H0.out
                     exact ⟨0, rfl, Nat.zero_le _, by rw [hu0]; exact World.ownsRow_made w5 #[] 0 (Nat.le_refl _) (by decide) rfl, balloc w5 _⟩))
            | skip
          all_goals
            obtain ⟨j, rfl, hj, hlay⟩ := hrel
            have HL := Lib.hid hlay
            have hsz := hlay.below.size
            clear hlay
            by_cases hlt : j < s.length
            · obtain ⟨x, hx⟩ : ∃ x, s[j]? = some x := ⟨_, List.getElem?_eq_getElem hlt⟩
              have hx' : s[j] = x := by rw [List.getElem?_eq_getElem hlt] at hx; exact Option.some.inj hx
              have HXX := Lib.hid hx
              have HXB := Lib.hid hx'
              clear hx hx'
              go_wp2_with (first | (at_builtin; go_must (refine wpList_append_own2 _ rfl (.tmp 41) (.tmp 47) 73 rfl w5.heap.size 131 2 16 _ Try.uInfo Try.underlying73 rfl (by decide) _ _ _ rfl (own_touch HL.out.own (Touch.of_below (S := fun _ => False) (balloc wr _)) (fun _ _ h => h)) ⟨wr.heap.size, 0, none⟩ 1 1 [.int .i64 1, .int .u8 x.toNat] rfl rfl (fun i u hi => by
                  match i, hi with
                  | 0, hi => simp at hi; subst hi; exact cell_of (heap_new wr _) rfl
                  | 1, hi => simp at hi; subst hi; exact cell_of (heap_new wr _) (congrArg (fun y : UInt8 => some (Value.int .u8 (y.toNat : Int))) HXB.out)) (by intro u hu; simp at hu; rcases hu with rfl | rfl <;> rfl) (by unfold maxLen; omega) (by omega) (by simp; omega) ?_; intro v' w1 ho hgr hb; have HS' : Hid (LayRel w5 w1 d.u true s (j + 1) v') := HL.out.step HXX.out (balloc wr _) ho hgr; clear ho hgr hb)))
              go_roundw
              case rel => exact ⟨j + 1, by go_num, by omega, HS'.out⟩
              case measure => simp [intOf]; omega
            · obtain rfl : j = s.length := by omega
              obtain ⟨vo, vc, rfl⟩ := owns_slice HL.out.own
              have h6 := HR5.out.below HL.out.below
              obtain ⟨_, _, x2, _, x4, _, xf, xl⟩ := h6.cells
              have HL6 := Lib.hid h6
              clear h6 c2' c4'
              have hlay7 : RefU (wr.setCell ⟨b, 2, none⟩ (.slice vo (d.u.length + s.length) vc)) b (d.tick.lay true s) (.slice vo (d.u.length + s.length) vc) := by
                have hb7 := heap_set (i := 2) (.slice vo (d.u.length + s.length) vc) HL6.out.blk
                refine ⟨by rw [hb7]; simp [refBlock, DS.lay, DS.tick], ?_⟩
                have h1 := owns_base HL.out.own (Nat.zero_le _)
                rw [List.take_length] at h1
                have h2 := own_touch h1 ((Touch.refl (· = b) wr).setCell (a := ⟨b, 2, none⟩) (.slice vo (d.u.length + s.length) vc) (fun _ => rfl)) (fun k hk e => by
                  have h3 := (HL.out.own.lt k hk).1
                  have h4 := HT5.out.size
                  have h5 := HR5.out.lt
                  omega)
                have e : (d.tick.lay true s).u.length = d.u.length + s.length := by simp [DS.lay, DS.tick]
                rw [e]; exact h2
              have HL7 := Lib.hid hlay7
              have ht7 : Hid (Touch (· = b) w (wr.setCell ⟨b, 2, none⟩ (.slice vo (d.u.length + s.length) vc))) := Touch.setCell (Touch.trans HT5.out (Touch.of_below (S := fun _ => False) HL.out.below) (fun _ _ h => h.elim)) _ (fun _ => rfl)
              have hn7 : Hid (Newer w us.ownBlock (Value.ownBlock (.slice vo (d.u.length + s.length) vc))) := fun k hk => .inr (by have := (HL.out.own.lt k hk).1; have := HT5.out.size; omega)
              clear hlay7
              first
                | (have HX : Hid (d.append 1 s = (d.tick.lay true s, 0)) := by unfold DS.append; rw [if_neg (by simp [HD.out]), hno]; simp only []; rw [if_neg HC.out, if_neg (by simp [HG.out])]; exact rfl
                   go_wp2
                   go_ret
                   refine ⟨ret_int (by rw [HX.out]), _, ?_, hn7.out, ht7.out⟩
                   rw [HX.out] at hok' ⊢
                   exact ⟨hok', _, HL7.out, rfl⟩)
                | (have HX : Hid (d.append 1 s = ((d.tick.lay true s).die d.keep, 2)) := by unfold DS.append; rw [if_neg (by simp [HD.out]), hno]; simp only []; rw [if_neg HC.out, if_pos HG.out]; exact rfl
                   have hok7 : (d.tick.lay true s).Ok := hok.tick.lay true s (by rw [DS.size_tick]; have := HC.out; omega)
                   go_wp2_with (first | (go_at_call 97; go_must (refine (rdie_any b _ (d.tick.lay true s) _ d.keep HL7.out hok7 (by omega)).mono ?_; rintro e w8 ⟨rfl, hr8, ht8⟩; have HR8 := Lib.hid hr8; have HT8 := Lib.hid ht8; clear hr8 ht8)))
                   go_ret
                   refine ⟨ret_int (by rw [HX.out]), none, ?_, Newer.none _ _, Touch.trans ht7.out HT8.out (fun _ _ h => h)⟩
                   rw [HX.out] at hok' ⊢
                   exact ⟨hok', _, HR8.out, rfl⟩)
    · have hf' : (f != 0) = true ∧ (f != 1) = true := by constructor <;> (rw [bne_iff_ne]; omega)
      have h2 : (f == 0) = false ∧ (f == 1) = false := by constructor <;> (rw [beq_eq_false_iff_ne]; omega)
      obtain ⟨h0, h1⟩ := hf'
      obtain ⟨h2, h3⟩ := h2
      have HX : Hid (d.append f s = (d, 90)) := by unfold DS.append; rw [if_neg (by simp [hd]), DS.fileNo_none hf]; exact rfl
      clear hf hd hs
      go_enter Try.func68, Try.ntmps68
      go_wp2
      go_ret
      exact ⟨ret_int (by rw [HX.out]), us.ownBlock, by rw [HX.out]; exact ⟨hok, us, H.out, rfl⟩, Newer.refl _ _, Touch.refl _ _⟩
  · rw [hd] at c5
    have HX : Hid (d.append f s = (d, 2)) := by unfold DS.append; rw [if_pos hd]; exact rfl
    clear hd hs
    go_enter Try.func68, Try.ntmps68
    go_wp2
    go_ret
    exact ⟨ret_int (by rw [HX.out]), us.ownBlock, by rw [HX.out]; exact ⟨hok, us, H.out, rfl⟩, Newer.refl _ _, Touch.refl _ _⟩
end Go.Proofs.Ytpjpknndfhablaa
