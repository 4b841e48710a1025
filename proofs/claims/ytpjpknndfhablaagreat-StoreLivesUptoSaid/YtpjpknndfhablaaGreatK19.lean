/- The program's Open: is a change a delete? Are some?. A store of the program with all its transactions: what belongs to it, and what each call leaves. A store with its transactions, its blocks under one name; what lies apart from them stays. -/
import Derived.Test.YtpjpknndfhablaaGreatK18
namespace Go.Proofs.YtpjpknndfhablaaGreat
open Go.RowKit Go.Shelf Go.Lib
set_option maxHeartbeats 1000000 in
theorem isdel_any (x : Sto.Ch) (W : World) : Calls Tryz.prog 50 #[.agg #[.bool x.put, .string ⟨x.key.toArray⟩, .string ⟨x.value.toArray⟩]] W fun e w' => e = .returned (.bool (!x.put)) ∧ Below W.heap.size W w' := by
  obtain ⟨p, k, v⟩ := x
  go_enter Tryz.func50, Tryz.ntmps50
  go_wp2
  go_ret
  exact ⟨rfl, balloc _ _⟩
theorem contains_any (v : Value) (c : List Sto.Ch) (w : World) (h : ChsAt w v c) (h0 : c ≠ []) :
    Calls Tryz.prog 49 #[v, .func (.func 50) #[] #[]] w fun e w' => e = .returned (.bool (c.any fun x => !x.put)) ∧ Below w.heap.size w w' := by
  obtain ⟨ao, cap, rfl, hn1, hn2, hrd⟩ := chsAt_read h
  obtain ⟨x0, hx0⟩ : ∃ x, c[0]? = some x := by cases c with | nil => exact absurd rfl h0 | cons x r => exact ⟨x, rfl⟩
  obtain ⟨g, rfl, hg, _⟩ := hrd 0 x0 hx0
  have hcon := AnyQ.slices_ContainsFunc Tryz.contf 3 Tryz.isAgg116 Tryz.sizeOf116 encC (fun _ => rfl) (fun x => !x.put) 50 #[] (enters_of Tryz.func50 (by kernel_rfl) rfl) g 0 c.length cap c w
    (fun W x hb => Calls.mono (isdel_any x W) (fun _ _ ⟨h1, h2⟩ => ⟨h1, hb.trans (h2.mono hb.size)⟩)) (Nat.le_refl _) (by omega) hg
    (fun j hj i u hu => by
      obtain ⟨x, hx⟩ : ∃ x, c[j]? = some x := ⟨_, List.getElem?_eq_getElem hj⟩
      obtain ⟨g', e', _, a0, a1, a2⟩ := hrd j x hx
      cases e'
      have e1 : c[j]! = x := by rw [getElem!_pos c j hj]; exact (List.getElem?_eq_some_iff.1 hx).2
      rw [e1] at hu
      rw [Nat.zero_add]
      match i, hu with
      | 0, hu => simp [encC] at hu; subst hu; exact a0
      | 1, hu => simp [encC] at hu; subst hu; exact a1
      | 2, hu => simp [encC] at hu; subst hu; exact a2
      | n + 3, hu => simp [encC] at hu)
  have hcon' : Calls Tryz.prog 49 #[.slice (some ⟨g, 0, none⟩) c.length cap, .func (.func 50) #[] #[]] w _ := hcon
  rw [List.take_length] at hcon'
  exact hcon'
/-- A store that Open makes, at some pairs. -/
structure OpAt (w1 : World) (x lg mbn : Nat) (l : Sto.Pairs) (w' : World) : Prop where
  blk : w'.heap[x]? = some (stBlock (.pointer (some ⟨lg, 0, none⟩)) mbn (Sto.size l) (.int .i64 0) (.bool false))
  map : MapAt w' mbn l
  below : Below w1.heap.size w1 w'
  good : Sto.Good l
  fits : Sto.fits l = true
theorem OpAt.later {w1 w' w'' : World} {x lg mbn : Nat} {l : Sto.Pairs} (h : OpAt w1 x lg mbn l w') (hb : Below w'.heap.size w' w'') : OpAt w1 x lg mbn l w'' :=
  ⟨stays h.blk hb, h.map.below hb, bthen h.below hb, h.good, h.fits⟩
theorem OpAt.turned {w1 w' w'' : World} {x lg mbn : Nat} {l l' : Sto.Pairs} (h : OpAt w1 x lg mbn l w') (hx : w1.heap.size ≤ x) (hm : w1.heap.size ≤ mbn) (ht : Touch (fun k => k = x ∨ k = mbn) w' w'') (h2 : MapAt w'' mbn l' ∧ w''.heap[x]? = some (stBlock (.pointer (some ⟨lg, 0, none⟩)) mbn (Sto.size l') (.int .i64 0) (.bool false))) (hg : Sto.Good l') (hf : Sto.fits l' = true) : OpAt w1 x lg mbn l' w'' :=
  ⟨h2.2, h2.1, h.below.trans (ht.below h.below.size (fun k hk e => by rcases e with e | e <;> omega)), hg, hf⟩
theorem OpAt.spent {w1 w' w'' : World} {x lg mbn : Nat} {l : Sto.Pairs} (h : OpAt w1 x lg mbn l w') (hx : w1.heap.size ≤ x) (hm : w1.heap.size ≤ mbn) (ht : Touch (fun k => k = x ∨ k = mbn) w' w'') : Below w1.heap.size w1 w'' :=
  h.below.trans (ht.below h.below.size (fun k hk e => by rcases e with e | e <;> omega))
theorem fits_few {l : Sto.Pairs} (h : Sto.fits l = true) : l.length ≤ 2199023255552 := by
  unfold Sto.fits at h
  simp at h
  omega
set_option maxHeartbeats 4000000 in
set_option maxRecDepth 100000 in
theorem open11_any (c : Nat) (w : World) (d : DS) (m : Nat) (rb : Option Nat) (h : DiskAt w c d m rb) :
    Calls Tryz.prog 14 #[.pointer (some ⟨c, 0, none⟩)] w (SNewEnds c w (SS.open_ d).1 d (SS.open_ d).2.1 m rb (SS.open_ d).2.2) := by
  have HN := Lib.hid (wopen_any c w d m rb h)
  have HFEW : Hid (∀ q, (Wal.open_ d).1 = some q → q.rs.length ≤ 1048576 ∧ q.snap.length ≤ 524288 ∧ ∀ s ∈ q.rs, s.length ≤ 65536) := Lib.hid (fun q hq => by
    obtain ⟨h1, _, _, h2, h3⟩ := wopen_few h.1 hq
    exact ⟨h1, h2, h3⟩)
  clear h
  obtain ⟨o, E, r, hO⟩ : ∃ o E r, Wal.open_ d = (o, E, r) := ⟨_, _, _, rfl⟩
  cases o with
  | none =>
    have hr := wopen_bad hO
    have HX : Hid (SS.open_ d = (none, E, r)) := Lib.hid (by unfold SS.open_; rw [hO])
    rw [hO] at HN
    have hb : (r != 0) = true := by simp [hr]
    clear hO hr HFEW
    go_enter Tryz.func14, Tryz.ntmps14
    go_wp2_with fail
    refine HN.out.mono ?_
    rintro e w1 ⟨v, s, rv, rfl, _, hn, hrest⟩
    obtain ⟨rfl, rfl, rfl⟩ := hn rfl
    have HR := Lib.hid hrest
    clear hn hrest
    go_wp2
    go_ret2
    rw [HX.out]
    exact ⟨_, rfl, fun s e => (by cases e), fun _ => rfl, HR.out⟩
  | some q =>
  obtain rfl := wopen_ok hO
  obtain ⟨ql, sn, rs⟩ := q
  have HX0 : Hid (SS.opened ⟨ql, sn, rs⟩ = none → SS.open_ d = (none, E, 110)) := Lib.hid (fun e => by unfold SS.open_; rw [hO]; simp only [e])
  have HX1 : Hid (∀ l, SS.opened ⟨ql, sn, rs⟩ = some l → SS.open_ d = (some { l := ql, ps := l, turn := 0, dead := false }, E, 0)) := Lib.hid (fun l e => by unfold SS.open_; rw [hO]; simp only [e])
  rw [hO] at HN
  obtain ⟨hf1, hf2, hf3⟩ := HFEW.out _ (by rw [hO])
  have HF3 := Lib.hid hf3
  have hmk := fun w' => run_makeMap11 w'
  clear hO HFEW hf3
  simp only at hf1 hf2 HF3
  go_enter Tryz.func14, Tryz.ntmps14
  go_wp2_with fail
  refine HN.out.mono ?_
  rintro e w1 ⟨v, s, rv, rfl, hs, _, hrest⟩
  obtain ⟨rfl, hrec, lg, rfl, hlg, hla⟩ := hs _ rfl
  have hww : w.heap.size ≤ w1.heap.size := by obtain ⟨_, _, _, h3, _⟩ := hrest; exact h3.size
  have HFAIL : Hid (∀ w', Below w1.heap.size w1 w' → SS.opened ⟨ql, sn, rs⟩ = none → SNewEnds c w (SS.open_ d).1 d (SS.open_ d).2.1 m rb (SS.open_ d).2.2 (.returned (.tuple #[.pointer none, .int .i64 110])) w') := Lib.hid (fun w' hb hn => by
    rw [HX0.out hn]
    obtain ⟨rb', h1, h2, h3, h4⟩ := hrest
    exact ⟨_, rfl, fun s e => (by cases e), fun _ => rfl, rb', h1.below hb, h2, Touch.trans h3 (Touch.of_below hb) (fun _ _ e => e), h4⟩)
  have HGOOD : Hid (∀ w' x mbn l, OpAt w1 x lg mbn l w' → w1.heap.size ≤ x → w1.heap.size ≤ mbn → SS.opened ⟨ql, sn, rs⟩ = some l → SNewEnds c w (SS.open_ d).1 d (SS.open_ d).2.1 m rb (SS.open_ d).2.2 (.returned (.tuple #[.pointer (some ⟨x, 0, none⟩), .int .i64 0])) w') := Lib.hid (fun w' x mbn l ha hx hm hn => by
    rw [HX1.out l hn]
    obtain ⟨rb', h1, h2, h3, h4⟩ := hrest
    exact ⟨_, rfl, fun s e => (by cases e; exact ⟨x, lg, mbn, rfl, ⟨ha.blk, hla.below ha.below, ha.map, ha.good, ha.fits⟩, Nat.le_trans hww hx, hlg, Nat.le_trans hww hm⟩), fun e => (by cases e), rb', h1.below ha.below, h2, Touch.trans h3 (Touch.of_below ha.below) (fun _ _ e => e), h4⟩)
  obtain ⟨g, cur, rfl, hgb, hg, hgs, hgc⟩ := hrec
  have HG : Hid (∀ w', Below w1.heap.size w1 w' → ∀ j r, rs[j]? = some r → w'.cell? ⟨g, j, none⟩ = some (.string ⟨r.toArray⟩)) := Lib.hid (fun w' hb j r hj => cell_of (stays hg hb) (hgc j r hj))
  have b2 := balloc w1 (.map #[] 0)
  have m2 := MapAt.made w1
  have b3 := balloc (w1.alloc (.map #[] 0)) (stBlock (.pointer (some ⟨lg, 0, none⟩)) w1.heap.size (Sto.size []) (.int .i64 0) (.bool false))
  have n3 := heap_new (w1.alloc (.map #[] 0)) (stBlock (.pointer (some ⟨lg, 0, none⟩)) w1.heap.size (Sto.size []) (.int .i64 0) (.bool false))
  have hsz : (w1.alloc (.map #[] 0)).heap.size = w1.heap.size + 1 := by simp
  rw [hsz] at n3
  have HA2 : Hid (OpAt w1 (w1.heap.size + 1) lg w1.heap.size [] ((w1.alloc (.map #[] 0)).alloc (.cells #[.pointer (some ⟨lg, 0, none⟩), .map (some w1.heap.size), .int .i64 0, .int .i64 0, .bool false] 103 (0, 0)))) := Lib.hid ⟨n3, m2.below b3, bthen b2 b3, Sto.Good.nil, rfl⟩
  clear hs hrest hla hg hgc b2 m2 b3 n3 hsz HX0 HX1 HN hgs
  by_cases hsn : sn = []
  case pos =>
    have hse : sn.isEmpty = true := by rw [hsn]; rfl
    have HOP : Hid (SS.opened ⟨ql, sn, rs⟩ = SS.replay [] rs) := Lib.hid (by unfold SS.opened SS.snapPairs; rw [if_pos hsn]; rfl)
    clear hsn
    go_wp2_with fail
    obtain ⟨mbn, hmbn⟩ : ∃ b, w1.heap.size = b := ⟨_, rfl⟩
    obtain ⟨x, hx⟩ : ∃ b, w1.heap.size + 1 = b := ⟨_, rfl⟩
    have HXN : Hid (w1.heap.size ≤ x ∧ w1.heap.size ≤ mbn) := Lib.hid (by omega)
    rw [hx, hmbn] at HA2
    obtain ⟨w2, hw2⟩ : ∃ W, (w1.alloc (.map #[] 0)).alloc (.cells #[.pointer (some ⟨lg, 0, none⟩), .map (some mbn), .int .i64 0, .int .i64 0, .bool false] 103 (0, 0)) = W := ⟨_, rfl⟩
    rw [hw2] at HA2
    rw [hx, hmbn, hw2]
    have HA := Lib.hid HA2.out
    clear hx hmbn hw2 HA2
    go_loopw [50] (fun i wr => ∃ (j : Nat) (l : Sto.Pairs), i = .int .i64 j ∧ j ≤ rs.length ∧ SS.replay [] (rs.take j) = some l ∧ OpAt w1 x lg mbn l wr) (fun i _ => rs.length - (intOf i).toNat)
    case atStart => exact ⟨0, [], rfl, Nat.zero_le _, rfl, HA.out⟩
    case round =>
      obtain ⟨j, l, rfl, hj, hst, hop⟩ := hrel
      have HST := Lib.hid hst
      have HO1 := Lib.hid hop
      clear hst hop
      by_cases hlt : j < rs.length
      · obtain ⟨r, hr⟩ : ∃ x, rs[j]? = some x := ⟨_, List.getElem?_eq_getElem hlt⟩
        have cr := HG.out _ HO1.out.below j r hr
        have hrl := HF3.out r (List.mem_of_getElem? hr)
        have HRJ := Lib.hid hr
        clear hr
        go_wp2_with fail
        have hde := decode11_any r 2 512 wr (by omega) (by decide) (by decide)
        cases hdc : Sto.decode r 2 512 with
        | none =>
          rw [hdc] at hde
          have HDE := Lib.hid hde
          have HN := Lib.hid (HOP.out.trans (SS.replay_bad HST.out HRJ.out (by unfold SS.rec1; rw [hdc]; try rfl)))
          clear hdc hde cr
          refine HDE.out.mono ?_
          rintro e w6 ⟨v, rfl, cz, _, _, b6⟩
          have HB6 := Lib.hid (bthen HO1.out.below b6)
          clear b6
          go_wp2
          go_ret2
          exact HFAIL.out _ HB6.out HN.out
        | some ch =>
        rw [hdc] at hde
        have HDE := Lib.hid hde
        have HF := Lib.hid (Sto.decode_fine hdc)
        have HR1 : Hid (SS.rec1 l r = Sto.does l ch) := Lib.hid (by unfold SS.rec1; rw [hdc]; try rfl)
        clear hdc hde cr
        refine HDE.out.mono ?_
        rintro e w6 ⟨v, rfl, cz, hcz, hce, b6⟩
        obtain rfl := hce _ rfl
        have HO6 := Lib.hid (HO1.out.later b6)
        have HC6 := Lib.hid hcz
        clear b6 hcz hce HDE HO1
        go_wp2_with fail
        refine (does11_any x mbn _ _ _ w6 l _ cz HO6.out.blk HO6.out.map HC6.out HO6.out.good HF.out.2.2.1 (fits_few HO6.out.fits) (by have := HF.out.1; omega)).mono ?_
        rintro e w7 ⟨rfl, ht7, hr7⟩
        have HR7 := Lib.hid hr7
        have HT7 := Lib.hid ht7
        clear ht7 hr7
        cases hdo : Sto.does l cz with
        | none =>
          have HN := Lib.hid (HOP.out.trans (SS.replay_bad HST.out HRJ.out (HR1.out.trans hdo)))
          have HB7 := Lib.hid (HO6.out.spent HXN.out.1 HXN.out.2 HT7.out)
          clear hdo
          go_wp2
          go_ret2
          exact HFAIL.out _ HB7.out HN.out
        | some l1 =>
        have HST1 : Hid (SS.replay [] (rs.take (j + 1)) = some l1) := Lib.hid ((SS.replay_next HST.out HRJ.out).trans (HR1.out.trans hdo))
        have HG1 := Lib.hid (HO6.out.good.does HF.out.2.2.1 hdo)
        have HO7 := Lib.hid (HO6.out.turned HXN.out.1 HXN.out.2 HT7.out (HR7.out l1 hdo) HG1.out.1 HG1.out.2)
        clear hdo HR7 HT7 HO6 HC6 HF HG1
        go_wp2_with fail
        go_roundw
        all_goals first
          | (simp [intOf]; omega)
          | exact ⟨j + 1, l1, by go_num, by omega, HST1.out, HO7.out⟩
      · have hjr : j = rs.length := by omega
        have HN : Hid (SS.opened ⟨ql, sn, rs⟩ = some l) := Lib.hid (HOP.out.trans (by have := HST.out; rw [hjr, List.take_length] at this; exact this))
        have hjb : ¬ (j : Int) < rs.length := by omega
        clear hjr
        go_wp2
        go_ret2
        exact HGOOD.out _ _ _ _ HO1.out HXN.out.1 HXN.out.2 HN.out
  have hse : sn.isEmpty = false := by cases sn with | nil => exact absurd rfl hsn | cons a r => rfl
  have HOP : Hid (SS.opened ⟨ql, sn, rs⟩ = ((Sto.decode sn 4 2048).bind fun c => if c.all (·.put) then Sto.does [] c else none).bind fun l => SS.replay l rs) := Lib.hid (by unfold SS.opened SS.snapPairs; rw [if_neg hsn])
  clear hsn
  go_wp2_with fail
  obtain ⟨mbn, hmbn⟩ : ∃ b, w1.heap.size = b := ⟨_, rfl⟩
  obtain ⟨x, hx⟩ : ∃ b, w1.heap.size + 1 = b := ⟨_, rfl⟩
  have HXN : Hid (w1.heap.size ≤ x ∧ w1.heap.size ≤ mbn) := Lib.hid (by omega)
  rw [hx, hmbn] at HA2
  obtain ⟨w2, hw2⟩ : ∃ W, (w1.alloc (.map #[] 0)).alloc (.cells #[.pointer (some ⟨lg, 0, none⟩), .map (some mbn), .int .i64 0, .int .i64 0, .bool false] 103 (0, 0)) = W := ⟨_, rfl⟩
  rw [hw2] at HA2
  rw [hx, hmbn, hw2]
  have HA := Lib.hid HA2.out
  clear hx hmbn hw2 HA2
  have hde := decode11_any sn 4 2048 w2 (by omega) (by decide) (by decide)
  cases hdc : Sto.decode sn 4 2048 with
  | none =>
    rw [hdc] at hde
    have HDE := Lib.hid hde
    have HN := Lib.hid (HOP.out.trans (by rw [hdc]; try rfl))
    clear hdc hde
    refine HDE.out.mono ?_
    rintro e w3 ⟨v, rfl, cz, _, _, b3⟩
    have HB3 := Lib.hid (bthen HA.out.below b3)
    clear b3
    go_wp2
    go_ret2
    exact HFAIL.out _ HB3.out HN.out
  | some ch =>
  rw [hdc] at hde
  have HDE := Lib.hid hde
  have HF := Lib.hid (Sto.decode_fine hdc)
  have HOQ : Hid (SS.opened ⟨ql, sn, rs⟩ = (if ch.all (·.put) then Sto.does [] ch else none).bind fun l => SS.replay l rs) := Lib.hid (HOP.out.trans (by rw [hdc]; try rfl))
  clear hdc hde HOP
  refine HDE.out.mono ?_
  rintro e w3 ⟨v, rfl, cz, hcz, hce, b3⟩
  obtain rfl := hce _ rfl
  have HA3 := Lib.hid (HA.out.later b3)
  have HC3 := Lib.hid hcz
  clear b3 hcz hce HDE HA
  have hct := contains_any _ cz w3 HC3.out HF.out.2.1
  rw [← List.not_all_eq_any_not] at hct
  go_wp2_with fail
  cases hall : cz.all (·.put) with
  | false =>
    rw [hall] at hct
    have HN := Lib.hid (HOQ.out.trans (by rw [hall]; try rfl))
    clear hall
    refine hct.mono ?_
    clear hct
    rintro e w4 ⟨rfl, b4⟩
    have HB4 := Lib.hid (bthen HA3.out.below b4)
    clear b4
    go_wp2
    go_ret2
    exact HFAIL.out _ HB4.out HN.out
  | true =>
  rw [hall] at hct
  have HOR := Lib.hid (HOQ.out.trans (by rw [hall, if_pos rfl]))
  clear hall HOQ
  refine hct.mono ?_
  clear hct
  rintro e w4 ⟨rfl, b4⟩
  have HA4 := Lib.hid (HA3.out.later b4)
  have HC4 := Lib.hid (HC3.out.below b4)
  clear b4 HA3 HC3
  go_wp2_with fail
  refine (does11_any x mbn _ _ _ w4 [] _ cz HA4.out.blk HA4.out.map HC4.out Sto.Good.nil HF.out.2.2.1 (Nat.zero_le _) (by have := HF.out.1; omega)).mono ?_
  rintro e w5 ⟨rfl, ht5, hr5⟩
  have HR5 := Lib.hid hr5
  have HT5 := Lib.hid ht5
  clear ht5 hr5
  cases hdo : Sto.does [] cz with
  | none =>
    have HN := Lib.hid (HOR.out.trans (by rw [hdo]; try rfl))
    have HB5 := Lib.hid (HA4.out.spent HXN.out.1 HXN.out.2 HT5.out)
    clear hdo
    go_wp2
    go_ret2
    exact HFAIL.out _ HB5.out HN.out
  | some l0 =>
  have HOS : Hid (SS.opened ⟨ql, sn, rs⟩ = SS.replay l0 rs) := Lib.hid (HOR.out.trans (by rw [hdo]; try rfl))
  have HG0 := Lib.hid (Sto.Good.nil.does HF.out.2.2.1 hdo)
  have HA5 := Lib.hid (HA4.out.turned HXN.out.1 HXN.out.2 HT5.out (HR5.out l0 hdo) HG0.out.1 HG0.out.2)
  clear hdo HOR HR5 HT5 HA4 HC4 HF HG0
  go_wp2_with fail
  go_loopw [50] (fun i wr => ∃ (j : Nat) (l : Sto.Pairs), i = .int .i64 j ∧ j ≤ rs.length ∧ SS.replay l0 (rs.take j) = some l ∧ OpAt w1 x lg mbn l wr) (fun i _ => rs.length - (intOf i).toNat)
  case atStart => exact ⟨0, l0, rfl, Nat.zero_le _, rfl, HA5.out⟩
  case round =>
    obtain ⟨j, l, rfl, hj, hst, hop⟩ := hrel
    have HST := Lib.hid hst
    have HO1 := Lib.hid hop
    clear hst hop
    by_cases hlt : j < rs.length
    · obtain ⟨r, hr⟩ : ∃ x, rs[j]? = some x := ⟨_, List.getElem?_eq_getElem hlt⟩
      have cr := HG.out _ HO1.out.below j r hr
      have hrl := HF3.out r (List.mem_of_getElem? hr)
      have HRJ := Lib.hid hr
      clear hr
      go_wp2_with fail
      have hde := decode11_any r 2 512 wr (by omega) (by decide) (by decide)
      cases hdc : Sto.decode r 2 512 with
      | none =>
        rw [hdc] at hde
        have HDE := Lib.hid hde
        have HN := Lib.hid (HOS.out.trans (SS.replay_bad HST.out HRJ.out (by unfold SS.rec1; rw [hdc]; try rfl)))
        clear hdc hde cr
        refine HDE.out.mono ?_
        rintro e w6 ⟨v, rfl, cz, _, _, b6⟩
        have HB6 := Lib.hid (bthen HO1.out.below b6)
        clear b6
        go_wp2
        go_ret2
        exact HFAIL.out _ HB6.out HN.out
      | some ch =>
      rw [hdc] at hde
      have HDE := Lib.hid hde
      have HF := Lib.hid (Sto.decode_fine hdc)
      have HR1 : Hid (SS.rec1 l r = Sto.does l ch) := Lib.hid (by unfold SS.rec1; rw [hdc]; try rfl)
      clear hdc hde cr
      refine HDE.out.mono ?_
      rintro e w6 ⟨v, rfl, cz, hcz, hce, b6⟩
      obtain rfl := hce _ rfl
      have HO6 := Lib.hid (HO1.out.later b6)
      have HC6 := Lib.hid hcz
      clear b6 hcz hce HDE HO1
      go_wp2_with fail
      refine (does11_any x mbn _ _ _ w6 l _ cz HO6.out.blk HO6.out.map HC6.out HO6.out.good HF.out.2.2.1 (fits_few HO6.out.fits) (by have := HF.out.1; omega)).mono ?_
      rintro e w7 ⟨rfl, ht7, hr7⟩
      have HR7 := Lib.hid hr7
      have HT7 := Lib.hid ht7
      clear ht7 hr7
      cases hdo : Sto.does l cz with
      | none =>
        have HN := Lib.hid (HOS.out.trans (SS.replay_bad HST.out HRJ.out (HR1.out.trans hdo)))
        have HB7 := Lib.hid (HO6.out.spent HXN.out.1 HXN.out.2 HT7.out)
        clear hdo
        go_wp2
        go_ret2
        exact HFAIL.out _ HB7.out HN.out
      | some l1 =>
      have HST1 : Hid (SS.replay l0 (rs.take (j + 1)) = some l1) := Lib.hid ((SS.replay_next HST.out HRJ.out).trans (HR1.out.trans hdo))
      have HG1 := Lib.hid (HO6.out.good.does HF.out.2.2.1 hdo)
      have HO7 := Lib.hid (HO6.out.turned HXN.out.1 HXN.out.2 HT7.out (HR7.out l1 hdo) HG1.out.1 HG1.out.2)
      clear hdo HR7 HT7 HO6 HC6 HF HG1
      go_wp2_with fail
      go_roundw
      all_goals first
        | (simp [intOf]; omega)
        | exact ⟨j + 1, l1, by go_num, by omega, HST1.out, HO7.out⟩
    · have hjr : j = rs.length := by omega
      have HN : Hid (SS.opened ⟨ql, sn, rs⟩ = some l) := Lib.hid (HOS.out.trans (by have := HST.out; rw [hjr, List.take_length] at this; exact this))
      have hjb : ¬ (j : Int) < rs.length := by omega
      clear hjr
      go_wp2
      go_ret2
      exact HGOOD.out _ _ _ _ HO1.out HXN.out.1 HXN.out.2 HN.out
end Go.Proofs.YtpjpknndfhablaaGreat
namespace Go.Proofs.YtpjpknndfhablaaGreat
open Go.RowKit
/-- A transaction, with its blocks. -/
structure TRow where
  y : Nat
  pm : Option Nat
  wm : Nat
  t : TS
/-- Of two transactions neither turns what the other reads. -/
def TRow.off (r r' : TRow) : Prop := r.y ≠ r'.y ∧ (∀ b, r.pm = some b → r'.pm ≠ some b ∧ r'.wm ≠ b)
/-- The blocks of a store, its disk, its log, its transactions. -/
def Foot11 (x lg c mb : Nat) (rb : Option Nat) (rows : List TRow) : Nat → Prop := fun k => own3 c rb lg k ∨ k = x ∨ k = mb ∨ ∃ r ∈ rows, k = r.y ∨ r.pm = some k ∨ k = r.wm
structure Scn (w : World) (x lg c mb : Nat) (rb : Option Nat) (s : SS) (d : DS) (m : Nat) (rows : List TRow) : Prop where
  store : StoAt w x lg c mb s
  disk : DiskAt w c d m rb
  txs : ∀ (i : Nat) r, rows[i]? = some r → TxAt w x r.y r.pm r.wm r.t ∧ r.pm ≠ some mb
  apart : ∀ (i j : Nat) r r', rows[i]? = some r → rows[j]? = some r' → i ≠ j → r.off r'
/-- What a call leaves of it: it has turned nothing else, and what belongs to it now belonged to it or is new. -/
def STurn (w w' : World) (F F' : Nat → Prop) : Prop := Touch F w w' ∧ ∀ k, F' k → F k ∨ w.heap.size ≤ k
section
variable {w : World} {x lg c mb : Nat} {rb : Option Nat} {s : SS} {d : DS} {m : Nat} {rows : List TRow} (h : Scn w x lg c mb rb s d m rows)
theorem Scn.below {w' : World} (h : Scn w x lg c mb rb s d m rows) (hb : Below w.heap.size w w') : Scn w' x lg c mb rb s d m rows :=
  ⟨h.store.below hb, h.disk.below hb, fun i r hi => ⟨(h.txs i r hi).1.below hb, (h.txs i r hi).2⟩, h.apart⟩
theorem Scn.lt (h : Scn w x lg c mb rb s d m rows) {k : Nat} (hk : ∃ r ∈ rows, k = r.y ∨ r.pm = some k ∨ k = r.wm) : k < w.heap.size := by
  obtain ⟨r, hr, e⟩ := hk
  obtain ⟨i, hi⟩ := List.mem_iff_getElem?.1 hr
  have ht := (h.txs i r hi).1
  rcases e with rfl | e | rfl
  · exact heap_lt ht.blk
  · exact ht.now.lt k e
  · exact ht.was.lt
/-- Behind a piece of work on the store itself. -/
theorem Scn.worked (h : Scn w x lg c mb rb s d m rows) {s' : SS} {d' : DS} {m' : Nat} {w' : World} (hw : SWorked x lg c mb s' d d' m' rb w w') :
    ∃ mb' rb', Scn w' x lg c mb' rb' s' d' m' rows ∧ STurn w w' (Foot11 x lg c mb rb rows) (Foot11 x lg c mb' rb' rows) ∧ (d'.dead = true → d.dead = false → rb' = none) := by
  obtain ⟨⟨mb', a1, a2⟩, ⟨rb', b1, b2, b3⟩, c1⟩ := hw
  refine ⟨mb', rb', ⟨a1, b1, fun i r hi => ⟨(h.txs i r hi).1.worked h.store h.disk c1, fun e => ?_⟩, h.apart⟩, ⟨c1.mono (fun k _ e => e.imp id .inl), fun k hk => ?_⟩, b3⟩
  · rcases a2 with rfl | a2
    · exact (h.txs i r hi).2 e
    · have := (h.txs i r hi).1.now.lt mb' e
      omega
  · rcases hk with ((rfl | hk) | rfl) | rfl | rfl | hk
    · exact .inl (.inl (.inl (.inl rfl)))
    · rcases b2 k hk with e | e
      · exact .inl (.inl (.inl (.inr e)))
      · exact .inr e
    · exact .inl (.inl (.inr rfl))
    · exact .inl (.inr (.inl rfl))
    · rcases a2 with rfl | a2
      · exact .inl (.inr (.inr (.inl rfl)))
      · exact .inr a2
    · exact .inl (.inr (.inr (.inr hk)))
theorem set_row {rows : List TRow} {i j : Nat} {r r' : TRow} (h : (rows.set i r)[j]? = some r') : (i = j ∧ r' = r ∧ i < rows.length) ∨ (i ≠ j ∧ rows[j]? = some r') := by
  rw [List.getElem?_set] at h
  by_cases e : i = j
  · rw [if_pos e] at h
    split at h
    · exact .inl ⟨e, (Option.some.inj h).symm, by assumption⟩
    · cases h
  · rw [if_neg e] at h
    exact .inr ⟨e, h⟩
theorem mem_set_row {rows : List TRow} {i : Nat} {r q : TRow} (h : q ∈ rows.set i r) : q = r ∨ q ∈ rows := by
  rcases List.mem_or_eq_of_mem_set h with h | h
  · exact .inr h
  · exact .inl h
/-- A transaction has turned its own map. -/
theorem Scn.mine (h : Scn w x lg c mb rb s d m rows) {i : Nat} {r : TRow} (hi : rows[i]? = some r) {t' : TS} {w' : World} (ht : TxAt w' x r.y r.pm r.wm t') (hT : Touch (fun b => r.pm = some b) w w') :
    Scn w' x lg c mb rb s d m (rows.set i { r with t := t' }) ∧ STurn w w' (Foot11 x lg c mb rb rows) (Foot11 x lg c mb rb (rows.set i { r with t := t' })) := by
  have hr := h.txs i r hi
  have hmem := List.mem_of_getElem? hi
  have hfar : ∀ k, r.pm = some k → ¬ (own3 c rb lg k ∨ k = x) ∧ ∀ (a : Array Value) t f, w.heap[k]? ≠ some (.cells a t f) := fun k hk => by
    have h1 := hr.1.now
    rw [hk] at h1
    have h2 : MapAt w k r.t.now := h1
    refine ⟨h.store.farMap h.disk h2, fun a t f e => ?_⟩
    obtain ⟨es, cl, h4⟩ := h2.isMap
    rw [e] at h4
    cases h4
  refine ⟨⟨h.store.touch hT (fun e => (hfar x e).1 (.inr rfl)) (fun e => (hfar lg e).1 (.inl (.inr rfl))) hr.2, h.disk.touch hT (fun k hk e => (hfar k e).1 (.inl (.inl hk))), fun j r' hj => ?_, fun j k r1 r2 h1 h2 hne => ?_⟩, hT.mono (fun k _ e => .inr (.inr (.inr ⟨r, hmem, .inr (.inl e)⟩))), fun k hk => ?_⟩
  · rcases set_row hj with ⟨_, rfl, _⟩ | ⟨hij, hj⟩
    · exact ⟨ht, hr.2⟩
    · have hr' := h.txs j r' hj
      have ho := h.apart i j r r' hi hj hij
      exact ⟨hr'.1.touch hT (fun e => (hfar _ e).2 _ _ _ hr'.1.blk) (fun e => (ho.2 _ e).2 rfl) (fun b hb e => (ho.2 b e).1 hb), hr'.2⟩
  · rcases set_row h1 with ⟨e1, rfl, _⟩ | ⟨e1, h1⟩ <;> rcases set_row h2 with ⟨e2, rfl, _⟩ | ⟨e2, h2⟩
    · omega
    · exact h.apart i k r r2 hi h2 e2
    · exact h.apart j i r1 r h1 hi (fun e => e1 e.symm)
    · exact h.apart j k r1 r2 h1 h2 hne
  · rcases hk with hk | hk | hk | ⟨q, hq, hk⟩
    · exact .inl (.inl hk)
    · exact .inl (.inr (.inl hk))
    · exact .inl (.inr (.inr (.inl hk)))
    · rcases mem_set_row hq with rfl | hq
      · exact .inl (.inr (.inr (.inr ⟨r, hmem, hk⟩)))
      · exact .inl (.inr (.inr (.inr ⟨q, hq, hk⟩)))
include h
theorem sync_scn : Calls Tryz.prog 41 #[.pointer (some ⟨x, 0, none⟩)] w fun e w' => e = .returned (.int .i64 (s.sync d).2.2) ∧ ∃ mb' rb', Scn w' x lg c mb' rb' (s.sync d).1 (s.sync d).2.1 m rows ∧ STurn w w' (Foot11 x lg c mb rb rows) (Foot11 x lg c mb' rb' rows) ∧ ((s.sync d).2.1.dead = true → d.dead = false → rb' = none) :=
  (sync11_any x lg c mb w s d m rb h.store h.disk).mono fun _ _ ⟨he, hw⟩ => ⟨he, h.worked hw⟩
theorem check_scn (hm : m < 5000000000000) (hlg : s.l.g ≤ 4611686018427387904) : Calls Tryz.prog 60 #[.pointer (some ⟨x, 0, none⟩)] w fun e w' => e = .returned (.int .i64 (s.check d).2.2) ∧ ∃ mb' rb', Scn w' x lg c mb' rb' (s.check d).1 (s.check d).2.1 (m + 1) rows ∧ STurn w w' (Foot11 x lg c mb rb rows) (Foot11 x lg c mb' rb' rows) ∧ ((s.check d).2.1.dead = true → d.dead = false → rb' = none) :=
  (check11_any x lg c mb w s d m rb h.store h.disk hm hlg).mono fun _ _ ⟨he, hw⟩ => ⟨he, h.worked hw⟩
theorem begin_scn : Calls Tryz.prog 23 #[.pointer (some ⟨x, 0, none⟩)] w fun e w' => ∃ r : TRow, e = .returned (.pointer (some ⟨r.y, 0, none⟩)) ∧ r.t = s.begin_ ∧ Scn w' x lg c mb rb s d m (rows ++ [r]) ∧ STurn w w' (Foot11 x lg c mb rb rows) (Foot11 x lg c mb rb (rows ++ [r])) ∧ Below w.heap.size w w' := by
  refine (begin11_any x lg c mb w s h.store).mono ?_
  rintro e w' ⟨y, pm, wm, rfl, ht, hy, hp, hw, hb⟩
  have hml := h.store.map.lt
  refine ⟨⟨y, some pm, wm, s.begin_⟩, rfl, rfl, ⟨h.store.below hb, h.disk.below hb, fun i r hi => ?_, fun i j r r' hi hj hne => ?_⟩, ⟨Touch.of_below hb, fun k hk => ?_⟩, hb⟩
  · rw [List.getElem?_append] at hi
    split at hi
    · exact ⟨(h.txs i r hi).1.below hb, (h.txs i r hi).2⟩
    · have : i - rows.length = 0 := by
        have := (List.getElem?_eq_some_iff.1 hi).1
        simp at this; omega
      rw [this] at hi
      cases hi
      exact ⟨ht, fun e => by have := Option.some.inj e; omega⟩
  · rw [List.getElem?_append] at hi hj
    split at hi <;> split at hj
    · exact h.apart i j r r' hi hj hne
    · have : j - rows.length = 0 := by
        have := (List.getElem?_eq_some_iff.1 hj).1
        simp at this; omega
      rw [this] at hj
      cases hj
      have hl := fun k e => h.lt (k := k) ⟨r, List.mem_of_getElem? hi, e⟩
      refine ⟨fun e => ?_, fun b e => ⟨fun e' => ?_, fun e' => ?_⟩⟩
      · have := hl r.y (.inl rfl); simp only at e; omega
      · have := hl b (.inr (.inl e)); have := Option.some.inj e'; omega
      · have := hl b (.inr (.inl e)); simp only at e'; omega
    · have : i - rows.length = 0 := by
        have := (List.getElem?_eq_some_iff.1 hi).1
        simp at this; omega
      rw [this] at hi
      cases hi
      have hl := fun k e => h.lt (k := k) ⟨r', List.mem_of_getElem? hj, e⟩
      refine ⟨fun e => ?_, fun b e => ⟨fun e' => ?_, fun e' => ?_⟩⟩
      · have := hl r'.y (.inl rfl); simp only at e; omega
      · have := hl b (.inr (.inl e')); have := Option.some.inj e; omega
      · have := hl r'.wm (.inr (.inr rfl)); have := Option.some.inj e; omega
    · have h1 := (List.getElem?_eq_some_iff.1 hi).1
      have h2 := (List.getElem?_eq_some_iff.1 hj).1
      simp at h1 h2
      omega
  · rcases hk with hk | hk | hk | ⟨q, hq, hk⟩
    · exact .inl (.inl hk)
    · exact .inl (.inr (.inl hk))
    · exact .inl (.inr (.inr (.inl hk)))
    · rcases List.mem_append.1 hq with hq | hq
      · exact .inl (.inr (.inr (.inr ⟨q, hq, hk⟩)))
      · simp at hq
        subst hq
        rcases hk with rfl | hk | rfl
        · exact .inr hy
        · have := Option.some.inj hk; exact .inr (by omega)
        · exact .inr hw
end
section
variable {w : World} {x lg c mb : Nat} {rb : Option Nat} {s : SS} {d : DS} {m : Nat} {rows : List TRow} (h : Scn w x lg c mb rb s d m rows) {i : Nat} {r : TRow} (hi : rows[i]? = some r)
include h hi
theorem put_scn (k v : Sto.S) (hk : k.length ≤ maxLen) (hv : v.length ≤ maxLen) (hl : r.t.now.length < maxLen) : Calls Tryz.prog 24 #[.pointer (some ⟨r.y, 0, none⟩), .string ⟨k.toArray⟩, .string ⟨v.toArray⟩] w fun e w' => e = .returned (.int .i64 (r.t.put k v).2) ∧
    Scn w' x lg c mb rb s d m (rows.set i { r with t := (r.t.put k v).1 }) ∧ STurn w w' (Foot11 x lg c mb rb rows) (Foot11 x lg c mb rb (rows.set i { r with t := (r.t.put k v).1 })) :=
  (put11_any (h.txs i r hi).1 k v hk hv hl).mono fun _ _ ⟨he, ht, hT⟩ => ⟨he, h.mine hi ht hT⟩
theorem del_scn (k : Sto.S) (hk : k.length ≤ maxLen) : Calls Tryz.prog 25 #[.pointer (some ⟨r.y, 0, none⟩), .string ⟨k.toArray⟩] w fun e w' => e = .returned (.int .i64 (r.t.del k).2) ∧
    Scn w' x lg c mb rb s d m (rows.set i { r with t := (r.t.del k).1 }) ∧ STurn w w' (Foot11 x lg c mb rb rows) (Foot11 x lg c mb rb (rows.set i { r with t := (r.t.del k).1 })) :=
  (delete11_any (h.txs i r hi).1 k hk).mono fun _ _ ⟨he, ht, hT⟩ => ⟨he, h.mine hi ht hT⟩
/-- A transaction over. -/
def TRow.ended (r : TRow) : TRow := if r.t.over then r else { r with pm := none, t := r.t.ends }
theorem commit_scn (hm : m < 4999999999999) (hlg : s.l.g ≤ 4611686018427387904) (hln : s.l.n ≤ 4611686018427387904) (hl1 : r.t.now.length ≤ 4194304) (hl2 : r.t.was.length ≤ 4096) (hturn : s.turn ≤ 4611686018427387904) :
    Calls Tryz.prog 27 #[.pointer (some ⟨r.y, 0, none⟩)] w fun e w' => e = .returned (.int .i64 (s.commit r.t d).2.2) ∧ ∃ mb' rb', Scn w' x lg c mb' rb' (s.commit r.t d).1 (s.commit r.t d).2.1 (m + 2) (rows.set i r.ended) ∧
      STurn w w' (Foot11 x lg c mb rb rows) (Foot11 x lg c mb' rb' (rows.set i r.ended)) ∧ ((s.commit r.t d).2.1.dead = true → d.dead = false → rb' = none) := by
  have hr := h.txs i r hi
  have hmem := List.mem_of_getElem? hi
  refine (commit11_any x lg c mb r.y r.wm r.pm w s r.t d m rb h.store h.disk hr.1 hm hlg hln hl1 hl2 hturn).mono ?_
  rintro e w' ⟨rfl, ⟨mb', a1, a2⟩, ⟨rb', b1, b2, b3⟩, c1, t1⟩
  have he : r.ended.y = r.y ∧ r.ended.wm = r.wm ∧ r.ended.pm = (if r.t.over then r.pm else none) ∧ r.ended.t = (if r.t.over then r.t else r.t.ends) := by
    unfold TRow.ended
    cases r.t.over <;> exact ⟨rfl, rfl, rfl, rfl⟩
  have hpm : ∀ b, r.ended.pm = some b → r.pm = some b := fun b e => by
    rw [he.2.2.1] at e
    split at e
    · exact e
    · cases e
  have hmbs : ∀ (r' : TRow), r'.pm ≠ some mb → (∀ b, r'.pm = some b → b < w.heap.size) → r'.pm ≠ some mb' := fun r' h1 h2 e => by
    rcases a2 with rfl | a2
    · exact h1 e
    · have := h2 mb' e; omega
  refine ⟨rfl, mb', rb', ⟨a1, b1, fun j r' hj => ?_, fun j k r1 r2 h1 h2 hne => ?_⟩, ⟨c1.mono (fun k _ e => ?_), fun k hk => ?_⟩, b3⟩
  · rcases set_row hj with ⟨_, rfl, _⟩ | ⟨hij, hj⟩
    · refine ⟨?_, hmbs r.ended (fun e => hr.2 (hpm _ e)) (fun b e => hr.1.now.lt b (hpm b e))⟩
      rw [he.1, he.2.1, he.2.2.1, he.2.2.2]
      exact t1
    · have hr' := h.txs j r' hj
      have ho := h.apart i j r r' hi hj hij
      have hcell : ∀ k (l : Sto.Pairs), MapAt w k l → k ≠ r.y := fun k l hk e => by
        obtain ⟨es, cl, h4⟩ := hk.isMap
        rw [e, hr.1.blk] at h4
        cases h4
      refine ⟨hr'.1.touch c1 ?_ ?_ (fun b hb => ?_), hmbs r' hr'.2 (fun b e => hr'.1.now.lt b e)⟩
      · have hf := h.store.far h.disk hr'.1.blk (fun a t f e => by cases e; decide)
        rintro (e | e | e)
        · exact hf (.inl e)
        · exact hf (.inr e)
        · exact ho.1 e.symm
      · have hf := h.store.farMap h.disk hr'.1.was
        rintro (e | e | e)
        · exact hf (.inl e)
        · exact hf (.inr e)
        · exact hcell _ _ hr'.1.was e
      · have hn := hr'.1.now
        rw [hb] at hn
        have hf := h.store.farMap h.disk (l := r'.t.now) hn
        rintro (e | e | e)
        · exact hf (.inl e)
        · exact hf (.inr e)
        · exact hcell b r'.t.now hn e
  · have hoff1 : ∀ q, r.off q → r.ended.off q := fun q hq => ⟨by rw [he.1]; exact hq.1, fun b e => hq.2 b (hpm b e)⟩
    have hoff2 : ∀ q : TRow, q.off r → q.off r.ended := fun q hq => ⟨by rw [he.1]; exact hq.1, fun b e => ⟨fun e' => (hq.2 b e).1 (hpm b e'), by rw [he.2.1]; exact (hq.2 b e).2⟩⟩
    rcases set_row h1 with ⟨e1, rfl, _⟩ | ⟨e1, h1⟩ <;> rcases set_row h2 with ⟨e2, rfl, _⟩ | ⟨e2, h2⟩
    · omega
    · exact hoff1 _ (h.apart i k r r2 hi h2 e2)
    · exact hoff2 _ (h.apart j i r1 r h1 hi (fun e => e1 e.symm))
    · exact h.apart j k r1 r2 h1 h2 hne
  · rcases e with e | rfl | rfl
    · exact .inl e
    · exact .inr (.inl rfl)
    · exact .inr (.inr (.inr ⟨r, hmem, .inl rfl⟩))
  · rcases hk with ((rfl | hk) | rfl) | rfl | rfl | ⟨q, hq, hk⟩
    · exact .inl (.inl (.inl (.inl rfl)))
    · rcases b2 k hk with e | e
      · exact .inl (.inl (.inl (.inr e)))
      · exact .inr e
    · exact .inl (.inl (.inr rfl))
    · exact .inl (.inr (.inl rfl))
    · rcases a2 with rfl | a2
      · exact .inl (.inr (.inr (.inl rfl)))
      · exact .inr a2
    · rcases mem_set_row hq with rfl | hq
      · refine .inl (.inr (.inr (.inr ⟨r, hmem, ?_⟩)))
        rcases hk with e | e | e
        · exact .inl (e.trans he.1)
        · exact .inr (.inl (hpm k e))
        · exact .inr (.inr (e.trans he.2.1))
      · exact .inl (.inr (.inr (.inr ⟨q, hq, hk⟩)))
end
end Go.Proofs.YtpjpknndfhablaaGreat
namespace Go.Proofs.YtpjpknndfhablaaGreat
open Go.RowKit
/-- In w a store in block x over the disk in block c, with these transactions (their blocks, what they are); F: all that belongs to it. -/
def Sc (w : World) (F : Nat → Prop) (x c : Nat) (s : SS) (d : DS) (m : Nat) (ts : List (Nat × TS)) : Prop :=
  ∃ lg mb rb rows, F = Foot11 x lg c mb rb rows ∧ Scn w x lg c mb rb s d m rows ∧ rows.map (fun r => (r.y, r.t)) = ts
/-- A block that lies apart. -/
structure Kept (w : World) (F : Nat → Prop) (k : Nat) (o : Obj) : Prop where
  blk : w.heap[k]? = some o
  off : ¬ F k
theorem Kept.turn {w w' : World} {F F' : Nat → Prop} {k : Nat} {o : Obj} (h : Kept w F k o) (ht : STurn w w' F F') : Kept w' F' k o :=
  ⟨(ht.1.block k (heap_lt h.blk) h.off).trans h.blk, fun e => by rcases ht.2 k e with e | e; exact h.off e; have := heap_lt h.blk; omega⟩
theorem Kept.below {w w' : World} {F : Nat → Prop} {k : Nat} {o : Obj} (h : Kept w F k o) (hb : Below w.heap.size w w') : Kept w' F k o := ⟨stays h.blk hb, h.off⟩
/-- Pairs that lie apart. -/
structure KeptP (w : World) (F : Nat → Prop) (v : Value) (l : Sto.Pairs) : Prop where
  pairs : PairsAt w v l
  off : ∀ g, v.ownBlock = some g → ¬ F g ∧ g < w.heap.size
theorem PairsAt.blk {w : World} {v : Value} {l : Sto.Pairs} (h : PairsAt w v l) {g : Nat} (hg : v.ownBlock = some g) : g < w.heap.size := by
  rcases h.2 with ⟨rfl, _⟩ | ⟨g', cap, rfl, _, hlt, _⟩
  · cases hg
  · cases hg; exact hlt
theorem KeptP.turn {w w' : World} {F F' : Nat → Prop} {v : Value} {l : Sto.Pairs} (h : KeptP w F v l) (ht : STurn w w' F F') : KeptP w' F' v l :=
  ⟨h.pairs.touch ht.1 (fun k hk => (h.off k hk).1), fun g hg => ⟨fun e => by rcases ht.2 g e with e | e; exact (h.off g hg).1 e; have := (h.off g hg).2; omega, Nat.lt_of_lt_of_le (h.off g hg).2 ht.1.size⟩⟩
theorem KeptP.below {w w' : World} {F : Nat → Prop} {v : Value} {l : Sto.Pairs} (h : KeptP w F v l) (hb : Below w.heap.size w w') : KeptP w' F v l :=
  ⟨h.pairs.below hb, fun g hg => ⟨(h.off g hg).1, Nat.lt_of_lt_of_le (h.off g hg).2 hb.size⟩⟩
/-- All that belongs to it has been made since w0, and what lay in w0 lies as it lay. -/
structure Since (w0 w : World) (F : Nat → Prop) : Prop where
  old : Below w0.heap.size w0 w
  low : ∀ k, F k → w0.heap.size ≤ k
theorem Since.turn {w0 w w' : World} {F F' : Nat → Prop} (h : Since w0 w F) (ht : STurn w w' F F') : Since w0 w' F' :=
  ⟨h.old.trans (ht.1.below h.old.size fun k hk e => by have := h.low k e; omega), fun k e => by rcases ht.2 k e with e | e; exact h.low k e; exact Nat.le_trans h.old.size e⟩
theorem Since.below {w0 w w' : World} {F : Nat → Prop} (h : Since w0 w F) (hb : Below w.heap.size w w') : Since w0 w' F := ⟨h.old.trans (hb.mono h.old.size), h.low⟩
theorem STurn.refl (w : World) (F : Nat → Prop) : STurn w w F F := ⟨Touch.refl _ _, fun _ h => .inl h⟩
theorem STurn.below {w w' : World} {F : Nat → Prop} (hb : Below w.heap.size w w') : STurn w w' F F := ⟨Touch.of_below hb, fun _ h => .inl h⟩
theorem STurn.trans {w w1 w2 : World} {F F1 F2 : Nat → Prop} (h : STurn w w1 F F1) (h' : STurn w1 w2 F1 F2) : STurn w w2 F F2 :=
  ⟨h.1.trans h'.1 (fun k hk e => by rcases h.2 k e with e | e; exact e; omega), fun k e => by rcases h'.2 k e with e | e; exact h.2 k e; exact .inr (Nat.le_trans h.1.size e)⟩
section
variable {w : World} {F : Nat → Prop} {x c : Nat} {s : SS} {d : DS} {m : Nat} {ts : List (Nat × TS)}
theorem Sc.below {w' : World} (h : Sc w F x c s d m ts) (hb : Below w.heap.size w w') : Sc w' F x c s d m ts := by
  obtain ⟨lg, mb, rb, rows, h1, h2, h3⟩ := h
  exact ⟨lg, mb, rb, rows, h1, h2.below hb, h3⟩
theorem Sc.mono {n : Nat} (h : Sc w F x c s d m ts) (hmn : m ≤ n) : Sc w F x c s d n ts := by
  obtain ⟨lg, mb, rb, rows, h1, h2, h3⟩ := h
  exact ⟨lg, mb, rb, rows, h1, ⟨h2.store, h2.disk.mono hmn, h2.txs, h2.apart⟩, h3⟩
theorem Sc.good (h : Sc w F x c s d m ts) : d.Ok ∧ Sto.Good s.ps ∧ Sto.fits s.ps = true := by
  obtain ⟨lg, mb, rb, rows, _, h2, _⟩ := h
  exact ⟨h2.disk.1, h2.store.good, h2.store.fits⟩
theorem Sc.goodT (h : Sc w F x c s d m ts) {i y : Nat} {t : TS} (hi : ts[i]? = some (y, t)) : Sto.Good t.now ∧ Sto.Good t.was := by
  obtain ⟨lg, mb, rb, rows, _, h2, rfl⟩ := h
  rw [List.getElem?_map] at hi
  cases hr : rows[i]? with
  | none => rw [hr] at hi; cases hi
  | some r =>
    rw [hr] at hi
    cases hi
    exact ⟨(h2.txs i r hr).1.gnow, (h2.txs i r hr).1.gwas⟩
theorem map_set_row {rows : List TRow} {i : Nat} {r : TRow} : (rows.set i r).map (fun r => (r.y, r.t)) = (rows.map (fun r => (r.y, r.t))).set i (r.y, r.t) := by
  rw [List.map_set]
theorem sync_sc (h : Sc w F x c s d m ts) : Calls Tryz.prog 41 #[.pointer (some ⟨x, 0, none⟩)] w fun e w' => e = .returned (.int .i64 (s.sync d).2.2) ∧ ∃ F', Sc w' F' x c (s.sync d).1 (s.sync d).2.1 m ts ∧ STurn w w' F F' ∧ ((s.sync d).2.1.dead = true → d.dead = false → Sc w' F' x c (s.sync d).1 (s.sync d).2.1 0 ts) := by
  obtain ⟨lg, mb, rb, rows, rfl, h2, h3⟩ := h
  refine (sync_scn h2).mono ?_
  rintro e w' ⟨he, mb', rb', a1, a2, a3⟩
  exact ⟨he, _, ⟨lg, mb', rb', rows, rfl, a1, h3⟩, a2, fun e1 e2 => by obtain rfl := a3 e1 e2; exact ⟨lg, mb', none, rows, rfl, ⟨a1.store, a1.disk.fresh, a1.txs, a1.apart⟩, h3⟩⟩
theorem check_sc (h : Sc w F x c s d m ts) (hm : m < 5000000000000) (hlg : s.l.g ≤ 4611686018427387904) : Calls Tryz.prog 60 #[.pointer (some ⟨x, 0, none⟩)] w fun e w' => e = .returned (.int .i64 (s.check d).2.2) ∧ ∃ F', Sc w' F' x c (s.check d).1 (s.check d).2.1 (m + 1) ts ∧ STurn w w' F F' ∧ ((s.check d).2.1.dead = true → d.dead = false → Sc w' F' x c (s.check d).1 (s.check d).2.1 0 ts) := by
  obtain ⟨lg, mb, rb, rows, rfl, h2, h3⟩ := h
  refine (check_scn h2 hm hlg).mono ?_
  rintro e w' ⟨he, mb', rb', a1, a2, a3⟩
  exact ⟨he, _, ⟨lg, mb', rb', rows, rfl, a1, h3⟩, a2, fun e1 e2 => by obtain rfl := a3 e1 e2; exact ⟨lg, mb', none, rows, rfl, ⟨a1.store, a1.disk.fresh, a1.txs, a1.apart⟩, h3⟩⟩
theorem begin_sc (h : Sc w F x c s d m ts) : Calls Tryz.prog 23 #[.pointer (some ⟨x, 0, none⟩)] w fun e w' => ∃ y F', e = .returned (.pointer (some ⟨y, 0, none⟩)) ∧ Sc w' F' x c s d m (ts ++ [(y, s.begin_)]) ∧ STurn w w' F F' := by
  obtain ⟨lg, mb, rb, rows, rfl, h2, h3⟩ := h
  refine (begin_scn h2).mono ?_
  rintro e w' ⟨r, rfl, hrt, a1, a2, _⟩
  exact ⟨r.y, _, rfl, ⟨lg, mb, rb, rows ++ [r], rfl, a1, by rw [List.map_append, h3, List.map_singleton, hrt]⟩, a2⟩
theorem scan_sc (h : Sc w F x c s d m ts) (k : Sto.S) (most : Int) (hm1 : most ≤ 9223372036854775807) (hm2 : -9223372036854775808 ≤ most) : Calls Tryz.prog 20 #[.pointer (some ⟨x, 0, none⟩), .string ⟨k.toArray⟩, .int .i64 most] w fun e w' => ∃ v, e = .returned v ∧ PairsAt w' v (Sto.scan s.ps k most.toNat) ∧ (∀ g, v.ownBlock = some g → w.heap.size ≤ g) ∧ Below w.heap.size w w' := by
  obtain ⟨lg, mb, rb, rows, _, h2, _⟩ := h
  exact scan11_any h2.store k most hm1 hm2
theorem dead_sc (h : Sc w F x c s d m ts) : Calls Tryz.prog 29 #[.pointer (some ⟨x, 0, none⟩)] w fun e w' => e = .returned (.bool s.dead) ∧ w' = w := by
  obtain ⟨lg, mb, rb, rows, _, h2, _⟩ := h
  exact dead11_any h2.store
theorem Sc.lt (h : Sc w F x c s d m ts) : ∀ k, F k → k < w.heap.size := by
  obtain ⟨lg, mb, rb, rows, rfl, h2, _⟩ := h
  intro k hk
  rcases hk with hk | rfl | rfl | hk
  · obtain ⟨a, t, f, h1, _⟩ := h2.store.log.typed3 h2.disk k hk
    exact heap_lt h1
  · exact heap_lt h2.store.blk
  · exact h2.store.map.lt
  · exact h2.lt hk
theorem row_of (h : Sc w F x c s d m ts) {i y : Nat} {t : TS} (hi : ts[i]? = some (y, t)) : ∃ lg mb rb rows r, F = Foot11 x lg c mb rb rows ∧ Scn w x lg c mb rb s d m rows ∧ rows.map (fun r => (r.y, r.t)) = ts ∧ rows[i]? = some r ∧ r.y = y ∧ r.t = t := by
  obtain ⟨lg, mb, rb, rows, h1, h2, h3⟩ := h
  rw [← h3, List.getElem?_map] at hi
  cases hr : rows[i]? with
  | none => rw [hr] at hi; cases hi
  | some r =>
    rw [hr] at hi
    cases hi
    exact ⟨lg, mb, rb, rows, r, h1, h2, h3, hr, rfl, rfl⟩
theorem put_sc (h : Sc w F x c s d m ts) {i y : Nat} {t : TS} (hi : ts[i]? = some (y, t)) (k v : Sto.S) (hk : k.length ≤ maxLen) (hv : v.length ≤ maxLen) (hl : t.now.length < maxLen) : Calls Tryz.prog 24 #[.pointer (some ⟨y, 0, none⟩), .string ⟨k.toArray⟩, .string ⟨v.toArray⟩] w fun e w' => e = .returned (.int .i64 (t.put k v).2) ∧ ∃ F', Sc w' F' x c s d m (ts.set i (y, (t.put k v).1)) ∧ STurn w w' F F' := by
  obtain ⟨lg, mb, rb, rows, r, rfl, h2, h3, hr, rfl, rfl⟩ := row_of h hi
  refine (put_scn h2 hr k v hk hv hl).mono ?_
  rintro e w' ⟨he, a1, a2⟩
  exact ⟨he, _, ⟨lg, mb, rb, _, rfl, a1, by rw [map_set_row, h3]⟩, a2⟩
theorem del_sc (h : Sc w F x c s d m ts) {i y : Nat} {t : TS} (hi : ts[i]? = some (y, t)) (k : Sto.S) (hk : k.length ≤ maxLen) : Calls Tryz.prog 25 #[.pointer (some ⟨y, 0, none⟩), .string ⟨k.toArray⟩] w fun e w' => e = .returned (.int .i64 (t.del k).2) ∧ ∃ F', Sc w' F' x c s d m (ts.set i (y, (t.del k).1)) ∧ STurn w w' F F' := by
  obtain ⟨lg, mb, rb, rows, r, rfl, h2, h3, hr, rfl, rfl⟩ := row_of h hi
  refine (del_scn h2 hr k hk).mono ?_
  rintro e w' ⟨he, a1, a2⟩
  exact ⟨he, _, ⟨lg, mb, rb, _, rfl, a1, by rw [map_set_row, h3]⟩, a2⟩
theorem txscan_sc (h : Sc w F x c s d m ts) {i y : Nat} {t : TS} (hi : ts[i]? = some (y, t)) (k : Sto.S) (most : Int) (hlen : t.now.length ≤ 4398046511104) (hm1 : most ≤ 9223372036854775807) (hm2 : -9223372036854775808 ≤ most) : Calls Tryz.prog 26 #[.pointer (some ⟨y, 0, none⟩), .string ⟨k.toArray⟩, .int .i64 most] w fun e w' => ∃ v, e = .returned v ∧ PairsAt w' v (Sto.scan t.now k most.toNat) ∧ (∀ g, v.ownBlock = some g → w.heap.size ≤ g) ∧ Below w.heap.size w w' := by
  obtain ⟨lg, mb, rb, rows, r, rfl, h2, h3, hr, rfl, rfl⟩ := row_of h hi
  exact txscan11_any (h2.txs i r hr).1 k most hlen hm1 hm2
theorem txget_sc (h : Sc w F x c s d m ts) {i y : Nat} {t : TS} (hi : ts[i]? = some (y, t)) (k : Sto.S) (hk : k.length ≤ maxLen) : Calls Tryz.prog 39 #[.pointer (some ⟨y, 0, none⟩), .string ⟨k.toArray⟩] w fun e w' => e = .returned (.tuple #[.string ⟨((Sto.get t.now k).getD []).toArray⟩, .bool (Sto.here t.now k)]) ∧ w' = w := by
  obtain ⟨lg, mb, rb, rows, r, rfl, h2, h3, hr, rfl, rfl⟩ := row_of h hi
  exact txget11_any (h2.txs i r hr).1 k hk
def TS.ended (t : TS) : TS := if t.over then t else t.ends
theorem commit_sc (h : Sc w F x c s d m ts) {i y : Nat} {t : TS} (hi : ts[i]? = some (y, t)) (hm : m < 4999999999999) (hlg : s.l.g ≤ 4611686018427387904) (hln : s.l.n ≤ 4611686018427387904) (hl1 : t.now.length ≤ 4194304) (hl2 : t.was.length ≤ 4096) (hturn : s.turn ≤ 4611686018427387904) :
    Calls Tryz.prog 27 #[.pointer (some ⟨y, 0, none⟩)] w fun e w' => e = .returned (.int .i64 (s.commit t d).2.2) ∧ ∃ F', Sc w' F' x c (s.commit t d).1 (s.commit t d).2.1 (m + 2) (ts.set i (y, t.ended)) ∧ STurn w w' F F' ∧ ((s.commit t d).2.1.dead = true → d.dead = false → Sc w' F' x c (s.commit t d).1 (s.commit t d).2.1 0 (ts.set i (y, t.ended))) := by
  obtain ⟨lg, mb, rb, rows, r, rfl, h2, h3, hr, rfl, rfl⟩ := row_of h hi
  refine (commit_scn h2 hr hm hlg hln hl1 hl2 hturn).mono ?_
  rintro e w' ⟨he, mb', rb', a1, a2, a3⟩
  have hmap : (rows.set i r.ended).map (fun r => (r.y, r.t)) = ts.set i (r.y, r.t.ended) := by
    rw [map_set_row, h3]
    unfold TRow.ended TS.ended
    cases r.t.over <;> rfl
  exact ⟨he, _, ⟨lg, mb', rb', _, rfl, a1, hmap⟩, a2, fun e1 e2 => by obtain rfl := a3 e1 e2; exact ⟨lg, mb', none, _, rfl, ⟨a1.store, a1.disk.fresh, a1.txs, a1.apart⟩, hmap⟩⟩
end
end Go.Proofs.YtpjpknndfhablaaGreat
