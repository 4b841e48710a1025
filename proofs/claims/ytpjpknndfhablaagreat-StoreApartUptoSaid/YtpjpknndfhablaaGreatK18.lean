/- Opening a store: plain laws. The program's Open: is a change a delete? Are some?. The log of chapter 10: what the power's going leaves of it is what some beginning of its records made. Plain Lean. The log of chapter 10: opening what sits on a disk; calls on an open log. Plain Lean. One log of the program on a disk that the call itself made: the contracts once more. -/
import Derived.Test.YtpjpknndfhablaaGreatK1
import Derived.Test.YtpjpknndfhablaaGreatK13
import Derived.Test.YtpjpknndfhablaaGreatK14
import Derived.Test.YtpjpknndfhablaaGreatK17
namespace Go.Proofs.YtpjpknndfhablaaGreat
open Go.RowKit
theorem reads_short {file : List UInt8} : ∀ (n p : Nat), ∀ s ∈ (Wal.reads file n p).1, s.length ≤ 65536
  | 0, p => by simp [Wal.reads]
  | k + 1, p => by
    unfold Wal.reads
    cases hb : (Wal.whole file p 65536).2 with
    | false => simp
    | true =>
      rw [if_pos rfl]
      intro s hs
      rcases List.mem_cons.1 hs with rfl | hs
      · exact (Wal.whole_le hb).2
      · exact reads_short k _ s hs
theorem wopen_few {d : DS} (hok : d.Ok) {q : Wal.Opened} (h : (Wal.open_ d).1 = some q) : q.rs.length ≤ 1048576 ∧ q.l.n ≤ 1048576 ∧ q.l.g ≤ 4611686018427387904 ∧ q.snap.length ≤ 524288 ∧ ∀ s ∈ q.rs, s.length ≤ 65536 := by
  unfold Wal.open_ at h
  split at h
  · cases h
  · split at h
    · cases h
    · rename_i h1 h2
      split at h
      · cases h
      · cases h
        have hc := Wal.recs_count (file := d.file (Wal.best d)) ((d.file (Wal.best d)).length + 1 - (Wal.shown d).2.2) (Wal.shown d).2.2 (Nat.le_refl _)
        have hl := hok.base_len' (Wal.best d)
        have hl2 : (d.file (Wal.best d)).length ≤ 1048576 := hl
        obtain ⟨A, s, p, hA⟩ : ∃ A s p, Wal.shown d = (A, s, p) := ⟨_, _, _, rfl⟩
        have hle := counts_le (G := d.file (Wal.best d)) (A := A) (s := s) (p := p) hA (by rw [hA] at h2; exact h2)
        refine ⟨?_, ?_, by rw [hA]; exact hle.2.1, by rw [hA]; exact hle.2.2, ?_⟩
        · show (Wal.recs (d.file (Wal.best d)) (Wal.shown d).2.2).1.length ≤ _
          omega
        · show (Wal.recs (d.file (Wal.best d)) (Wal.shown d).2.2).1.length ≤ _
          omega
        · exact reads_short _ _
theorem wopen_ok {d : DS} {q : Wal.Opened} {E : DS} {r : Int} (h : Wal.open_ d = (some q, E, r)) : r = 0 := by
  unfold Wal.open_ at h
  split at h
  · simp at h
  · split at h
    · simp at h
    · split at h
      · simp at h
      · simp at h; omega
theorem wopen_bad {d : DS} {E : DS} {r : Int} (h : Wal.open_ d = (none, E, r)) : r ≠ 0 := by
  unfold Wal.open_ at h
  split at h
  · simp at h; omega
  · split at h
    · simp at h; omega
    · split at h
      · simp at h; omega
      · simp at h
namespace SS
/-- One record's changes. -/
def rec1 (m : Sto.Pairs) (r : List UInt8) : Option Sto.Pairs := (Sto.decode r 2 512).bind fun c => Sto.does m c
theorem replay_snoc : ∀ (a : List (List UInt8)) (l : Sto.Pairs) (r : List UInt8), replay l (a ++ [r]) = (replay l a).bind fun m => rec1 m r
  | [], l, r => by
    show (Sto.decode r 2 512).bind (fun c => (Sto.does l c).bind fun m => some m) = (Sto.decode r 2 512).bind fun c => Sto.does l c
    cases Sto.decode r 2 512 with
    | none => rfl
    | some c => show (Sto.does l c).bind some = Sto.does l c; cases Sto.does l c <;> rfl
  | x :: a, l, r => by
    show (Sto.decode x 2 512).bind (fun c => (Sto.does l c).bind fun m => replay m (a ++ [r])) = ((Sto.decode x 2 512).bind fun c => (Sto.does l c).bind fun m => replay m a).bind fun m => rec1 m r
    cases Sto.decode x 2 512 with
    | none => rfl
    | some c =>
      show (Sto.does l c).bind (fun m => replay m (a ++ [r])) = ((Sto.does l c).bind fun m => replay m a).bind fun m => rec1 m r
      cases Sto.does l c with
      | none => rfl
      | some m => exact replay_snoc a m r
theorem replay_append : ∀ (a b : List (List UInt8)) (l : Sto.Pairs), replay l (a ++ b) = (replay l a).bind fun m => replay m b
  | [], b, l => rfl
  | x :: a, b, l => by
    show (Sto.decode x 2 512).bind (fun c => (Sto.does l c).bind fun m => replay m (a ++ b)) = ((Sto.decode x 2 512).bind fun c => (Sto.does l c).bind fun m => replay m a).bind fun m => replay m b
    cases Sto.decode x 2 512 with
    | none => rfl
    | some c =>
      show (Sto.does l c).bind (fun m => replay m (a ++ b)) = ((Sto.does l c).bind fun m => replay m a).bind fun m => replay m b
      cases Sto.does l c with
      | none => rfl
      | some m => exact replay_append a b m
/-- A record more. -/
theorem replay_next {rs : List (List UInt8)} {l m : Sto.Pairs} {j : Nat} {r : List UInt8} (h : replay l (rs.take j) = some m) (hr : rs[j]? = some r) : replay l (rs.take (j + 1)) = rec1 m r := by
  rw [List.take_add_one, hr]
  show replay l (rs.take j ++ [r]) = _
  rw [replay_snoc, h]
  rfl
theorem replay_bad {rs : List (List UInt8)} {l m : Sto.Pairs} {j : Nat} {r : List UInt8} (h : replay l (rs.take j) = some m) (hr : rs[j]? = some r) (hb : rec1 m r = none) : replay l rs = none := by
  have h1 := replay_next h hr
  rw [hb] at h1
  have h2 := replay_append (rs.take (j + 1)) (rs.drop (j + 1)) l
  rw [List.take_append_drop, h1] at h2
  exact h2
theorem rec1_good {m m' : Sto.Pairs} {r : List UInt8} (hg : Sto.Good m) (h : rec1 m r = some m') : Sto.Good m' ∧ Sto.fits m' = true := by
  unfold rec1 at h
  cases hd : Sto.decode r 2 512 with
  | none => rw [hd] at h; cases h
  | some c =>
    rw [hd] at h
    exact hg.does (Sto.decode_fine hd).2.2.1 h
end SS
end Go.Proofs.YtpjpknndfhablaaGreat
namespace Go.Proofs.YtpjpknndfhablaaGreat
open Go.RowKit Go.Shelf Go.Lib
set_option maxHeartbeats 1000000 in
theorem isdel_any (x : Sto.Ch) (W : World) : Calls Tryz.prog 50 #[.agg #[.bool x.put, .string ⟨x.key.toArray⟩, .string ⟨x.value.toArray⟩]] W fun e w' => e = .returned (.bool (!x.put)) ∧ Below W.heap.size W w' := by
  obtain ⟨p, k, v⟩ := x
  go_enter Tryz.func50, Tryz.ntmps50
  go_wp2
  go_ret
  exact ⟨rfl, balloc _ _⟩
theorem contains_any (v : Value) (c : List Sto.Ch) (w : World) (h : ChsAt w v c) (h0 : c ≠ []) :
    Calls Tryz.prog 49 #[v, .func (.func 50) #[] #[]] w fun e w' => e = .returned (.bool (c.any fun x => !x.put)) ∧ Below w.heap.size w w' := by
  obtain ⟨ao, cap, rfl, hn1, hn2, hrd⟩ := chsAt_read h
  obtain ⟨x0, hx0⟩ : ∃ x, c[0]? = some x := by cases c with | nil => exact absurd rfl h0 | cons x r => exact ⟨x, rfl⟩
  obtain ⟨g, rfl, hg, _⟩ := hrd 0 x0 hx0
  have hcon := AnyQ.slices_ContainsFunc Tryz.contf 3 Tryz.isAgg116 Tryz.sizeOf116 encC (fun _ => rfl) (fun x => !x.put) 50 #[] (enters_of Tryz.func50 (by kernel_rfl) rfl) g 0 c.length cap c w
    (fun W x hb => Calls.mono (isdel_any x W) (fun _ _ ⟨h1, h2⟩ => ⟨h1, hb.trans (h2.mono hb.size)⟩)) (Nat.le_refl _) (by omega) hg
    (fun j hj i u hu => by
      obtain ⟨x, hx⟩ : ∃ x, c[j]? = some x := ⟨_, List.getElem?_eq_getElem hj⟩
      obtain ⟨g', e', _, a0, a1, a2⟩ := hrd j x hx
      cases e'
      have e1 : c[j]! = x := by rw [getElem!_pos c j hj]; exact (List.getElem?_eq_some_iff.1 hx).2
      rw [e1] at hu
      rw [Nat.zero_add]
      match i, hu with
      | 0, hu => simp [encC] at hu; subst hu; exact a0
      | 1, hu => simp [encC] at hu; subst hu; exact a1
      | 2, hu => simp [encC] at hu; subst hu; exact a2
      | n + 3, hu => simp [encC] at hu)
  have hcon' : Calls Tryz.prog 49 #[.slice (some ⟨g, 0, none⟩) c.length cap, .func (.func 50) #[] #[]] w _ := hcon
  rw [List.take_length] at hcon'
  exact hcon'
/-- A store that Open makes, at some pairs. -/
structure OpAt (w1 : World) (x lg mbn : Nat) (l : Sto.Pairs) (w' : World) : Prop where
  blk : w'.heap[x]? = some (stBlock (.pointer (some ⟨lg, 0, none⟩)) mbn (Sto.size l) (.int .i64 0) (.bool false))
  map : MapAt w' mbn l
  below : Below w1.heap.size w1 w'
  good : Sto.Good l
  fits : Sto.fits l = true
theorem OpAt.later {w1 w' w'' : World} {x lg mbn : Nat} {l : Sto.Pairs} (h : OpAt w1 x lg mbn l w') (hb : Below w'.heap.size w' w'') : OpAt w1 x lg mbn l w'' :=
  ⟨stays h.blk hb, h.map.below hb, bthen h.below hb, h.good, h.fits⟩
theorem OpAt.turned {w1 w' w'' : World} {x lg mbn : Nat} {l l' : Sto.Pairs} (h : OpAt w1 x lg mbn l w') (hx : w1.heap.size ≤ x) (hm : w1.heap.size ≤ mbn) (ht : Touch (fun k => k = x ∨ k = mbn) w' w'') (h2 : MapAt w'' mbn l' ∧ w''.heap[x]? = some (stBlock (.pointer (some ⟨lg, 0, none⟩)) mbn (Sto.size l') (.int .i64 0) (.bool false))) (hg : Sto.Good l') (hf : Sto.fits l' = true) : OpAt w1 x lg mbn l' w'' :=
  ⟨h2.2, h2.1, h.below.trans (ht.below h.below.size (fun k hk e => by rcases e with e | e <;> omega)), hg, hf⟩
theorem OpAt.spent {w1 w' w'' : World} {x lg mbn : Nat} {l : Sto.Pairs} (h : OpAt w1 x lg mbn l w') (hx : w1.heap.size ≤ x) (hm : w1.heap.size ≤ mbn) (ht : Touch (fun k => k = x ∨ k = mbn) w' w'') : Below w1.heap.size w1 w'' :=
  h.below.trans (ht.below h.below.size (fun k hk e => by rcases e with e | e <;> omega))
theorem fits_few {l : Sto.Pairs} (h : Sto.fits l = true) : l.length ≤ 2199023255552 := by
  unfold Sto.fits at h
  simp at h
  omega
set_option maxHeartbeats 4000000 in
set_option maxRecDepth 100000 in
theorem open11_any (c : Nat) (w : World) (d : DS) (m : Nat) (rb : Option Nat) (h : DiskAt w c d m rb) :
    Calls Tryz.prog 14 #[.pointer (some ⟨c, 0, none⟩)] w (SNewEnds c w (SS.open_ d).1 d (SS.open_ d).2.1 m rb (SS.open_ d).2.2) := by
  have HN := Lib.hid (wopen_any c w d m rb h)
  have HFEW : Hid (∀ q, (Wal.open_ d).1 = some q → q.rs.length ≤ 1048576 ∧ q.snap.length ≤ 524288 ∧ ∀ s ∈ q.rs, s.length ≤ 65536) := Lib.hid (fun q hq => by
    obtain ⟨h1, _, _, h2, h3⟩ := wopen_few h.1 hq
    exact ⟨h1, h2, h3⟩)
  clear h
  obtain ⟨o, E, r, hO⟩ : ∃ o E r, Wal.open_ d = (o, E, r) := ⟨_, _, _, rfl⟩
  cases o with
  | none =>
    have hr := wopen_bad hO
    have HX : Hid (SS.open_ d = (none, E, r)) := Lib.hid (by unfold SS.open_; rw [hO])
    rw [hO] at HN
    have hb : (r != 0) = true := by simp [hr]
    clear hO hr HFEW
    go_enter Tryz.func14, Tryz.ntmps14
    go_wp2_with fail
    refine HN.out.mono ?_
    rintro e w1 ⟨v, s, rv, rfl, _, hn, hrest⟩
    obtain ⟨rfl, rfl, rfl⟩ := hn rfl
    have HR := Lib.hid hrest
    clear hn hrest
    go_wp2
    go_ret2
    rw [HX.out]
    exact ⟨_, rfl, fun s e => (by cases e), fun _ => rfl, HR.out⟩
  | some q =>
  obtain rfl := wopen_ok hO
  obtain ⟨ql, sn, rs⟩ := q
  have HX0 : Hid (SS.opened ⟨ql, sn, rs⟩ = none → SS.open_ d = (none, E, 110)) := Lib.hid (fun e => by unfold SS.open_; rw [hO]; simp only [e])
  have HX1 : Hid (∀ l, SS.opened ⟨ql, sn, rs⟩ = some l → SS.open_ d = (some { l := ql, ps := l, turn := 0, dead := false }, E, 0)) := Lib.hid (fun l e => by unfold SS.open_; rw [hO]; simp only [e])
  rw [hO] at HN
  obtain ⟨hf1, hf2, hf3⟩ := HFEW.out _ (by rw [hO])
  have HF3 := Lib.hid hf3
  have hmk := fun w' => run_makeMap11 w'
  clear hO HFEW hf3
  simp only at hf1 hf2 HF3
  go_enter Tryz.func14, Tryz.ntmps14
  go_wp2_with fail
  refine HN.out.mono ?_
  rintro e w1 ⟨v, s, rv, rfl, hs, _, hrest⟩
  obtain ⟨rfl, hrec, lg, rfl, hlg, hla⟩ := hs _ rfl
  have hww : w.heap.size ≤ w1.heap.size := by obtain ⟨_, _, _, h3, _⟩ := hrest; exact h3.size
  have HFAIL : Hid (∀ w', Below w1.heap.size w1 w' → SS.opened ⟨ql, sn, rs⟩ = none → SNewEnds c w (SS.open_ d).1 d (SS.open_ d).2.1 m rb (SS.open_ d).2.2 (.returned (.tuple #[.pointer none, .int .i64 110])) w') := Lib.hid (fun w' hb hn => by
    rw [HX0.out hn]
    obtain ⟨rb', h1, h2, h3, h4⟩ := hrest
    exact ⟨_, rfl, fun s e => (by cases e), fun _ => rfl, rb', h1.below hb, h2, Touch.trans h3 (Touch.of_below hb) (fun _ _ e => e), h4⟩)
  have HGOOD : Hid (∀ w' x mbn l, OpAt w1 x lg mbn l w' → w1.heap.size ≤ x → w1.heap.size ≤ mbn → SS.opened ⟨ql, sn, rs⟩ = some l → SNewEnds c w (SS.open_ d).1 d (SS.open_ d).2.1 m rb (SS.open_ d).2.2 (.returned (.tuple #[.pointer (some ⟨x, 0, none⟩), .int .i64 0])) w') := Lib.hid (fun w' x mbn l ha hx hm hn => by
    rw [HX1.out l hn]
    obtain ⟨rb', h1, h2, h3, h4⟩ := hrest
    exact ⟨_, rfl, fun s e => (by cases e; exact ⟨x, lg, mbn, rfl, ⟨ha.blk, hla.below ha.below, ha.map, ha.good, ha.fits⟩, Nat.le_trans hww hx, hlg, Nat.le_trans hww hm⟩), fun e => (by cases e), rb', h1.below ha.below, h2, Touch.trans h3 (Touch.of_below ha.below) (fun _ _ e => e), h4⟩)
  obtain ⟨g, cur, rfl, hgb, hg, hgs, hgc⟩ := hrec
  have HG : Hid (∀ w', Below w1.heap.size w1 w' → ∀ j r, rs[j]? = some r → w'.cell? ⟨g, j, none⟩ = some (.string ⟨r.toArray⟩)) := Lib.hid (fun w' hb j r hj => cell_of (stays hg hb) (hgc j r hj))
  have b2 := balloc w1 (.map #[] 0)
  have m2 := MapAt.made w1
  have b3 := balloc (w1.alloc (.map #[] 0)) (stBlock (.pointer (some ⟨lg, 0, none⟩)) w1.heap.size (Sto.size []) (.int .i64 0) (.bool false))
  have n3 := heap_new (w1.alloc (.map #[] 0)) (stBlock (.pointer (some ⟨lg, 0, none⟩)) w1.heap.size (Sto.size []) (.int .i64 0) (.bool false))
  have hsz : (w1.alloc (.map #[] 0)).heap.size = w1.heap.size + 1 := by simp
  rw [hsz] at n3
  have HA2 : Hid (OpAt w1 (w1.heap.size + 1) lg w1.heap.size [] ((w1.alloc (.map #[] 0)).alloc (.cells #[.pointer (some ⟨lg, 0, none⟩), .map (some w1.heap.size), .int .i64 0, .int .i64 0, .bool false] 103 (0, 0)))) := Lib.hid ⟨n3, m2.below b3, bthen b2 b3, Sto.Good.nil, rfl⟩
  clear hs hrest hla hg hgc b2 m2 b3 n3 hsz HX0 HX1 HN hgs
  by_cases hsn : sn = []
  case pos =>
    have hse : sn.isEmpty = true := by rw [hsn]; rfl
    have HOP : Hid (SS.opened ⟨ql, sn, rs⟩ = SS.replay [] rs) := Lib.hid (by unfold SS.opened SS.snapPairs; rw [if_pos hsn]; rfl)
    clear hsn
    go_wp2_with fail
    obtain ⟨mbn, hmbn⟩ : ∃ b, w1.heap.size = b := ⟨_, rfl⟩
    obtain ⟨x, hx⟩ : ∃ b, w1.heap.size + 1 = b := ⟨_, rfl⟩
    have HXN : Hid (w1.heap.size ≤ x ∧ w1.heap.size ≤ mbn) := Lib.hid (by omega)
    rw [hx, hmbn] at HA2
    obtain ⟨w2, hw2⟩ : ∃ W, (w1.alloc (.map #[] 0)).alloc (.cells #[.pointer (some ⟨lg, 0, none⟩), .map (some mbn), .int .i64 0, .int .i64 0, .bool false] 103 (0, 0)) = W := ⟨_, rfl⟩
    rw [hw2] at HA2
    rw [hx, hmbn, hw2]
    have HA := Lib.hid HA2.out
    clear hx hmbn hw2 HA2
    go_loopw [50] (fun i wr => ∃ (j : Nat) (l : Sto.Pairs), i = .int .i64 j ∧ j ≤ rs.length ∧ SS.replay [] (rs.take j) = some l ∧ OpAt w1 x lg mbn l wr) (fun i _ => rs.length - (intOf i).toNat)
    case atStart => exact ⟨0, [], rfl, Nat.zero_le _, rfl, HA.out⟩
    case round =>
      obtain ⟨j, l, rfl, hj, hst, hop⟩ := hrel
      have HST := Lib.hid hst
      have HO1 := Lib.hid hop
      clear hst hop
      by_cases hlt : j < rs.length
      · obtain ⟨r, hr⟩ : ∃ x, rs[j]? = some x := ⟨_, List.getElem?_eq_getElem hlt⟩
        have cr := HG.out _ HO1.out.below j r hr
        have hrl := HF3.out r (List.mem_of_getElem? hr)
        have HRJ := Lib.hid hr
        clear hr
        go_wp2_with fail
        have hde := decode11_any r 2 512 wr (by omega) (by decide) (by decide)
        cases hdc : Sto.decode r 2 512 with
        | none =>
          rw [hdc] at hde
          have HDE := Lib.hid hde
          have HN := Lib.hid (HOP.out.trans (SS.replay_bad HST.out HRJ.out (by unfold SS.rec1; rw [hdc]; try rfl)))
          clear hdc hde cr
          refine HDE.out.mono ?_
          rintro e w6 ⟨v, rfl, cz, _, _, b6⟩
          have HB6 := Lib.hid (bthen HO1.out.below b6)
          clear b6
          go_wp2
          go_ret2
          exact HFAIL.out _ HB6.out HN.out
        | some ch =>
        rw [hdc] at hde
        have HDE := Lib.hid hde
        have HF := Lib.hid (Sto.decode_fine hdc)
        have HR1 : Hid (SS.rec1 l r = Sto.does l ch) := Lib.hid (by unfold SS.rec1; rw [hdc]; try rfl)
        clear hdc hde cr
        refine HDE.out.mono ?_
        rintro e w6 ⟨v, rfl, cz, hcz, hce, b6⟩
        obtain rfl := hce _ rfl
        have HO6 := Lib.hid (HO1.out.later b6)
        have HC6 := Lib.hid hcz
        clear b6 hcz hce HDE HO1
        go_wp2_with fail
        refine (does11_any x mbn _ _ _ w6 l _ cz HO6.out.blk HO6.out.map HC6.out HO6.out.good HF.out.2.2.1 (fits_few HO6.out.fits) (by have := HF.out.1; omega)).mono ?_
        rintro e w7 ⟨rfl, ht7, hr7⟩
        have HR7 := Lib.hid hr7
        have HT7 := Lib.hid ht7
        clear ht7 hr7
        cases hdo : Sto.does l cz with
        | none =>
          have HN := Lib.hid (HOP.out.trans (SS.replay_bad HST.out HRJ.out (HR1.out.trans hdo)))
          have HB7 := Lib.hid (HO6.out.spent HXN.out.1 HXN.out.2 HT7.out)
          clear hdo
          go_wp2
          go_ret2
          exact HFAIL.out _ HB7.out HN.out
        | some l1 =>
        have HST1 : Hid (SS.replay [] (rs.take (j + 1)) = some l1) := Lib.hid ((SS.replay_next HST.out HRJ.out).trans (HR1.out.trans hdo))
        have HG1 := Lib.hid (HO6.out.good.does HF.out.2.2.1 hdo)
        have HO7 := Lib.hid (HO6.out.turned HXN.out.1 HXN.out.2 HT7.out (HR7.out l1 hdo) HG1.out.1 HG1.out.2)
        clear hdo HR7 HT7 HO6 HC6 HF HG1
        go_wp2_with fail
        go_roundw
        all_goals first
          | (simp [intOf]; omega)
          | exact ⟨j + 1, l1, by go_num, by omega, HST1.out, HO7.out⟩
      · have hjr : j = rs.length := by omega
        have HN : Hid (SS.opened ⟨ql, sn, rs⟩ = some l) := Lib.hid (HOP.out.trans (by have := HST.out; rw [hjr, List.take_length] at this; exact this))
        have hjb : ¬ (j : Int) < rs.length := by omega
        clear hjr
        go_wp2
        go_ret2
        exact HGOOD.out _ _ _ _ HO1.out HXN.out.1 HXN.out.2 HN.out
  have hse : sn.isEmpty = false := by cases sn with | nil => exact absurd rfl hsn | cons a r => rfl
  have HOP : Hid (SS.opened ⟨ql, sn, rs⟩ = ((Sto.decode sn 4 2048).bind fun c => if c.all (·.put) then Sto.does [] c else none).bind fun l => SS.replay l rs) := Lib.hid (by unfold SS.opened SS.snapPairs; rw [if_neg hsn])
  clear hsn
  go_wp2_with fail
  obtain ⟨mbn, hmbn⟩ : ∃ b, w1.heap.size = b := ⟨_, rfl⟩
  obtain ⟨x, hx⟩ : ∃ b, w1.heap.size + 1 = b := ⟨_, rfl⟩
  have HXN : Hid (w1.heap.size ≤ x ∧ w1.heap.size ≤ mbn) := Lib.hid (by omega)
  rw [hx, hmbn] at HA2
  obtain ⟨w2, hw2⟩ : ∃ W, (w1.alloc (.map #[] 0)).alloc (.cells #[.pointer (some ⟨lg, 0, none⟩), .map (some mbn), .int .i64 0, .int .i64 0, .bool false] 103 (0, 0)) = W := ⟨_, rfl⟩
  rw [hw2] at HA2
  rw [hx, hmbn, hw2]
  have HA := Lib.hid HA2.out
  clear hx hmbn hw2 HA2
  have hde := decode11_any sn 4 2048 w2 (by omega) (by decide) (by decide)
  cases hdc : Sto.decode sn 4 2048 with
  | none =>
    rw [hdc] at hde
    have HDE := Lib.hid hde
    have HN := Lib.hid (HOP.out.trans (by rw [hdc]; try rfl))
    clear hdc hde
    refine HDE.out.mono ?_
    rintro e w3 ⟨v, rfl, cz, _, _, b3⟩
    have HB3 := Lib.hid (bthen HA.out.below b3)
    clear b3
    go_wp2
    go_ret2
    exact HFAIL.out _ HB3.out HN.out
  | some ch =>
  rw [hdc] at hde
  have HDE := Lib.hid hde
  have HF := Lib.hid (Sto.decode_fine hdc)
  have HOQ : Hid (SS.opened ⟨ql, sn, rs⟩ = (if ch.all (·.put) then Sto.does [] ch else none).bind fun l => SS.replay l rs) := Lib.hid (HOP.out.trans (by rw [hdc]; try rfl))
  clear hdc hde HOP
  refine HDE.out.mono ?_
  rintro e w3 ⟨v, rfl, cz, hcz, hce, b3⟩
  obtain rfl := hce _ rfl
  have HA3 := Lib.hid (HA.out.later b3)
  have HC3 := Lib.hid hcz
  clear b3 hcz hce HDE HA
  have hct := contains_any _ cz w3 HC3.out HF.out.2.1
  rw [← List.not_all_eq_any_not] at hct
  go_wp2_with fail
  cases hall : cz.all (·.put) with
  | false =>
    rw [hall] at hct
    have HN := Lib.hid (HOQ.out.trans (by rw [hall]; try rfl))
    clear hall
    refine hct.mono ?_
    clear hct
    rintro e w4 ⟨rfl, b4⟩
    have HB4 := Lib.hid (bthen HA3.out.below b4)
    clear b4
    go_wp2
    go_ret2
    exact HFAIL.out _ HB4.out HN.out
  | true =>
  rw [hall] at hct
  have HOR := Lib.hid (HOQ.out.trans (by rw [hall, if_pos rfl]))
  clear hall HOQ
  refine hct.mono ?_
  clear hct
  rintro e w4 ⟨rfl, b4⟩
  have HA4 := Lib.hid (HA3.out.later b4)
  have HC4 := Lib.hid (HC3.out.below b4)
  clear b4 HA3 HC3
  go_wp2_with fail
  refine (does11_any x mbn _ _ _ w4 [] _ cz HA4.out.blk HA4.out.map HC4.out Sto.Good.nil HF.out.2.2.1 (Nat.zero_le _) (by have := HF.out.1; omega)).mono ?_
  rintro e w5 ⟨rfl, ht5, hr5⟩
  have HR5 := Lib.hid hr5
  have HT5 := Lib.hid ht5
  clear ht5 hr5
  cases hdo : Sto.does [] cz with
  | none =>
    have HN := Lib.hid (HOR.out.trans (by rw [hdo]; try rfl))
    have HB5 := Lib.hid (HA4.out.spent HXN.out.1 HXN.out.2 HT5.out)
    clear hdo
    go_wp2
    go_ret2
    exact HFAIL.out _ HB5.out HN.out
  | some l0 =>
  have HOS : Hid (SS.opened ⟨ql, sn, rs⟩ = SS.replay l0 rs) := Lib.hid (HOR.out.trans (by rw [hdo]; try rfl))
  have HG0 := Lib.hid (Sto.Good.nil.does HF.out.2.2.1 hdo)
  have HA5 := Lib.hid (HA4.out.turned HXN.out.1 HXN.out.2 HT5.out (HR5.out l0 hdo) HG0.out.1 HG0.out.2)
  clear hdo HOR HR5 HT5 HA4 HC4 HF HG0
  go_wp2_with fail
  go_loopw [50] (fun i wr => ∃ (j : Nat) (l : Sto.Pairs), i = .int .i64 j ∧ j ≤ rs.length ∧ SS.replay l0 (rs.take j) = some l ∧ OpAt w1 x lg mbn l wr) (fun i _ => rs.length - (intOf i).toNat)
  case atStart => exact ⟨0, l0, rfl, Nat.zero_le _, rfl, HA5.out⟩
  case round =>
    obtain ⟨j, l, rfl, hj, hst, hop⟩ := hrel
    have HST := Lib.hid hst
    have HO1 := Lib.hid hop
    clear hst hop
    by_cases hlt : j < rs.length
    · obtain ⟨r, hr⟩ : ∃ x, rs[j]? = some x := ⟨_, List.getElem?_eq_getElem hlt⟩
      have cr := HG.out _ HO1.out.below j r hr
      have hrl := HF3.out r (List.mem_of_getElem? hr)
      have HRJ := Lib.hid hr
      clear hr
      go_wp2_with fail
      have hde := decode11_any r 2 512 wr (by omega) (by decide) (by decide)
      cases hdc : Sto.decode r 2 512 with
      | none =>
        rw [hdc] at hde
        have HDE := Lib.hid hde
        have HN := Lib.hid (HOS.out.trans (SS.replay_bad HST.out HRJ.out (by unfold SS.rec1; rw [hdc]; try rfl)))
        clear hdc hde cr
        refine HDE.out.mono ?_
        rintro e w6 ⟨v, rfl, cz, _, _, b6⟩
        have HB6 := Lib.hid (bthen HO1.out.below b6)
        clear b6
        go_wp2
        go_ret2
        exact HFAIL.out _ HB6.out HN.out
      | some ch =>
      rw [hdc] at hde
      have HDE := Lib.hid hde
      have HF := Lib.hid (Sto.decode_fine hdc)
      have HR1 : Hid (SS.rec1 l r = Sto.does l ch) := Lib.hid (by unfold SS.rec1; rw [hdc]; try rfl)
      clear hdc hde cr
      refine HDE.out.mono ?_
      rintro e w6 ⟨v, rfl, cz, hcz, hce, b6⟩
      obtain rfl := hce _ rfl
      have HO6 := Lib.hid (HO1.out.later b6)
      have HC6 := Lib.hid hcz
      clear b6 hcz hce HDE HO1
      go_wp2_with fail
      refine (does11_any x mbn _ _ _ w6 l _ cz HO6.out.blk HO6.out.map HC6.out HO6.out.good HF.out.2.2.1 (fits_few HO6.out.fits) (by have := HF.out.1; omega)).mono ?_
      rintro e w7 ⟨rfl, ht7, hr7⟩
      have HR7 := Lib.hid hr7
      have HT7 := Lib.hid ht7
      clear ht7 hr7
      cases hdo : Sto.does l cz with
      | none =>
        have HN := Lib.hid (HOS.out.trans (SS.replay_bad HST.out HRJ.out (HR1.out.trans hdo)))
        have HB7 := Lib.hid (HO6.out.spent HXN.out.1 HXN.out.2 HT7.out)
        clear hdo
        go_wp2
        go_ret2
        exact HFAIL.out _ HB7.out HN.out
      | some l1 =>
      have HST1 : Hid (SS.replay l0 (rs.take (j + 1)) = some l1) := Lib.hid ((SS.replay_next HST.out HRJ.out).trans (HR1.out.trans hdo))
      have HG1 := Lib.hid (HO6.out.good.does HF.out.2.2.1 hdo)
      have HO7 := Lib.hid (HO6.out.turned HXN.out.1 HXN.out.2 HT7.out (HR7.out l1 hdo) HG1.out.1 HG1.out.2)
      clear hdo HR7 HT7 HO6 HC6 HF HG1
      go_wp2_with fail
      go_roundw
      all_goals first
        | (simp [intOf]; omega)
        | exact ⟨j + 1, l1, by go_num, by omega, HST1.out, HO7.out⟩
    · have hjr : j = rs.length := by omega
      have HN : Hid (SS.opened ⟨ql, sn, rs⟩ = some l) := Lib.hid (HOS.out.trans (by have := HST.out; rw [hjr, List.take_length] at this; exact this))
      have hjb : ¬ (j : Int) < rs.length := by omega
      clear hjr
      go_wp2
      go_ret2
      exact HGOOD.out _ _ _ _ HO1.out HXN.out.1 HXN.out.2 HN.out
end Go.Proofs.YtpjpknndfhablaaGreat
namespace Go.Proofs.YtpjpknndfhablaaGreat
namespace Wal
def frames (rs : List (List UInt8)) : List UInt8 := rs.flatMap frame
theorem frames_append (a b : List (List UInt8)) : frames (a ++ b) = frames a ++ frames b := by simp [frames]
theorem frames_cons (s : List UInt8) (rs : List (List UInt8)) : frames (s :: rs) = frame s ++ frames rs := by simp [frames]
theorem frames_nil : frames [] = [] := rfl
def Short (rs : List (List UInt8)) : Prop := ∀ s ∈ rs, s.length ≤ 65536
/-- A beginning of frames is some whole ones and a beginning of one. -/
theorem take_frames (rs : List (List UInt8)) (h : Short rs) (K : Nat) : ∃ j x k, j ≤ rs.length ∧ x.length ≤ 65536 ∧ k < (frame x).length ∧ (frames rs).take K = frames (rs.take j) ++ (frame x).take k := by
  induction rs generalizing K with
  | nil => exact ⟨0, [], 0, Nat.le_refl _, by simp, by simp [frame_length], by simp [frames]⟩
  | cons s rs ih =>
    by_cases hK : K < (frame s).length
    · refine ⟨0, s, K, by omega, h s (by simp), hK, ?_⟩
      rw [frames_cons, List.take_append_of_le_length (by omega)]; simp [frames]
    · obtain ⟨j, x, k, h1, h2, h3, h4⟩ := ih (fun s hs => h s (by simp [hs])) (K - (frame s).length)
      refine ⟨j + 1, x, k, by simp; omega, h2, h3, ?_⟩
      rw [frames_cons, List.take_append, List.take_of_length_le (by omega), h4, List.take_succ_cons, frames_cons, List.append_assoc]
theorem counts_head {g : Nat} {snap r : List UInt8} (hg : g ≤ 4611686018427387904) (hs : snap.length ≤ 524288) : counts (head g snap ++ r) = (g, snap, 20 + snap.length) := by
  have hw : whole (head g snap ++ r) 12 524288 = (snap, true) := by
    have h := whole_frame (a := magic ++ Sha.big g 8) (s := snap) (r := r) (most := 524288) hs (by omega)
    have e : (magic ++ Sha.big g 8).length = 12 := by simp [magic, Sha.big_length]
    rw [e] at h
    simpa [head, List.append_assoc] using h
  have e1 : (head g snap ++ r).take 4 = magic := by simp [head, magic]
  have e2 : ((head g snap ++ r).drop 4).take 8 = Sha.big g 8 := by
    have h : head g snap ++ r = magic ++ (Sha.big g 8 ++ (frame snap ++ r)) := by simp [head, List.append_assoc]
    rw [h, List.drop_left' (by rfl), List.take_left' (Sha.big_length _ _)]
  have v : Sha.val (Sha.big g 8) = g := val_big_of (by
    have : (256 : Nat) ^ 8 = 18446744073709551616 := rfl
    omega)
  unfold counts
  rw [if_neg (by rw [e1]; simp [head_length]; omega), e2, v, hw, if_neg (by simp; omega)]
theorem counts_nil : counts [] = (0, [], 0) := rfl
theorem counts_part {g : Nat} {snap : List UInt8} {k : Nat} (hk : k < (head g snap).length) (hs : snap.length ≤ 524288) : counts ((head g snap).take k) = (0, [], 0) := by
  unfold counts
  rw [head_length] at hk
  split
  · rfl
  · rename_i h
    have h12 : ¬ (k < 12) := fun h2 => h (.inl (by simp [head_length]; omega))
    rw [if_pos]
    left
    have e : (magic ++ Sha.big g 8).length = 12 := by simp [magic, Sha.big_length]
    have h := whole_none (a := magic ++ Sha.big g 8) (s := snap) (most := 524288) (k := k - 12) (by rw [frame_length]; omega) (by omega)
    rw [e] at h
    have e2 : (head g snap).take k = (magic ++ Sha.big g 8) ++ (frame snap).take (k - 12) := by
      rw [head, List.take_append, e, List.take_of_length_le (by omega)]
    rw [e2, h]
theorem reads_frames (rs : List (List UInt8)) (h : Short rs) (a x : List UInt8) (k n : Nat) (hx : x.length ≤ 65536) (hk : k < (frame x).length) (hn : rs.length < n) :
    reads (a ++ (frames rs ++ (frame x).take k)) n a.length = (rs, a.length + (frames rs).length) := by
  induction rs generalizing a n with
  | nil =>
    obtain ⟨n, rfl⟩ : ∃ m, n = m + 1 := ⟨n - 1, by simp at hn; omega⟩
    have := whole_none (a := a) (s := x) (most := 65536) hk (by omega)
    simp only [frames_nil, List.nil_append, reads, this]
    simp
  | cons s rs ih =>
    obtain ⟨n, rfl⟩ : ∃ m, n = m + 1 := ⟨n - 1, by simp at hn; omega⟩
    have hs := h s (by simp)
    have hw := whole_frame (a := a) (s := s) (r := frames rs ++ (frame x).take k) (most := 65536) hs (by omega)
    have hr := ih (fun s hs => h s (by simp [hs])) (a ++ frame s) n (by simp at hn; omega)
    have e : a ++ (frames (s :: rs) ++ (frame x).take k) = a ++ (frame s ++ (frames rs ++ (frame x).take k)) := by rw [frames_cons, List.append_assoc]
    rw [e, reads, hw]
    simp only [if_true]
    have e2 : a.length + 8 + s.length = (a ++ frame s).length := by simp [frame_length]; omega
    rw [e2]
    rw [show a ++ (frame s ++ (frames rs ++ (frame x).take k)) = (a ++ frame s) ++ (frames rs ++ (frame x).take k) by simp [List.append_assoc], hr]
    simp [frames_cons]; omega
theorem frames_length_le (rs : List (List UInt8)) : rs.length * 8 ≤ (frames rs).length := by
  induction rs with
  | nil => simp
  | cons s rs ih => rw [frames_cons, List.length_append, frame_length, List.length_cons]; omega
theorem recs_frames (rs : List (List UInt8)) (h : Short rs) (a x : List UInt8) (k : Nat) (hx : x.length ≤ 65536) (hk : k < (frame x).length) :
    recs (a ++ (frames rs ++ (frame x).take k)) a.length = (rs, a.length + (frames rs).length) := by
  refine reads_frames rs h a x k _ hx hk ?_
  have := frames_length_le rs
  simp only [List.length_append]; omega

/-- A disk without unsafe bytes, on which a log stands, perhaps with something behind it or beside it that does not count. -/
structure Sits (d : DS) (f : Bool) (g : Nat) (snap : List UInt8) (rs : List (List UInt8)) : Prop where
  u : d.u = []
  g1 : 1 ≤ g
  g2 : g ≤ 4611686018427387904
  sl : snap.length ≤ 524288
  short : Short rs
  file : ∃ x k, x.length ≤ 65536 ∧ k < (frame x).length ∧ d.base f = head g snap ++ (frames rs ++ (frame x).take k)
  other : (counts (d.base (!f))).1 < g
theorem file_base {d : DS} (h : d.u = []) (f : Bool) : d.file f = d.base f := by simp [DS.file, h, DS.of]
theorem Sits.best {d : DS} {f : Bool} {g : Nat} {snap : List UInt8} {rs : List (List UInt8)} (h : Sits d f g snap rs) : best d = f := by
  obtain ⟨x, k, _, _, hf⟩ := h.file
  have h1 : (counts (d.base f)).1 = g := by rw [hf, counts_head h.g2 h.sl]
  have h2 := h.other
  unfold Wal.best
  rw [file_base h.u, file_base h.u]
  cases f
  · simp only [Bool.not_false] at h2; rw [h1]; simp; omega
  · simp only [Bool.not_true] at h2; rw [h1]; simp; omega
theorem Sits.shown {d : DS} {f : Bool} {g : Nat} {snap : List UInt8} {rs : List (List UInt8)} (h : Sits d f g snap rs) : shown d = (g, snap, 20 + snap.length) ∧ shownRecs d = (rs, 20 + snap.length + (frames rs).length) := by
  obtain ⟨x, k, hx, hk, hf⟩ := h.file
  have e : Wal.shown d = (g, snap, 20 + snap.length) := by rw [Wal.shown, h.best, file_base h.u, hf, counts_head h.g2 h.sl]
  refine ⟨e, ?_⟩
  rw [shownRecs, e, h.best, file_base h.u, hf]
  have := recs_frames rs h.short (head g snap) x k hx hk
  rwa [head_length] at this
/-- All is safe, nothing stands behind the log or beside it. -/
structure Clean (d : DS) (f : Bool) (g : Nat) (snap : List UInt8) (rs : List (List UInt8)) : Prop where
  u : d.u = []
  g1 : 1 ≤ g
  g2 : g ≤ 4611686018427387904
  sl : snap.length ≤ 524288
  short : Short rs
  file : d.base f = head g snap ++ frames rs
  other : d.base (!f) = []
theorem Clean.sits {d : DS} {f : Bool} {g : Nat} {snap : List UInt8} {rs : List (List UInt8)} (h : Clean d f g snap rs) : Sits d f g snap rs :=
  ⟨h.u, h.g1, h.g2, h.sl, h.short, ⟨[], 0, by simp, by simp [frame_length], by simp [h.file]⟩, by rw [h.other, counts_nil]; exact h.g1⟩
theorem die_nil {d : DS} (h : d.u = []) (k : Nat) : (d.die k).base false = d.base false ∧ (d.die k).base true = d.base true ∧ (d.die k).u = [] := by
  simp [DS.die, DS.base, DS.left, h, DS.of]
theorem die_base {d : DS} (h : d.u = []) (k : Nat) (f : Bool) : (d.die k).base f = d.base f := by
  cases f
  · exact (die_nil h k).1
  · exact (die_nil h k).2.1
theorem Sits.same {d d' : DS} {f : Bool} {g : Nat} {snap : List UInt8} {rs : List (List UInt8)} (h : Sits d f g snap rs) (hu : d'.u = []) (hb : ∀ f, d'.base f = d.base f) : Sits d' f g snap rs := by
  obtain ⟨x, k, hx, hk, hf⟩ := h.file
  exact ⟨hu, h.g1, h.g2, h.sl, h.short, ⟨x, k, hx, hk, by rw [hb, hf]⟩, by rw [hb]; exact h.other⟩
theorem Sits.revive {d : DS} {f : Bool} {g : Nat} {snap : List UInt8} {rs : List (List UInt8)} (h : Sits d f g snap rs) : Sits d.revive f g snap rs := h.same h.u (fun f => by cases f <;> rfl)
/-- A cut of a file without unsafe bytes: it is done, or the power goes and nothing has changed. -/
theorem cut_cases {d : DS} (hu : d.u = []) (hd : d.dead = false) {f : Bool} {p : Nat} (hp : p ≤ (d.base f).length) :
    (d.goes = false ∧ d.cut (DS.fi f) p = (d.tick.short f p, 0)) ∨ (d.goes = true ∧ d.cut (DS.fi f) p = (d.tick.die d.keep, 2)) := by
  unfold DS.cut
  rw [if_neg (by simp [hd]), DS.fileNo_of]
  have hs : d.size f = (d.base f).length := by simp [DS.size, file_base hu]
  simp only
  rw [if_neg (by rw [hs, hu]; simp [DS.of]; omega)]
  cases hg : d.goes
  · left; simp
  · right; simp
theorem short_base (d : DS) (f : Bool) (p : Nat) : (d.short f p).base f = (d.base f).take p ∧ (d.short f p).base (!f) = d.base (!f) ∧ (d.short f p).u = d.u ∧ (d.short f p).dead = d.dead ∧ (d.short f p).armed = d.armed := by
  cases f <;> simp [DS.short, DS.base]
theorem goes_armed {d : DS} (h : d.armed = 0) : d.goes = false := (DS.goes_zero h).1
theorem goes_true {d : DS} (h : d.goes = true) : d.armed ≠ 0 := by intro h0; rw [goes_armed h0] at h; cases h
end Wal
end Go.Proofs.YtpjpknndfhablaaGreat
namespace Go.Proofs.YtpjpknndfhablaaGreat
namespace Wal
theorem Sits.len {d : DS} {f : Bool} {g : Nat} {snap : List UInt8} {rs : List (List UInt8)} (h : Sits d f g snap rs) : 20 + snap.length + (frames rs).length ≤ (d.base f).length := by
  obtain ⟨x, k, _, _, hf⟩ := h.file
  rw [hf]; simp [head_length]
theorem tick_base (d : DS) (f : Bool) : d.tick.base f = d.base f := by cases f <;> rfl
/-- Behind the first cut of an opening. -/
theorem cutEnd_cases {d : DS} {f : Bool} {g : Nat} {snap : List UInt8} {rs : List (List UInt8)} (h : Sits d f g snap rs) (hd : d.dead = false) {r : DS × Int} (hr : cutEnd d f (20 + snap.length + (frames rs).length) = r) :
    (r.2 = 2 ∧ r.1.dead = true ∧ Sits r.1 f g snap rs ∧ d.armed ≠ 0) ∨
      (r.2 = 0 ∧ r.1.dead = false ∧ r.1.u = [] ∧ r.1.base f = head g snap ++ frames rs ∧ r.1.base (!f) = d.base (!f) ∧ (d.armed = 0 → r.1.armed = 0)) := by
  obtain ⟨x, k, hx, hk, hf⟩ := h.file
  subst hr
  unfold cutEnd
  by_cases hp : 20 + snap.length + (frames rs).length < (d.file f).length
  · rw [if_pos hp]
    rcases cut_cases h.u hd (f := f) h.len with ⟨hg, hc⟩ | ⟨hg, hc⟩
    · right
      have hc' : d.cut (DS.fi f) ((20 + snap.length + (frames rs).length : Nat) : Int) = (d.tick.short f (20 + snap.length + (frames rs).length), 0) := hc
      rw [hc']
      obtain ⟨b1, b2, b3, b4, b5⟩ := short_base d.tick f (20 + snap.length + (frames rs).length)
      refine ⟨rfl, by rw [b4]; exact hd, by rw [b3]; exact h.u, ?_, by rw [b2, tick_base], fun h0 => by rw [b5]; simp [DS.tick, h0]⟩
      rw [b1, tick_base, hf, ← List.append_assoc, List.take_left' (by simp [head_length])]
    · left
      have hc' : d.cut (DS.fi f) ((20 + snap.length + (frames rs).length : Nat) : Int) = (d.tick.die d.keep, 2) := hc
      rw [hc']
      exact ⟨rfl, rfl, h.same rfl (fun q => by rw [DS.die_tick]; exact die_base h.u _ q), goes_true hg⟩
  · rw [if_neg hp]
    right
    have hk0 : (frame x).take k = [] := by
      rw [file_base h.u, hf] at hp
      simp only [List.length_append, List.length_take, head_length] at hp
      have hm : min k (frame x).length = 0 := by omega
      apply List.eq_nil_of_length_eq_zero; rw [List.length_take]; exact hm
    exact ⟨rfl, hd, h.u, by rw [hf, hk0, List.append_nil], rfl, fun h0 => h0⟩
theorem cutOther_cases {d : DS} {f : Bool} (hu : d.u = []) (hd : d.dead = false) {other : List UInt8} (ho : d.base f = other) {r : DS × Int} (hr : cutOther d f other = r) :
    (r.2 = 2 ∧ r.1.dead = true ∧ r.1.u = [] ∧ (∀ q, r.1.base q = d.base q) ∧ d.armed ≠ 0) ∨
      (r.2 = 0 ∧ r.1.dead = false ∧ r.1.u = [] ∧ r.1.base f = [] ∧ r.1.base (!f) = d.base (!f) ∧ (d.armed = 0 → r.1.armed = 0)) := by
  subst hr
  unfold cutOther
  by_cases hn : other ≠ []
  · rw [if_pos hn]
    rcases cut_cases hu hd (f := f) (p := 0) (by omega) with ⟨hg, hc⟩ | ⟨hg, hc⟩
    · right
      have hc' : d.cut (DS.fi f) 0 = (d.tick.short f 0, 0) := hc
      rw [hc']
      obtain ⟨b1, b2, b3, b4, b5⟩ := short_base d.tick f 0
      exact ⟨rfl, by rw [b4]; exact hd, by rw [b3]; exact hu, by rw [b1]; rfl, by rw [b2, tick_base], fun h0 => by rw [b5]; simp [DS.tick, h0]⟩
    · left
      have hc' : d.cut (DS.fi f) 0 = (d.tick.die d.keep, 2) := hc
      rw [hc']
      exact ⟨rfl, rfl, rfl, fun q => by rw [DS.die_tick]; exact die_base hu _ q, goes_true hg⟩
  · rw [if_neg hn]
    right
    exact ⟨rfl, hd, hu, by rw [ho]; simpa using hn, rfl, fun h0 => h0⟩
/-- What an opening tells of what sits there: it, and all is clean; or the power goes, and it sits there still. -/
theorem open_sits {d : DS} {f : Bool} {g : Nat} {snap : List UInt8} {rs : List (List UInt8)} (h : Sits d f g snap rs) (hd : d.dead = false) {r : Option Opened × DS × Int} (hr : open_ d = r) :
    (r.1 = none ∧ r.2.2 = 2 ∧ r.2.1.dead = true ∧ Sits r.2.1 f g snap rs ∧ d.armed ≠ 0) ∨
      (r.1 = some ⟨{ f := f, g := g, n := rs.length, dead := false }, snap, rs⟩ ∧ r.2.2 = 0 ∧ r.2.1.dead = false ∧ Clean r.2.1 f g snap rs ∧ (d.armed = 0 → r.2.1.armed = 0)) := by
  obtain ⟨e1, e2⟩ := h.shown
  have hg := h.g1
  subst hr
  unfold open_
  rw [if_neg (by simp [hd]), e1, if_neg (by simp; omega), e2, h.best]
  simp only
  have ho : d.file (!f) = d.base (!f) := file_base h.u _
  rcases cutEnd_cases h hd rfl with ⟨r1, r2, r3, r4⟩ | ⟨r1, r2, r3, r4, r5, r6⟩
  · left
    have hc : cuts d f (20 + snap.length + (frames rs).length) = cutEnd d f (20 + snap.length + (frames rs).length) := by unfold cuts; rw [if_pos (by rw [r1]; decide)]
    rw [hc, if_pos (by rw [r1]; decide)]
    exact ⟨rfl, rfl, r2, r3, r4⟩
  · have hc : cuts d f (20 + snap.length + (frames rs).length) = cutOther (cutEnd d f (20 + snap.length + (frames rs).length)).1 (!f) (d.file (!f)) := by unfold cuts; rw [if_neg (by rw [r1]; decide)]
    rw [hc]
    have hs : Sits (cutEnd d f (20 + snap.length + (frames rs).length)).1 f g snap rs :=
      ⟨r3, h.g1, h.g2, h.sl, h.short, ⟨[], 0, by simp, by simp [frame_length], by simp [r4]⟩, by rw [r5]; exact h.other⟩
    rcases cutOther_cases r3 r2 (f := !f) (other := d.file (!f)) (by rw [ho]; exact r5) rfl with ⟨q1, q2, q3, q4, q5⟩ | ⟨q1, q2, q3, q4, q5, q6⟩
    · left
      rw [if_pos (by rw [q1]; decide)]
      exact ⟨rfl, rfl, q2, hs.same q3 q4, fun h0 => q5 (r6 h0)⟩
    · right
      rw [if_neg (by rw [q1]; decide)]
      exact ⟨rfl, rfl, q2, ⟨q3, h.g1, h.g2, h.sl, h.short, by simp only [Bool.not_not] at q5; exact q5.trans r4, q4⟩, fun h0 => q6 (r6 h0)⟩

/-- An open log on its disk: the first m records are safe. -/
structure Live (l : LS) (d : DS) (snap : List UInt8) (rs : List (List UInt8)) (m : Nat) : Prop where
  ld : l.dead = false
  dd : d.dead = false
  g1 : 1 ≤ l.g
  g2 : l.g ≤ 4611686018427387904
  n : l.n = rs.length
  sl : snap.length ≤ 524288
  short : Short rs
  le : m ≤ rs.length
  file : d.base l.f = head l.g snap ++ frames (rs.take m)
  u : d.u = (frames (rs.drop m)).map (l.f, ·)
  other : d.base (!l.f) = []
theorem Clean.live {d : DS} {f : Bool} {g : Nat} {snap : List UInt8} {rs : List (List UInt8)} (h : Clean d f g snap rs) (hd : d.dead = false) : Live { f := f, g := g, n := rs.length, dead := false } d snap rs rs.length :=
  ⟨rfl, hd, h.g1, h.g2, rfl, h.sl, h.short, Nat.le_refl _, by simp [h.file], by simp [h.u, frames], h.other⟩
theorem Short.take {rs : List (List UInt8)} (h : Short rs) (j : Nat) : Short (rs.take j) := fun s hs => h s (List.mem_of_mem_take hs)
theorem Short.drop {rs : List (List UInt8)} (h : Short rs) (j : Nat) : Short (rs.drop j) := fun s hs => h s (List.mem_of_mem_drop hs)
theorem Short.snoc {rs : List (List UInt8)} (h : Short rs) {s : List UInt8} (hs : s.length ≤ 65536) : Short (rs ++ [s]) := fun x hx => by
  rcases List.mem_append.1 hx with hx | hx
  · exact h x hx
  · simp at hx; subst hx; exact hs
/-- Unsafe bytes of one file alone: what is left of them. -/
theorem die_one {d : DS} {f : Bool} {b : List UInt8} (hu : d.u = b.map (f, ·)) (k : Nat) : (d.die k).base f = d.base f ++ b.take k ∧ (d.die k).base (!f) = d.base (!f) ∧ (d.die k).u = [] := by
  have h1 : DS.of f (d.u.take k) = b.take k := by rw [hu, ← List.map_take]; exact DS.of_map_same f _
  have h2 : DS.of (!f) (d.u.take k) = [] := by rw [hu, ← List.map_take]; exact DS.of_map_other (!f) f _ (by cases f <;> simp)
  cases f
  · exact ⟨by show d.left k false = _; rw [DS.left, h1], by show d.left k true = _; rw [DS.left]; simp only [Bool.not_false] at h2; rw [h2, List.append_nil]; rfl, rfl⟩
  · exact ⟨by show d.left k true = _; rw [DS.left, h1], by show d.left k false = _; rw [DS.left]; simp only [Bool.not_true] at h2; rw [h2, List.append_nil]; rfl, rfl⟩
/-- Unsafe frames behind a log: some of the records are left. -/
theorem sits_die {d : DS} {f : Bool} {g : Nat} {snap : List UInt8} {rs : List (List UInt8)} {m : Nat} (g1 : 1 ≤ g) (g2 : g ≤ 4611686018427387904) (sl : snap.length ≤ 524288) (short : Short rs) (hm : m ≤ rs.length)
    (file : d.base f = head g snap ++ frames (rs.take m)) (hu : d.u = (frames (rs.drop m)).map (f, ·)) (other : d.base (!f) = []) (k : Nat) : ∃ j, m ≤ j ∧ j ≤ rs.length ∧ Sits (d.die k) f g snap (rs.take j) := by
  obtain ⟨h1, h2, h3⟩ := die_one hu k
  obtain ⟨j, x, q, a1, a2, a3, a4⟩ := take_frames (rs.drop m) (short.drop m) k
  rw [List.length_drop] at a1
  refine ⟨m + j, by omega, by omega, h3, g1, g2, sl, short.take _, ⟨x, q, a2, a3, ?_⟩, by rw [h2, other, counts_nil]; exact g1⟩
  rw [h1, file, a4, List.append_assoc, ← List.append_assoc (frames _) (frames _), ← frames_append, List.take_add]
theorem Live.crash {l : LS} {d : DS} {snap : List UInt8} {rs : List (List UInt8)} {m : Nat} (h : Live l d snap rs m) (k : Nat) : ∃ j, m ≤ j ∧ j ≤ rs.length ∧ Sits (d.die k) l.f l.g snap (rs.take j) :=
  sits_die h.g1 h.g2 h.sl h.short h.le h.file h.u h.other k
theorem of_u {l : LS} {d : DS} {snap : List UInt8} {rs : List (List UInt8)} {m : Nat} (h : Live l d snap rs m) : d.file l.f = head l.g snap ++ frames rs ∧ d.file (!l.f) = [] := by
  constructor
  · rw [DS.file, h.u, DS.of_map_same, h.file, List.append_assoc, ← frames_append, List.take_append_drop]
  · rw [DS.file, h.u, DS.of_map_other _ _ _ (by cases l.f <;> simp), h.other]; rfl
/-- An append: it is refused and nothing has changed; or it is done; or the power goes, and some beginning of the records is left. -/
theorem append_live {l : LS} {d : DS} {snap : List UInt8} {rs : List (List UInt8)} {m : Nat} (h : Live l d snap rs m) (s : List UInt8) {r : LS × DS × Int} (hr : append l d s = r) :
    ((r.2.2 = 101 ∨ r.2.2 = 102) ∧ r.1 = l ∧ r.2.1 = d) ∨
    (r.2.2 = 0 ∧ Live r.1 r.2.1 snap (rs ++ [s]) m ∧ (d.armed = 0 → r.2.1.armed = 0)) ∨
    (r.2.2 = 2 ∧ r.1.dead = true ∧ r.2.1.dead = true ∧ d.armed ≠ 0 ∧ ∃ j, m ≤ j ∧ j ≤ rs.length + 1 ∧ Sits r.2.1 l.f l.g snap ((rs ++ [s]).take j)) := by
  subst hr
  unfold append
  rw [if_neg (by simp [h.ld])]
  by_cases h1 : 65536 < s.length
  · rw [if_pos h1]; exact .inl ⟨.inl rfl, rfl, rfl⟩
  by_cases h2 : 1048576 < d.size l.f + 8 + s.length
  · rw [if_neg h1, if_pos h2]; exact .inl ⟨.inr rfl, rfl, rfl⟩
  rw [if_neg h1, if_neg h2]
  have hshort := h.short.snoc (s := s) (by omega)
  have hm := h.le
  have hlay : (d.tick.lay l.f (frame s)).base l.f = head l.g snap ++ frames ((rs ++ [s]).take m) ∧ (d.tick.lay l.f (frame s)).u = (frames ((rs ++ [s]).drop m)).map (l.f, ·) ∧ (d.tick.lay l.f (frame s)).base (!l.f) = [] := by
    refine ⟨?_, ?_, ?_⟩
    · have : (d.tick.lay l.f (frame s)).base l.f = d.base l.f := by cases l.f <;> rfl
      rw [this, h.file, List.take_append_of_le_length hm]
    · show d.u ++ (frame s).map (l.f, ·) = _
      rw [h.u, List.drop_append_of_le_length hm, frames_append, List.map_append]; simp [frames]
    · have : (d.tick.lay l.f (frame s)).base (!l.f) = d.base (!l.f) := by cases l.f <;> rfl
      rw [this, h.other]
  obtain ⟨k1, k2, k3⟩ := hlay
  have ha : d.append (DS.fi l.f) (frame s) = if d.goes then ((d.tick.lay l.f (frame s)).die d.keep, 2) else (d.tick.lay l.f (frame s), 0) := by
    unfold DS.append
    rw [if_neg (by simp [h.dd]), DS.fileNo_of]
    simp only
    rw [if_neg (by rw [frame_length]; omega)]
  rw [ha]
  cases hg : d.goes
  · refine .inr (.inl ⟨rfl, ⟨h.ld, h.dd, h.g1, h.g2, by simp [h.n], h.sl, hshort, by simp; omega, k1, k2, k3⟩, fun h0 => ?_⟩)
    show d.armed - 1 = 0
    omega
  · refine .inr (.inr ⟨rfl, rfl, rfl, goes_true hg, ?_⟩)
    have := sits_die (d := d.tick.lay l.f (frame s)) h.g1 h.g2 h.sl hshort (m := m) (by simp; omega) k1 k2 k3 d.keep
    simpa using this
theorem saved_base (d : DS) (f : Bool) : d.saved.base f = d.file f := by cases f <;> rfl
/-- A sync. -/
theorem sync_live {l : LS} {d : DS} {snap : List UInt8} {rs : List (List UInt8)} {m : Nat} (h : Live l d snap rs m) {r : LS × DS × Int} (hr : sync l d = r) :
    (r.2.2 = 0 ∧ r.1 = l ∧ Live l r.2.1 snap rs rs.length ∧ (d.armed = 0 → r.2.1.armed = 0)) ∨
    (r.2.2 = 2 ∧ r.1.dead = true ∧ r.2.1.dead = true ∧ d.armed ≠ 0 ∧ ∃ j, m ≤ j ∧ j ≤ rs.length ∧ Sits r.2.1 l.f l.g snap (rs.take j)) := by
  subst hr
  unfold sync
  rw [if_neg (by simp [h.ld])]
  have hs : d.sync = if d.goes then (d.tick.die d.keep, 2) else (d.tick.saved, 0) := by unfold DS.sync; rw [if_neg (by simp [h.dd])]
  obtain ⟨f1, f2⟩ := of_u h
  rw [hs]
  cases hg : d.goes
  · refine .inl ⟨rfl, rfl, ⟨h.ld, h.dd, h.g1, h.g2, h.n, h.sl, h.short, Nat.le_refl _, ?_, ?_, ?_⟩, fun h0 => ?_⟩
    · show d.tick.saved.base l.f = _
      rw [saved_base, List.take_length]; exact f1
    · show [] = _
      rw [List.drop_length]; rfl
    · show d.tick.saved.base (!l.f) = _
      rw [saved_base]; exact f2
    · show d.armed - 1 = 0
      omega
  · refine .inr ⟨rfl, rfl, rfl, goes_true hg, ?_⟩
    show ∃ j, m ≤ j ∧ j ≤ rs.length ∧ Sits (d.tick.die d.keep) l.f l.g snap (rs.take j)
    rw [DS.die_tick]; exact h.crash _
theorem tick_zero {d : DS} (h : d.armed = 0) : d.tick.armed = 0 := by simp [DS.tick, h]
/-- Behind the laying of the new file: it stands there whole and safe; or the power went, and the old one sits there, or the new one. -/
theorem lays_live {l : LS} {d : DS} {snap : List UInt8} {rs : List (List UInt8)} {m : Nat} (h : Live l d snap rs m) {snap' : List UInt8} (hs : snap'.length ≤ 524288) (hg : l.g < 4611686018427387904) {r : DS × Int} (hr : lays d (!l.f) (l.g + 1) snap' = r) :
    (r.2 = 0 ∧ r.1.dead = false ∧ r.1.u = [] ∧ r.1.base l.f = head l.g snap ++ frames rs ∧ r.1.base (!l.f) = head (l.g + 1) snap' ∧ (d.armed = 0 → r.1.armed = 0)) ∨
    (r.2 = 2 ∧ r.1.dead = true ∧ d.armed ≠ 0 ∧ ((∃ j, m ≤ j ∧ j ≤ rs.length ∧ Sits r.1 l.f l.g snap (rs.take j)) ∨ Sits r.1 (!l.f) (l.g + 1) snap' [])) := by
  subst hr
  obtain ⟨f1, f2⟩ := of_u h
  have hg1 := h.g1
  have ha : d.append (DS.fi (!l.f)) (head (l.g + 1) snap') = if d.goes then ((d.tick.lay (!l.f) (head (l.g + 1) snap')).die d.keep, 2) else (d.tick.lay (!l.f) (head (l.g + 1) snap'), 0) := by
    unfold DS.append
    rw [if_neg (by simp [h.dd]), DS.fileNo_of]
    simp only
    rw [if_neg (by rw [DS.size, f2, head_length]; simp; omega)]
  -- what the two files hold when k unsafe bytes are left
  have key : ∀ (e : DS) (k : Nat), e.base l.f = d.base l.f → e.base (!l.f) = [] → e.u = (frames (rs.drop m)).map (l.f, ·) ++ (head (l.g + 1) snap').map (!l.f, ·) →
      (∃ j, m ≤ j ∧ j ≤ rs.length ∧ Sits (e.die k) l.f l.g snap (rs.take j)) ∨ Sits (e.die k) (!l.f) (l.g + 1) snap' [] := by
    intro e k b1 b2 hu
    have hne : (!l.f) ≠ l.f := by cases l.f <;> simp
    have hne' : l.f ≠ (!l.f) := by cases l.f <;> simp
    have o1 : DS.of l.f (e.u.take k) = (frames (rs.drop m)).take k := by
      rw [hu, List.take_append, DS.of_append, ← List.map_take, ← List.map_take, DS.of_map_same, DS.of_map_other _ _ _ hne, List.append_nil]
    have o2 : DS.of (!l.f) (e.u.take k) = (head (l.g + 1) snap').take (k - (frames (rs.drop m)).length) := by
      rw [hu, List.take_append, DS.of_append, ← List.map_take, ← List.map_take, DS.of_map_same, DS.of_map_other _ _ _ hne', List.nil_append, List.length_map]
    have d1 : ∀ q, (e.die k).base q = e.base q ++ DS.of q (e.u.take k) := fun q => by cases q <;> rfl
    have e1 := d1 l.f
    have e2 := d1 (!l.f)
    rw [o1, b1, h.file, List.append_assoc] at e1
    rw [o2, b2, List.nil_append] at e2
    by_cases hk : k - (frames (rs.drop m)).length < (head (l.g + 1) snap').length
    · left
      obtain ⟨j, x, q, a1, a2, a3, a4⟩ := take_frames (rs.drop m) (h.short.drop m) k
      rw [List.length_drop] at a1
      have hle := h.le
      refine ⟨m + j, by omega, by omega, rfl, h.g1, h.g2, h.sl, h.short.take _, ⟨x, q, a2, a3, ?_⟩, by rw [e2, counts_part hk hs]; exact hg1⟩
      rw [e1, a4, ← List.append_assoc (frames _) (frames _), ← frames_append, List.take_add]
    · right
      rw [List.take_of_length_le (by omega)] at e2
      rw [head_length] at hk
      refine ⟨rfl, by omega, by omega, hs, (fun _ h => by cases h), ⟨[], 0, by simp, by simp [frame_length], by rw [e2]; simp [frames]⟩, ?_⟩
      rw [Bool.not_not, e1, counts_head h.g2 h.sl]
      exact Nat.lt_succ_self _
  have hl : (d.tick.lay (!l.f) (head (l.g + 1) snap')).base l.f = d.base l.f ∧ (d.tick.lay (!l.f) (head (l.g + 1) snap')).base (!l.f) = [] ∧ (d.tick.lay (!l.f) (head (l.g + 1) snap')).u = (frames (rs.drop m)).map (l.f, ·) ++ (head (l.g + 1) snap').map (!l.f, ·) := by
    refine ⟨by cases l.f <;> rfl, ?_, ?_⟩
    · rw [← h.other]; cases l.f <;> rfl
    · show d.u ++ _ = _
      rw [h.u]
  obtain ⟨l1, l2, l3⟩ := hl
  unfold lays
  rw [ha]
  cases hgo : d.goes
  · simp only [Bool.false_eq_true, if_false, ne_eq, not_true_eq_false]
    obtain ⟨E, hE⟩ : ∃ E, d.tick.lay (!l.f) (head (l.g + 1) snap') = E := ⟨_, rfl⟩
    rw [hE] at l1 l2 l3 ⊢
    have hEd : E.dead = false := by rw [← hE]; exact h.dd
    have hEa : d.armed = 0 → E.armed = 0 := fun h0 => by rw [← hE]; exact tick_zero h0
    have hsy : E.sync = if E.goes then (E.tick.die E.keep, 2) else (E.tick.saved, 0) := by unfold DS.sync; rw [if_neg (by simp [hEd])]
    have hne : (!l.f) ≠ l.f := by cases l.f <;> simp
    have hne' : l.f ≠ (!l.f) := by cases l.f <;> simp
    have v1 : E.file l.f = head l.g snap ++ frames rs := by
      rw [DS.file, l1, l3, DS.of_append, DS.of_map_same, DS.of_map_other _ _ _ hne, List.append_nil, h.file, List.append_assoc, ← frames_append, List.take_append_drop]
    have v2 : E.file (!l.f) = head (l.g + 1) snap' := by
      rw [DS.file, l2, l3, DS.of_append, DS.of_map_same, DS.of_map_other _ _ _ hne']; rfl
    rw [hsy]
    cases hgo2 : E.goes
    · left
      exact ⟨rfl, hEd, rfl, by show E.tick.saved.base l.f = _; rw [saved_base]; exact v1, by show E.tick.saved.base (!l.f) = _; rw [saved_base]; exact v2, fun h0 => tick_zero (hEa h0)⟩
    · right
      refine ⟨rfl, rfl, fun h0 => goes_true hgo2 (hEa h0), ?_⟩
      simp only [if_true, DS.die_tick]
      exact key E _ l1 l2 l3
  · right
    simp only [if_true]
    rw [if_pos (by decide)]
    exact ⟨rfl, rfl, goes_true hgo, key _ _ l1 l2 l3⟩
/-- A checkpoint. -/
theorem checkpoint_live {l : LS} {d : DS} {snap : List UInt8} {rs : List (List UInt8)} {m : Nat} (h : Live l d snap rs m) (snap' : List UInt8) {r : LS × DS × Int} (hr : checkpoint l d snap' = r) :
    ((r.2.2 = 101 ∨ r.2.2 = 102) ∧ r.1 = l ∧ r.2.1 = d) ∨
    (r.2.2 = 0 ∧ Live r.1 r.2.1 snap' [] 0 ∧ (d.armed = 0 → r.2.1.armed = 0)) ∨
    (r.2.2 = 2 ∧ r.1.dead = true ∧ r.2.1.dead = true ∧ d.armed ≠ 0 ∧ ((∃ j, m ≤ j ∧ j ≤ rs.length ∧ Sits r.2.1 l.f l.g snap (rs.take j)) ∨ Sits r.2.1 (!l.f) (l.g + 1) snap' [])) := by
  subst hr
  unfold checkpoint
  rw [if_neg (by simp [h.ld])]
  by_cases h1 : 524288 < snap'.length
  · rw [if_pos h1]; exact .inl ⟨.inl rfl, rfl, rfl⟩
  by_cases h2 : l.g = 4611686018427387904
  · rw [if_neg h1, if_pos h2]; exact .inl ⟨.inr rfl, rfl, rfl⟩
  have hg2 := h.g2
  have hg1 := h.g1
  rw [if_neg h1, if_neg h2]
  rcases lays_live h (snap' := snap') (by omega) (by omega) rfl with ⟨e0, e1, e2, e3, e4, e5⟩ | ⟨e0, e1, e2, e3⟩
  · rw [if_neg (by rw [e0]; decide)]
    generalize (lays d (!l.f) (l.g + 1) snap').1 = E at e1 e2 e3 e4 e5 ⊢
    rcases cut_cases e2 e1 (f := l.f) (p := 0) (by omega) with ⟨hgo, hc⟩ | ⟨hgo, hc⟩
    · have hc' : E.cut (DS.fi l.f) 0 = (E.tick.short l.f 0, 0) := hc
      rw [hc', if_neg (by simp)]
      obtain ⟨b1, b2, b3, b4, b5⟩ := short_base E.tick l.f 0
      refine .inr (.inl ⟨rfl, ⟨h.ld, by rw [b4]; exact e1, by show 1 ≤ l.g + 1; omega, by show l.g + 1 ≤ _; omega, rfl, by omega, (fun _ h => by cases h), Nat.le_refl _, ?_, ?_, ?_⟩, fun h0 => ?_⟩)
      · show (E.tick.short l.f 0).base (!l.f) = _
        rw [b2, tick_base, e4]; simp [frames]
      · show (E.tick.short l.f 0).u = _
        rw [b3]; exact e2
      · show (E.tick.short l.f 0).base (!!l.f) = _
        rw [Bool.not_not, b1]; rfl
      · show (E.tick.short l.f 0).armed = 0
        rw [b5]; exact tick_zero (e5 h0)
    · have hc' : E.cut (DS.fi l.f) 0 = (E.tick.die E.keep, 2) := hc
      rw [hc', if_pos (by simp)]
      refine .inr (.inr ⟨rfl, rfl, rfl, fun h0 => goes_true hgo (e5 h0), .inr ?_⟩)
      show Sits (E.tick.die E.keep) _ _ _ _
      rw [DS.die_tick]
      refine ⟨rfl, by omega, by omega, by omega, (fun _ h => by cases h), ⟨[], 0, by simp, by simp [frame_length], by rw [die_base e2, e4]; simp [frames]⟩, ?_⟩
      rw [Bool.not_not, die_base e2, e3, counts_head h.g2 h.sl]
      exact Nat.lt_succ_self _
  · rw [if_pos (by rw [e0]; decide)]
    exact .inr (.inr ⟨rfl, rfl, e1, e2, e3⟩)
/-- The power goes between two calls. -/
theorem new_live {r : Option LS × DS × Int} (hr : new {} = r) : ∃ l, r.1 = some l ∧ r.2.2 = 0 ∧ Live l r.2.1 [] [] 0 ∧ r.2.1.armed = 0 := by
  subst hr
  have e : new {} = (some { f := false, g := 1, n := 0, dead := false }, { a := head 1 [], armed := 0 }, 0) := by rfl
  rw [e]
  exact ⟨_, rfl, rfl, ⟨rfl, rfl, by decide, by decide, rfl, by simp, (fun _ h => by cases h), Nat.le_refl _, by simp [DS.base, frames], by simp [frames], rfl⟩, rfl⟩
/-! Room. -/
theorem room_bounds (l : LS) (d : DS) : -1 ≤ room l d ∧ room l d ≤ 65536 := by unfold room; omega
/-- One more byte than there is room for is too much. -/
theorem room_more {l : LS} {d : DS} (hl : l.dead = false) {s : List UInt8} (hr : room l d < 65536) (hs : (s.length : Int) = room l d + 1) : append l d s = (l, d, 102) := by
  unfold append
  have h1 : (s.length : Int) ≤ 65536 := by omega
  have h2 : (1048576 : Int) < d.size l.f + 8 + s.length := by unfold room at hr hs; omega
  rw [if_neg (by simp [hl]), if_neg (by omega), if_pos (by omega)]
theorem long_append {l : LS} {d : DS} (hl : l.dead = false) {s : List UInt8} (hs : 65536 < s.length) : append l d s = (l, d, 101) := by
  unfold append; rw [if_neg (by simp [hl]), if_pos hs]
theorem long_checkpoint {l : LS} {d : DS} (hl : l.dead = false) {s : List UInt8} (hs : 524288 < s.length) : checkpoint l d s = (l, d, 101) := by
  unfold checkpoint; rw [if_neg (by simp [hl]), if_pos hs]
end Wal
end Go.Proofs.YtpjpknndfhablaaGreat
namespace Go.Proofs.YtpjpknndfhablaaGreat
open Go.RowKit
def diskT : List TypeId := [89, 106]
def logT : List TypeId := [89, 106, 148]
theorem keeps_diskT {w w' : World} (h : KeepsOff diskT w w') : KeepsOff logT w w' := h.mono (fun t ht => by simp [diskT] at ht; rcases ht with rfl | rfl <;> simp [logT])
theorem DiskNew.of_below {w0 w1 w : World} {c : Nat} {d : DS} {m : Nat} (h : DiskNew w1 w c d m) (hb : Below w0.heap.size w0 w1) : DiskNew w0 w c d m := by
  obtain ⟨hc, hb1, rb, h, hr⟩ := h
  exact ⟨Nat.le_trans hb.size hc, hb.trans (hb1.mono hb.size), rb, h, fun k hk => Nat.le_trans hb.size (hr k hk)⟩
section
variable {w0 w : World} {c : Nat} {d : DS} {m : Nat} (h : DiskNew w0 w c d m)
include h
theorem arm_newO (n k : Int) (hn : n ≤ 9223372036854775807) (hk : k ≤ 9223372036854775807) : Calls Tryz.prog 28 #[.pointer (some ⟨c, 0, none⟩), .int .i64 n, .int .i64 k] w fun e w' => e = .returned (.int .i64 (d.arm n k).2) ∧ DiskNew w0 w' c (d.arm n k).1 m ∧ KeepsOff diskT w w' := by
  obtain ⟨hc, hb, rb, h, hr⟩ := h
  exact (arm_any c w d m rb n k h hn hk).mono fun e w' ⟨he, h', ht⟩ => ⟨he, .turn hc hb hr h' (Newer.refl _ _) ht, .of_touch h.typed ht⟩
theorem revive_newO : Calls Tryz.prog 32 #[.pointer (some ⟨c, 0, none⟩)] w fun e w' => e = .returned (.tuple #[]) ∧ DiskNew w0 w' c d.revive m ∧ KeepsOff diskT w w' := by
  obtain ⟨hc, hb, rb, h, hr⟩ := h
  exact (revive_any c w d m rb h).mono fun e w' ⟨he, h', ht⟩ => ⟨he, .turn hc hb hr h' (Newer.refl _ _) ht, .of_touch h.typed ht⟩
theorem crash_newO (k : Int) (hk : k ≤ 9223372036854775807) : Calls Tryz.prog 31 #[.pointer (some ⟨c, 0, none⟩), .int .i64 k] w fun e w' => e = .returned (.int .i64 (d.crash k).2) ∧ DiskNew w0 w' c (d.crash k).1 m ∧ KeepsOff diskT w w' ∧ ((d.crash k).1.dead = true → d.dead = false → DiskNew w0 w' c (d.crash k).1 0) := by
  obtain ⟨hc, hb, rb, h, hr⟩ := h
  exact (crash_anyN c w d m rb k h hk).mono fun e w' ⟨he, rb', h', hn, ht, hz⟩ => ⟨he, .turn hc hb hr h' hn ht, .of_touch h.typed ht, fun h1 h2 => by
    have h3 := hz h1 h2
    subst h3
    exact .turn hc hb hr h'.fresh hn ht⟩
end
/-- In w a log in block x over the disk in block c, both made since w0. -/
structure One (w0 w : World) (x c : Nat) (l : Wal.LS) (d : DS) (m : Nat) : Prop where
  x0 : w0.heap.size ≤ x
  log : LogAt w x c l
  disk : DiskNew w0 w c d m
theorem One.below {w0 w w' : World} {x c : Nat} {l : Wal.LS} {d : DS} {m : Nat} (h : One w0 w x c l d m) (hb : Below w.heap.size w w') : One w0 w' x c l d m := ⟨h.x0, h.log.below hb, h.disk.below hb⟩
theorem One.mono {w0 w : World} {x c : Nat} {l : Wal.LS} {d : DS} {m n : Nat} (h : One w0 w x c l d m) (hmn : m ≤ n) : One w0 w x c l d n := ⟨h.x0, h.log, h.disk.mono hmn⟩
/-- What a piece of work leaves of it. -/
def OneLeft (w0 w : World) (x c : Nat) (l' : Wal.LS) (d d' : DS) (m' : Nat) (w' : World) : Prop :=
  One w0 w' x c l' d' m' ∧ KeepsOff logT w w' ∧ (d'.dead = true → d.dead = false → DiskNew w0 w' c d' 0)
theorem One.left {w0 w w' : World} {x c : Nat} {l l' : Wal.LS} {d d' : DS} {m m' : Nat} {rb : Option Nat} (x0 : w0.heap.size ≤ x) (hl : LogAt w x c l) (hc : w0.heap.size ≤ c) (hb : Below w0.heap.size w0 w) (hd : DiskAt w c d m rb) (hr : ∀ k, rb = some k → w0.heap.size ≤ k)
    (hw : Worked x c l' d d' m' rb w w') : OneLeft w0 w x c l' d d' m' w' := by
  obtain ⟨rb', h1, h2, h3⟩ := hw.disk
  have hold : Below w0.heap.size w0 w' := hb.trans (hw.touch.below hb.size fun k hk ho => by
    rcases ho with (rfl | ho) | rfl
    · omega
    · have := hr k ho; omega
    · omega)
  have hr' : ∀ k, rb' = some k → w0.heap.size ≤ k := fun k hk => (h2 k hk).elim (hr k) (Nat.le_trans hb.size)
  refine ⟨⟨x0, hw.log, hc, hold, rb', h1, hr'⟩, .of_touch (hl.typed3 hd) hw.touch, fun a b => ?_⟩
  have h4 := h3 a b
  subst h4
  exact ⟨hc, hold, none, h1.fresh, fun k hk => by cases hk⟩
section
variable {w0 w : World} {x c : Nat} {l : Wal.LS} {d : DS} {m : Nat} (h : One w0 w x c l d m)
include h
theorem append_one (s : List UInt8) (hm : m < 5000000000000) (hs : s.length ≤ 140737488355328) (hln : l.n ≤ 4611686018427387904) :
    Calls Tryz.prog 69 #[.pointer (some ⟨x, 0, none⟩), .string ⟨s.toArray⟩] w fun e w' => e = .returned (.int .i64 (Wal.append l d s).2.2) ∧ OneLeft w0 w x c (Wal.append l d s).1 d (Wal.append l d s).2.1 (m + 1) w' := by
  obtain ⟨x0, hl, hc, hb, rb, hd, hr⟩ := h
  exact (wappend_any x c w l d m rb s hl hd hm hs hln).mono fun e w' ⟨he, hw⟩ => ⟨he, One.left x0 hl hc hb hd hr hw⟩
theorem sync_one : Calls Tryz.prog 84 #[.pointer (some ⟨x, 0, none⟩)] w fun e w' => e = .returned (.int .i64 (Wal.sync l d).2.2) ∧ OneLeft w0 w x c (Wal.sync l d).1 d (Wal.sync l d).2.1 m w' := by
  obtain ⟨x0, hl, hc, hb, rb, hd, hr⟩ := h
  exact (wsync_any x c w l d m rb hl hd).mono fun e w' ⟨he, hw⟩ => ⟨he, One.left x0 hl hc hb hd hr hw⟩
theorem check_one (s : List UInt8) (hm : m < 5000000000000) (hs : s.length ≤ 140737488355328) (hlg : l.g ≤ 4611686018427387904) :
    Calls Tryz.prog 116 #[.pointer (some ⟨x, 0, none⟩), .string ⟨s.toArray⟩] w fun e w' => e = .returned (.int .i64 (Wal.checkpoint l d s).2.2) ∧ OneLeft w0 w x c (Wal.checkpoint l d s).1 d (Wal.checkpoint l d s).2.1 (m + 1) w' := by
  obtain ⟨x0, hl, hc, hb, rb, hd, hr⟩ := h
  exact (wcheck_any x c w l d m rb s hl hd hm hs hlg).mono fun e w' ⟨he, hw⟩ => ⟨he, One.left x0 hl hc hb hd hr hw⟩
theorem room_one : Calls Tryz.prog 67 #[.pointer (some ⟨x, 0, none⟩)] w fun e w' => e = .returned (.int .i64 (Wal.room l d)) ∧ One w0 w' x c l d m ∧ Below w.heap.size w w' := by
  have h0 := h
  obtain ⟨x0, hl, hc, hb, rb, hd, hr⟩ := h
  exact (room_any x c w l d m rb hl hd).mono fun e w' ⟨he, hb'⟩ => ⟨he, h0.below hb', hb'⟩
end
/-- How Open ends on a disk that the call itself made. -/
def OpenLeft (w0 w : World) (c : Nat) (o : Option Wal.Opened) (d d' : DS) (m : Nat) (r : Int) (e : Ending) (w' : World) : Prop :=
  ∃ v s rv, e = .returned (.tuple #[v, .string s, rv, .int .i64 r]) ∧
    (∀ q, o = some q → s = ⟨q.snap.toArray⟩ ∧ RecsAt w' w.heap.size rv q.rs ∧ ∃ x, v = .pointer (some ⟨x, 0, none⟩) ∧ w.heap.size ≤ x ∧ One w0 w' x c q.l d' m) ∧ (o = none → v = .pointer none ∧ s = ⟨#[]⟩ ∧ rv = .slice none 0 0) ∧
    DiskNew w0 w' c d' m ∧ KeepsOff diskT w w' ∧ (d'.dead = true → d.dead = false → DiskNew w0 w' c d' 0)
theorem open_one {w0 w : World} {c : Nat} {d : DS} {m : Nat} (h : DiskNew w0 w c d m) :
    Calls Tryz.prog 47 #[.pointer (some ⟨c, 0, none⟩)] w (OpenLeft w0 w c (Wal.open_ d).1 d (Wal.open_ d).2.1 m (Wal.open_ d).2.2) := by
  obtain ⟨hc, hb, rb, hd, hr⟩ := h
  refine (wopen_any c w d m rb hd).mono fun e w' ⟨v, s, rv, he, h1, h2, rb', h3, h4, h5, h6⟩ => ?_
  have hn : DiskNew w0 w' c (Wal.open_ d).2.1 m := .turn hc hb hr h3 h4 h5
  refine ⟨v, s, rv, he, fun q hq => ?_, h2, hn, .of_touch hd.typed h5, fun a b => ?_⟩
  · obtain ⟨a1, a2, x, a3, a4, a5⟩ := h1 q hq
    exact ⟨a1, a2, x, a3, a4, Nat.le_trans hb.size a4, a5, hn⟩
  · have h7 := h6 a b
    subst h7
    exact .turn hc hb hr h3.fresh h4 h5
end Go.Proofs.YtpjpknndfhablaaGreat
