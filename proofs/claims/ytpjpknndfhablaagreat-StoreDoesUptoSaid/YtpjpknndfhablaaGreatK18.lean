/- The document's store: where it lies; New, Open. Printed by tools/gen_ropn.py. The document's store and its transactions: told, Sync, Copy, Begin, Put, Delete, Abort. The document's transactions: Put, Delete, Abort. The document's Changes. -/
import Derived.StillTail
import Derived.Test.YtpjpknndfhablaaGreatK4
import Derived.Test.YtpjpknndfhablaaGreatK5
import Derived.Test.YtpjpknndfhablaaGreatK6
import Derived.Test.YtpjpknndfhablaaGreatK9
import Derived.Test.YtpjpknndfhablaaGreatK15
import Derived.Test.YtpjpknndfhablaaGreatK17
namespace Go.Proofs.YtpjpknndfhablaaGreat
open Go.RowKit
def rstoreBlock (lg : Nat) (v : Value) (s : SS) : Obj := .cells #[.pointer (some ⟨lg, 0, none⟩), v, .int .i64 s.turn, .bool s.dead] 46 (0, 0)
/-- The document's store lies in block z: its log in block lg, over the disk in block y; v: its pairs. -/
structure RstoreAt (w : World) (z lg y : Nat) (v : Value) (s : SS) : Prop where
 blk : w.heap[z]? = some (rstoreBlock lg v s)
 log : RlogAt w lg y s.l
 pairs : PairsAt w v s.ps
theorem RstoreAt.cells {w : World} {z lg y : Nat} {v : Value} {s : SS} (h : RstoreAt w z lg y v s) : w.cell? ⟨z, 0, none⟩ = some (.pointer (some ⟨lg, 0, none⟩)) ∧ w.cell? ⟨z, 1, none⟩ = some v ∧ w.cell? ⟨z, 2, none⟩ = some (.int .i64 s.turn) ∧ w.cell? ⟨z, 3, none⟩ = some (.bool s.dead) ∧ (∀ i, w.frozen? ⟨z, i, none⟩ = false) ∧ z < w.heap.size :=
 ⟨cell_of h.blk rfl, cell_of h.blk rfl, cell_of h.blk rfl, cell_of h.blk rfl, free_of h.blk, heap_lt h.blk⟩
theorem RstoreAt.below {w w' : World} {z lg y : Nat} {v : Value} {s : SS} (h : RstoreAt w z lg y v s) (hb : Below w.heap.size w w') : RstoreAt w' z lg y v s :=
 ⟨stays h.blk hb, h.log.below hb, h.pairs.below hb⟩
def RSNewEnds (y : Nat) (w : World) (o : Option SS) (d' : DS) (ub : Option Nat) (r : Int) (e : Ending) (w' : World) : Prop :=
 ∃ v, e = .returned (.tuple #[v, .int .i64 r]) ∧ (∀ s, o = some s → ∃ z lg u, v = .pointer (some ⟨z, 0, none⟩) ∧ RstoreAt w' z lg y u s ∧ w.heap.size ≤ z ∧ w.heap.size ≤ lg ∧ (∀ g, u.ownBlock = some g → w.heap.size ≤ g ∧ g ≠ z ∧ g ≠ lg)) ∧ (o = none → v = .pointer none) ∧
  ∃ ub', RefAt w' y d' ub' ∧ Newer w ub ub' ∧ Touch (· = y) w w'
set_option maxHeartbeats 2000000 in
set_option maxRecDepth 100000 in
theorem rnew11_any (y : Nat) (w : World) (d : DS) (ub : Option Nat) (h : RefAt w y d ub) :
  Calls Tryz.prog 12 #[.pointer (some ⟨y, 0, none⟩)] w (RSNewEnds y w (SS.new d).1 (SS.new d).2.1 ub (SS.new d).2.2) := by
 have HN := Lib.hid (rnewL_any y w d ub h)
 clear h
 obtain ⟨o, E, r, hO⟩ : ∃ o E r, Wal.new d = (o, E, r) := ⟨_, _, _, rfl⟩
 cases o with
 | none =>
  obtain ⟨h1, h2⟩ := new_none hO
  rw [hO] at HN
  rw [h2]
  have hb : (r != 0) = true := by simp [h1]
  clear hO h2 h1
  go_enter Tryz.func12, Tryz.ntmps12
  go_wp2_with fail
  refine HN.out.mono ?_
  rintro e w1 ⟨v, rfl, _, hn, hrest⟩
  obtain rfl := hn rfl
  have HR := Lib.hid hrest
  clear hn hrest
  go_wp2
  go_ret2
  exact ⟨_, rfl, fun s e => (by cases e), fun _ => rfl, HR.out⟩
 | some l =>
  obtain ⟨rfl, h2⟩ := new_some hO
  rw [hO] at HN
  rw [h2]
  clear hO h2
  go_enter Tryz.func12, Tryz.ntmps12
  go_wp2_with fail
  refine HN.out.mono ?_
  rintro e w1 ⟨v, rfl, hs, _, hrest⟩
  obtain ⟨lg, rfl, hlg, hla⟩ := hs l rfl
  have HR := Lib.hid hrest
  have HL := Lib.hid hla
  clear hs hrest hla
  go_wp2_with fail
  have b2 := balloc w1 (rstoreBlock lg (.slice none 0 0) { l := l, ps := [], turn := 0, dead := false })
  have n2 := heap_new w1 (rstoreBlock lg (.slice none 0 0) { l := l, ps := [], turn := 0, dead := false })
  have l2 := HL.out.below b2
  have hw : w.heap.size ≤ w1.heap.size := by obtain ⟨_, _, _, h3⟩ := HR.out; exact h3.size
  have HZ : Hid (RstoreAt (w1.alloc (rstoreBlock lg (.slice none 0 0) { l := l, ps := [], turn := 0, dead := false })) w1.heap.size lg y (.slice none 0 0) { l := l, ps := [], turn := 0, dead := false }) := Lib.hid ⟨n2, l2, ⟨rfl, .inl ⟨rfl, rfl⟩⟩⟩
  have HR2 : Hid (∃ ub', RefAt (w1.alloc (rstoreBlock lg (.slice none 0 0) { l := l, ps := [], turn := 0, dead := false })) y E ub' ∧ Newer w ub ub' ∧ Touch (· = y) w (w1.alloc (rstoreBlock lg (.slice none 0 0) { l := l, ps := [], turn := 0, dead := false }))) := Lib.hid (by
   obtain ⟨ub', h1, h2, h3⟩ := HR.out
   exact ⟨ub', h1.below b2, h2, Touch.trans h3 (Touch.of_below b2) (fun _ _ e => e)⟩)
  go_ret2
  exact ⟨_, rfl, fun s e => (by cases e; exact ⟨_, _, _, rfl, HZ.out, hw, hlg, fun g e => (by cases e)⟩), fun e => (by cases e), HR2.out⟩
theorem strs_cells {w : World} {base g cap n : Nat} {rs : List (List UInt8)} (h : w.ownsRow base 9 1 (.slice (some ⟨g, 0, none⟩) n cap) n (strs rs)) : g < w.heap.size ∧ ∀ j r, rs[j]? = some r → w.cell? ⟨g, j, none⟩ = some (.string ⟨r.toArray⟩) := by
 rcases h.2 with ⟨h0, _⟩ | ⟨g', cap', cur, hv, _, hg, _, _, _, h4⟩
 ·cases h0
 ·cases hv
  refine ⟨heap_lt hg, fun j s hs => ?_⟩
  have h5 : (strs rs)[j]? = some (.string ⟨s.toArray⟩) := by simp [strs, hs]
  rw [← h4, List.getElem?_take] at h5
  split at h5
  ·exact cell_of hg (by simpa using h5)
  ·cases h5
/-- The document's pairs on the way. -/
structure RopAt (w1 : World) (v : Value) (l : Sto.Pairs) (w' : World) : Prop where
 pairs : PairsAt w' v l
 fresh : ∀ g, v.ownBlock = some g → w1.heap.size ≤ g
 below : Below w1.heap.size w1 w'
 good : Sto.Good l
 fits : Sto.fits l = true
theorem RopAt.later {w1 w' w'' : World} {v : Value} {l : Sto.Pairs} (h : RopAt w1 v l w') (hb : Below w'.heap.size w' w'') : RopAt w1 v l w'' :=
 ⟨h.pairs.below hb, h.fresh, bthen h.below hb, h.good, h.fits⟩
theorem RopAt.turned {w1 w' w'' : World} {v v' : Value} {l l' : Sto.Pairs} (h : RopAt w1 v l w') (hp : PairsAt w'' v' l') (hv : v' = v ∨ ∀ g, v'.ownBlock = some g → w'.heap.size ≤ g) (hb : Below w'.heap.size w' w'') (hg : Sto.Good l') (hf : Sto.fits l' = true) : RopAt w1 v' l' w'' :=
 ⟨hp, (by rcases hv with rfl | hv; exact h.fresh; exact fun g e => Nat.le_trans h.below.size (hv g e)), bthen h.below hb, hg, hf⟩
theorem few_fits {l : Sto.Pairs} (h : Sto.fits l = true) : l.length ≤ 4096 := by
 unfold Sto.fits at h
 simp at h
 omega
set_option maxHeartbeats 4000000 in
set_option maxRecDepth 100000 in
theorem ropen11_any (y : Nat) (w : World) (d : DS) (ub : Option Nat) (hok : d.Ok) (h : RefAt w y d ub) :
  Calls Tryz.prog 15 #[.pointer (some ⟨y, 0, none⟩)] w (RSNewEnds y w (SS.open_ d).1 (SS.open_ d).2.1 ub (SS.open_ d).2.2) := by
 have HN := Lib.hid (ropenL_any y w d ub h)
 have HFEW : Hid (∀ q, (Wal.open_ d).1 = some q → q.rs.length ≤ 1048576 ∧ q.snap.length ≤ 524288 ∧ ∀ s ∈ q.rs, s.length ≤ 65536) := Lib.hid (fun q hq => by
  obtain ⟨h1, _, _, h2, h3⟩ := wopen_few hok hq
  exact ⟨h1, h2, h3⟩)
 clear h hok
 obtain ⟨o, E, r, hO⟩ : ∃ o E r, Wal.open_ d = (o, E, r) := ⟨_, _, _, rfl⟩
 cases o with
 | none =>
  have hr := wopen_bad hO
  have HX : Hid (SS.open_ d = (none, E, r)) := Lib.hid (by unfold SS.open_; rw [hO])
  rw [hO] at HN
  have hb : (r != 0) = true := by simp [hr]
  clear hO hr HFEW
  go_enter Tryz.func15, Tryz.ntmps15
  go_wp2_with fail
  refine HN.out.mono ?_
  rintro e w1 ⟨v, s, rv, rfl, _, hn, hrest⟩
  obtain ⟨rfl, rfl, rfl⟩ := hn rfl
  have HR := Lib.hid hrest
  clear hn hrest
  go_wp2
  go_ret2
  rw [HX.out]
  exact ⟨_, rfl, fun s e => (by cases e), fun _ => rfl, HR.out⟩
 | some q =>
 obtain rfl := wopen_ok hO
 obtain ⟨ql, sn, rs⟩ := q
 have HX0 : Hid (SS.opened ⟨ql, sn, rs⟩ = none → SS.open_ d = (none, E, 110)) := Lib.hid (fun e => by unfold SS.open_; rw [hO]; simp only [e])
 have HX1 : Hid (∀ l, SS.opened ⟨ql, sn, rs⟩ = some l → SS.open_ d = (some { l := ql, ps := l, turn := 0, dead := false }, E, 0)) := Lib.hid (fun l e => by unfold SS.open_; rw [hO]; simp only [e])
 rw [hO] at HN
 obtain ⟨hf1, hf2, hf3⟩ := HFEW.out _ (by rw [hO])
 have HF3 := Lib.hid hf3
 clear hO HFEW hf3
 simp only at hf1 hf2 HF3
 go_enter Tryz.func15, Tryz.ntmps15
 go_wp2_with fail
 refine HN.out.mono ?_
 rintro e w1 ⟨v, s, rv, rfl, hs, _, hrest⟩
 obtain ⟨rfl, ⟨g, cap, rfl, hrow⟩, lg, rfl, hlg, hla⟩ := hs _ rfl
 have hww : w.heap.size ≤ w1.heap.size := by obtain ⟨_, _, _, h3⟩ := hrest; exact h3.size
 have HFAIL : Hid (∀ w', Below w1.heap.size w1 w' → SS.opened ⟨ql, sn, rs⟩ = none → RSNewEnds y w (SS.open_ d).1 (SS.open_ d).2.1 ub (SS.open_ d).2.2 (.returned (.tuple #[.pointer none, .int .i64 110])) w') := Lib.hid (fun w' hb hn => by
  rw [HX0.out hn]
  obtain ⟨ub', h1, h2, h3⟩ := hrest
  exact ⟨_, rfl, fun s e => (by cases e), fun _ => rfl, ub', h1.below hb, h2, Touch.trans h3 (Touch.of_below hb) (fun _ _ e => e)⟩)
 have HGOOD : Hid (∀ w' v l, RopAt w1 v l w' → SS.opened ⟨ql, sn, rs⟩ = some l → RSNewEnds y w (SS.open_ d).1 (SS.open_ d).2.1 ub (SS.open_ d).2.2 (.returned (.tuple #[.pointer (some ⟨w'.heap.size, 0, none⟩), .int .i64 0])) (w'.alloc (.cells #[.pointer (some ⟨lg, 0, none⟩), v, .int .i64 0, .bool false] 46 (0, 0)))) := Lib.hid (fun w' v l ha hn => by
  rw [HX1.out l hn]
  obtain ⟨ub', h1, h2, h3⟩ := hrest
  have b1 := balloc w' (rstoreBlock lg v { l := ql, ps := l, turn := 0, dead := false })
  have b2 := bthen ha.below b1
  exact ⟨_, rfl, fun s e => (by cases e; exact ⟨w'.heap.size, lg, v, rfl, ⟨heap_new w' _, hla.below b2, ha.pairs.below b1⟩, Nat.le_trans hww ha.below.size, hlg, fun g e => ⟨Nat.le_trans hww (ha.fresh g e), fun e1 => by have h1 := (OwnF.lt ha.pairs g e).2; omega, fun e1 => by have h1 := ha.fresh g e; have h2 := heap_lt hla; omega⟩⟩), fun e => (by cases e), ub', h1.below b2, h2, Touch.trans h3 (Touch.of_below b2) (fun _ _ e => e)⟩)
 obtain ⟨hgl, hgc⟩ := strs_cells hrow
 have HG : Hid (∀ w', Below w1.heap.size w1 w' → ∀ j r, rs[j]? = some r → w'.cell? ⟨g, j, none⟩ = some (.string ⟨r.toArray⟩)) := Lib.hid (fun w' hb j r hj => cell_later hb (hgc j r hj))
 clear hs hrest hla hrow hgc HX0 HX1 HN
 by_cases hsn : sn = []
 case pos =>
  have hse : sn.isEmpty = true := by rw [hsn]; rfl
  have HOP : Hid (SS.opened ⟨ql, sn, rs⟩ = SS.replay [] rs) := Lib.hid (by unfold SS.opened SS.snapPairs; rw [if_pos hsn]; rfl)
  clear hsn
  go_wp2_with fail
  have b2 := balloc w1 (.cells #[] 97)
  have n2 := heap_new w1 (.cells #[] 97)
  obtain ⟨p, hp⟩ : ∃ b, w1.heap.size = b := ⟨_, rfl⟩
  rw [hp] at n2
  obtain ⟨w2, hw2⟩ : ∃ W, w1.alloc (.cells #[] 97) = W := ⟨_, rfl⟩
  rw [hw2] at b2 n2
  have HA : Hid (RopAt w1 (.slice (some ⟨p, 0, none⟩) 0 0) [] w2) := Lib.hid ⟨⟨rfl, .inr ⟨p, 0, rfl, Nat.zero_le _, heap_lt n2, Nat.le_refl _, by decide, fun j hj => by omega, fun j u hu => by simp [pCells] at hu⟩⟩, fun g e => by cases e; exact Nat.le_of_eq hp, b2, Sto.Good.nil, rfl⟩
  rw [hp, hw2]
  clear hp hw2 b2 n2
  go_loopw [8, 14] (fun v i wr => ∃ (j : Nat) (l : Sto.Pairs), i = .int .i64 j ∧ j ≤ rs.length ∧ SS.replay [] (rs.take j) = some l ∧ RopAt w1 v l wr) (fun _ i _ => rs.length - (intOf i).toNat)
  case atStart => exact ⟨0, [], rfl, Nat.zero_le _, rfl, HA.out⟩
  case round =>
   obtain ⟨j, l, rfl, hj, hst, hop⟩ := hrel
   have HST := Lib.hid hst
   have HO1 := Lib.hid hop
   clear hst hop
   by_cases hlt : j < rs.length
   ·obtain ⟨r, hr⟩ : ∃ x, rs[j]? = some x := ⟨_, List.getElem?_eq_getElem hlt⟩
    have cr := HG.out _ HO1.out.below j r hr
    have hrl := HF3.out r (List.mem_of_getElem? hr)
    have HRJ := Lib.hid hr
    clear hr
    go_wp2_with fail
    have hde := rdecode11_any r 2 512 wr (by omega) (by decide) (by decide)
    cases hdc : Sto.decode r 2 512 with
    | none =>
     rw [hdc] at hde
     have HDE := Lib.hid hde
     have HN := Lib.hid (HOP.out.trans (SS.replay_bad HST.out HRJ.out (by unfold SS.rec1; rw [hdc]; try rfl)))
     clear hdc hde cr
     refine HDE.out.mono ?_
     rintro e w6 ⟨v, rfl, cz, _, _, b6⟩
     have HB6 := Lib.hid (bthen HO1.out.below b6)
     clear b6
     go_wp2
     go_ret2
     exact HFAIL.out _ HB6.out HN.out
    | some ch =>
    rw [hdc] at hde
    have HDE := Lib.hid hde
    have HF := Lib.hid (Sto.decode_fine hdc)
    have HR1 : Hid (SS.rec1 l r = Sto.does l ch) := Lib.hid (by unfold SS.rec1; rw [hdc]; try rfl)
    clear hdc hde cr
    refine HDE.out.mono ?_
    rintro e w6 ⟨v6, rfl, cz, hcz, hce, b6⟩
    obtain rfl := hce _ rfl
    have HO6 := Lib.hid (HO1.out.later b6)
    have HC6 := Lib.hid hcz
    clear b6 hcz hce HDE HO1
    go_wp2_with fail
    refine (rdoes11_any _ _ l cz w6 HO6.out.pairs HC6.out HO6.out.good HF.out.2.2.1 (by have h1 := few_fits HO6.out.fits; have h2 := HF.out.1; omega)).mono ?_
    rintro e w7 ⟨v7, rfl, hp7, hv7, b7⟩
    have HP7 := Lib.hid hp7
    have HV7 := Lib.hid hv7
    have HB7 := Lib.hid b7
    clear hp7 hv7 b7
    cases hdo : Sto.does l cz with
    | none =>
     have HN := Lib.hid (HOP.out.trans (SS.replay_bad HST.out HRJ.out (HR1.out.trans hdo)))
     clear hdo
     go_wp2
     go_ret2
     exact HFAIL.out _ (HO6.out.later HB7.out).below HN.out
    | some l1 =>
    have HST1 : Hid (SS.replay [] (rs.take (j + 1)) = some l1) := Lib.hid ((SS.replay_next HST.out HRJ.out).trans (HR1.out.trans hdo))
    have HG1 := Lib.hid (HO6.out.good.does HF.out.2.2.1 hdo)
    have HO7 := Lib.hid (HO6.out.turned (HP7.out l1 hdo) HV7.out HB7.out HG1.out.1 HG1.out.2)
    clear hdo HP7 HV7 HB7 HO6 HC6 HF HG1
    go_wp2_with fail
    go_roundw
    all_goals first
     | (simp [intOf]; omega)
     | exact ⟨j + 1, l1, by go_num, by omega, HST1.out, HO7.out⟩
   ·have hjr : j = rs.length := by omega
    have HN : Hid (SS.opened ⟨ql, sn, rs⟩ = some l) := Lib.hid (HOP.out.trans (by have := HST.out; rw [hjr, List.take_length] at this; exact this))
    have hjb : ¬ (j : Int) < rs.length := by omega
    clear hjr
    obtain ⟨pao, pcap, rfl, _⟩ := HO1.out.pairs.read
    go_wp2
    go_ret2
    exact HGOOD.out _ _ _ HO1.out HN.out
 have hse : sn.isEmpty = false := by cases sn with | nil => exact absurd rfl hsn | cons a r => rfl
 have HOP : Hid (SS.opened ⟨ql, sn, rs⟩ = ((Sto.decode sn 4 2048).bind fun c => if c.all (·.put) then Sto.does [] c else none).bind fun l => SS.replay l rs) := Lib.hid (by unfold SS.opened SS.snapPairs; rw [if_neg hsn])
 clear hsn
 go_wp2_with fail
 have b2 := balloc w1 (.cells #[] 97)
 have n2 := heap_new w1 (.cells #[] 97)
 obtain ⟨p, hp⟩ : ∃ b, w1.heap.size = b := ⟨_, rfl⟩
 rw [hp] at n2
 obtain ⟨w2, hw2⟩ : ∃ W, w1.alloc (.cells #[] 97) = W := ⟨_, rfl⟩
 rw [hw2] at b2 n2
 have HA : Hid (RopAt w1 (.slice (some ⟨p, 0, none⟩) 0 0) [] w2) := Lib.hid ⟨⟨rfl, .inr ⟨p, 0, rfl, Nat.zero_le _, heap_lt n2, Nat.le_refl _, by decide, fun j hj => by omega, fun j u hu => by simp [pCells] at hu⟩⟩, fun g e => by cases e; exact Nat.le_of_eq hp, b2, Sto.Good.nil, rfl⟩
 rw [hp, hw2]
 clear hp hw2 b2 n2
 have hde := rdecode11_any sn 4 2048 w2 (by omega) (by decide) (by decide)
 obtain ⟨D, hD⟩ : ∃ D, Sto.decode sn 4 2048 = D := ⟨_, rfl⟩
 rw [hD] at hde
 have HDD := Lib.hid hD
 clear hD
 refine hde.mono ?_
 clear hde
 rintro e w3 ⟨v, rfl, cz, hcz, hce, b3⟩
 have HA3 := Lib.hid (HA.out.later b3)
 have HC3 := Lib.hid hcz
 have HCE := Lib.hid hce
 obtain ⟨ao, cap3, rfl, hn3, hn3', hrd⟩ := chsAt_read hcz
 have HRD := Lib.hid hrd
 clear b3 hcz hce HA hrd
 go_wp2_with fail
 go_loopw [10, 11] (fun b i wr => ∃ (j : Nat) (ok : Bool), b = .bool ok ∧ i = .int .i64 j ∧ j ≤ cz.length ∧ ok = (D.isSome && (cz.take j).all (·.put)) ∧ Below w3.heap.size w3 wr) (fun _ i _ => cz.length - (intOf i).toNat)
 case atStart => exact ⟨0, D.isSome, rfl, rfl, Nat.zero_le _, by simp, Below.refl _ _⟩
 case round =>
  obtain ⟨j, ok, rfl, rfl, hj, hok, hb⟩ := hrel
  have HOK := Lib.hid hok
  have HB := Lib.hid hb
  clear hok hb
  by_cases hlt : j < cz.length
  ·obtain ⟨ch, hch⟩ : ∃ x, cz[j]? = some x := ⟨_, List.getElem?_eq_getElem hlt⟩
   obtain ⟨gc, rfl, hgc, a0, _, _⟩ := HRD.out j ch hch
   have c0 := cell_later HB.out a0
   have HT : Hid ((cz.take (j + 1)).all (·.put) = ((cz.take j).all (·.put) && ch.put)) := Lib.hid (by rw [List.take_add_one, hch]; simp)
   clear a0 hch
   cases ok with
   | false =>
    have HO1 : Hid (false = (D.isSome && (cz.take (j + 1)).all (·.put))) := Lib.hid (by rw [HT.out, ← Bool.and_assoc, ← HOK.out]; rfl)
    go_wp2_with fail
    go_roundw
    all_goals first
     | (simp [intOf]; omega)
     | exact ⟨j + 1, false, rfl, by go_num, by omega, HO1.out, HB.out⟩
   | true =>
    have HO1 : Hid (ch.put = (D.isSome && (cz.take (j + 1)).all (·.put))) := Lib.hid (by rw [HT.out, ← Bool.and_assoc, ← HOK.out]; rfl)
    go_wp2_with fail
    go_roundw
    all_goals first
     | (simp [intOf]; omega)
     | exact ⟨j + 1, ch.put, rfl, by go_num, by omega, HO1.out, HB.out⟩
  ·have hjc : j = cz.length := by omega
   subst hjc
   have HOK2 : Hid (ok = (D.isSome && cz.all (·.put))) := Lib.hid (by have := HOK.out; rw [List.take_length] at this; exact this)
   have HA4 := Lib.hid (HA3.out.later HB.out)
   have HC4 := Lib.hid (HC3.out.below HB.out)
   clear HOK HA3 HC3 HRD
   cases ok with
   | false =>
    have HN : Hid (SS.opened ⟨ql, sn, rs⟩ = none) := Lib.hid (by
     rw [HOP.out, HDD.out]
     cases D with
     | none => rfl
     | some k =>
      obtain rfl := HCE.out k rfl
      have h1 : cz.all (·.put) = false := by have := HOK2.out; simp only [Option.isSome, Bool.true_and] at this; exact this.symm
      show (if cz.all (·.put) then Sto.does [] cz else none).bind _ = none
      rw [h1]
      rfl)
    go_wp2
    go_ret2
    exact HFAIL.out _ HA4.out.below HN.out
   | true =>
   have HX : Hid (D = some cz ∧ cz.all (·.put) = true) := Lib.hid (by
    have := HOK2.out
    cases D with
    | none => cases this
    | some k =>
     obtain rfl := HCE.out k rfl
     exact ⟨rfl, by simp only [Option.isSome, Bool.true_and] at this; exact this.symm⟩)
   have HF := Lib.hid (Sto.decode_fine (HDD.out.trans HX.out.1))
   have HOR : Hid (SS.opened ⟨ql, sn, rs⟩ = (Sto.does [] cz).bind fun l => SS.replay l rs) := Lib.hid (by
    rw [HOP.out, HDD.out, HX.out.1]
    show (if cz.all (·.put) then Sto.does [] cz else none).bind _ = _
    rw [HX.out.2]
    rfl)
   clear HOK2 HX HDD HCE HOP
   go_wp2_with fail
   refine (rdoes11_any _ _ [] cz wr HA4.out.pairs HC4.out Sto.Good.nil HF.out.2.2.1 (by have := HF.out.1; simp; omega)).mono ?_
   rintro e w5 ⟨v5, rfl, hp5, hv5, b5⟩
   have HP5 := Lib.hid hp5
   have HV5 := Lib.hid hv5
   have HB5 := Lib.hid b5
   clear hp5 hv5 b5
   cases hdo : Sto.does [] cz with
   | none =>
    have HN := Lib.hid (HOR.out.trans (by rw [hdo]; try rfl))
    clear hdo
    go_wp2
    go_ret2
    exact HFAIL.out _ (HA4.out.later HB5.out).below HN.out
   | some l0 =>
   have HOS : Hid (SS.opened ⟨ql, sn, rs⟩ = SS.replay l0 rs) := Lib.hid (HOR.out.trans (by rw [hdo]; try rfl))
   have HG0 := Lib.hid (Sto.Good.nil.does HF.out.2.2.1 hdo)
   have HA5 := Lib.hid (HA4.out.turned (HP5.out l0 hdo) HV5.out HB5.out HG0.out.1 HG0.out.2)
   clear hdo HOR HP5 HV5 HB5 HA4 HC4 HF HG0
   go_wp2_with fail
   go_loopw [8, 14] (fun v i wr => ∃ (j : Nat) (l : Sto.Pairs), i = .int .i64 j ∧ j ≤ rs.length ∧ SS.replay l0 (rs.take j) = some l ∧ RopAt w1 v l wr) (fun _ i _ => rs.length - (intOf i).toNat)
   case atStart => exact ⟨0, l0, rfl, Nat.zero_le _, rfl, HA5.out⟩
   case round =>
    obtain ⟨j, l, rfl, hj, hst, hop⟩ := hrel
    have HST := Lib.hid hst
    have HO1 := Lib.hid hop
    clear hst hop
    by_cases hlt : j < rs.length
    ·obtain ⟨r, hr⟩ : ∃ x, rs[j]? = some x := ⟨_, List.getElem?_eq_getElem hlt⟩
     have cr := HG.out _ HO1.out.below j r hr
     have hrl := HF3.out r (List.mem_of_getElem? hr)
     have HRJ := Lib.hid hr
     clear hr
     go_wp2_with fail
     have hde := rdecode11_any r 2 512 wr (by omega) (by decide) (by decide)
     cases hdc : Sto.decode r 2 512 with
     | none =>
      rw [hdc] at hde
      have HDE := Lib.hid hde
      have HN := Lib.hid (HOS.out.trans (SS.replay_bad HST.out HRJ.out (by unfold SS.rec1; rw [hdc]; try rfl)))
      clear hdc hde cr
      refine HDE.out.mono ?_
      rintro e w6 ⟨v, rfl, cz, _, _, b6⟩
      have HB6 := Lib.hid (bthen HO1.out.below b6)
      clear b6
      go_wp2
      go_ret2
      exact HFAIL.out _ HB6.out HN.out
     | some ch =>
     rw [hdc] at hde
     have HDE := Lib.hid hde
     have HF := Lib.hid (Sto.decode_fine hdc)
     have HR1 : Hid (SS.rec1 l r = Sto.does l ch) := Lib.hid (by unfold SS.rec1; rw [hdc]; try rfl)
     clear hdc hde cr
     refine HDE.out.mono ?_
     rintro e w6 ⟨v6, rfl, cz, hcz, hce, b6⟩
     obtain rfl := hce _ rfl
     have HO6 := Lib.hid (HO1.out.later b6)
     have HC6 := Lib.hid hcz
     clear b6 hcz hce HDE HO1
     go_wp2_with fail
     refine (rdoes11_any _ _ l cz w6 HO6.out.pairs HC6.out HO6.out.good HF.out.2.2.1 (by have h1 := few_fits HO6.out.fits; have h2 := HF.out.1; omega)).mono ?_
     rintro e w7 ⟨v7, rfl, hp7, hv7, b7⟩
     have HP7 := Lib.hid hp7
     have HV7 := Lib.hid hv7
     have HB7 := Lib.hid b7
     clear hp7 hv7 b7
     cases hdo : Sto.does l cz with
     | none =>
      have HN := Lib.hid (HOS.out.trans (SS.replay_bad HST.out HRJ.out (HR1.out.trans hdo)))
      clear hdo
      go_wp2
      go_ret2
      exact HFAIL.out _ (HO6.out.later HB7.out).below HN.out
     | some l1 =>
     have HST1 : Hid (SS.replay l0 (rs.take (j + 1)) = some l1) := Lib.hid ((SS.replay_next HST.out HRJ.out).trans (HR1.out.trans hdo))
     have HG1 := Lib.hid (HO6.out.good.does HF.out.2.2.1 hdo)
     have HO7 := Lib.hid (HO6.out.turned (HP7.out l1 hdo) HV7.out HB7.out HG1.out.1 HG1.out.2)
     clear hdo HP7 HV7 HB7 HO6 HC6 HF HG1
     go_wp2_with fail
     go_roundw
     all_goals first
      | (simp [intOf]; omega)
      | exact ⟨j + 1, l1, by go_num, by omega, HST1.out, HO7.out⟩
    ·have hjr : j = rs.length := by omega
     have HN : Hid (SS.opened ⟨ql, sn, rs⟩ = some l) := Lib.hid (HOS.out.trans (by have := HST.out; rw [hjr, List.take_length] at this; exact this))
     have hjb : ¬ (j : Int) < rs.length := by omega
     clear hjr
     obtain ⟨pao, pcap, rfl, _⟩ := HO1.out.pairs.read
     go_wp2
     go_ret2
     exact HGOOD.out _ _ _ HO1.out HN.out
end Go.Proofs.YtpjpknndfhablaaGreat
namespace Go.Proofs.YtpjpknndfhablaaGreat
open Go.RowKit
def rtxBlock (z : Nat) (v1 v2 : Value) (t : TS) : Obj := .cells #[.pointer (some ⟨z, 0, none⟩), v1, v2, .int .i64 t.turn, .bool t.over] 196 (0, 0)
theorem rst_far {w : World} {z lg y : Nat} {v : Value} {s : SS} {l : Wal.LS} {d : DS} {ub : Option Nat} (h : w.heap[z]? = some (rstoreBlock lg v s)) (hl : RlogAt w lg y l) (hd : RefAt w y d ub) : z ≠ y ∧ z ≠ lg := by
 obtain ⟨_, us, hr, _⟩ := hd
 refine ⟨fun e => ?_, fun e => ?_⟩
 ·have := hr.blk; rw [← e, h] at this; simp [refBlock, rstoreBlock] at this
 ·have h2 : w.heap[lg]? = some (rlogBlock y l) := hl
  rw [← e, h] at h2
  simp [rlogBlock, rstoreBlock] at h2
set_option maxHeartbeats 1000000 in
theorem rtold_any (z lg : Nat) (v : Value) (s : SS) (e : Int) (w : World) (h : w.heap[z]? = some (rstoreBlock lg v s)) :
  Calls Tryz.prog 128 #[.pointer (some ⟨z, 0, none⟩), .int .i64 e] w fun r w' => r = .returned (.int .i64 e) ∧ w'.heap[z]? = some (rstoreBlock lg v { s with dead := s.dead || decide (e = 2) }) ∧ Touch (· = z) w w' := by
 have c3 : w.cell? ⟨z, 3, none⟩ = some (.bool s.dead) := cell_of h rfl
 have cf := free_of h 3
 have HK : Hid ((w.setCell ⟨z, 3, none⟩ (.bool true)).heap[z]? = some (rstoreBlock lg v { s with dead := true })) := Lib.hid (by
  have := heap_set (i := 3) (.bool true) h
  simpa [rstoreBlock] using this)
 have HH := Lib.hid h
 clear h
 by_cases he : e = 2
 ·subst he
  go_enter Tryz.func128, Tryz.ntmps128
  go_wp2
  go_ret
  exact ⟨rfl, by simpa using HK.out, (Touch.refl (· = z) w).setCell _ (fun _ => rfl)⟩
 ·have heb : (e == 2) = false := by simp [he]
  go_enter Tryz.func128, Tryz.ntmps128
  go_wp2
  go_ret
  exact ⟨rfl, by simpa [he] using HH.out, Touch.refl _ _⟩
/-- What a call on the document's store leaves. -/
structure RSWorked (z lg y : Nat) (v : Value) (s' : SS) (d' : DS) (ub : Option Nat) (w w' : World) : Prop where
 blk : w'.heap[z]? = some (rstoreBlock lg v s')
 log : RlogAt w' lg y s'.l
 disk : ∃ ub', RefAt w' y d' ub' ∧ Newer w ub ub'
 touch : Touch (fun k => ownR y lg k ∨ k = z) w w'
theorem RSWorked.stay {z lg y : Nat} {v : Value} {s : SS} {d : DS} {ub : Option Nat} {w w' : World} (h : w.heap[z]? = some (rstoreBlock lg v s)) (hl : RlogAt w lg y s.l) (hd : RefAt w y d ub) (hb : Below w.heap.size w w') : RSWorked z lg y v s d ub w w' :=
 ⟨stays h hb, hl.below hb, ⟨ub, hd.below hb, Newer.refl _ _⟩, Touch.of_below hb⟩
/-- A log has worked, and what came of it has been told. -/
theorem RSWorked.told {z lg y : Nat} {v : Value} {s : SS} {l' : Wal.LS} {d' : DS} {ub : Option Nat} {w w1 w2 w3 : World} {e : Int} (hb : Below w.heap.size w w1) (hw : RWorked lg y l' d' ub w1 w2) (h3 : w3.heap[z]? = some (rstoreBlock lg v { s with dead := s.dead || decide (e = 2) })) (ht : Touch (· = z) w2 w3) (hz : z ≠ y ∧ z ≠ lg) (hd : s.dead = false) (h2 : w2.heap[z]? = some (rstoreBlock lg v s)) :
  RSWorked z lg y v { s with l := l', dead := decide (e = 2) } d' ub w w3 := by
 obtain ⟨ub', h4, h5⟩ := hw.disk
 have hu : ub' ≠ some z := fun e => by
  obtain ⟨_, us, hr, hrb⟩ := h4
  rw [← hrb] at e
  rcases hr.own.2 with ⟨hv, _⟩ | ⟨g, cap, cur, hv, _, hg, _⟩
  ·rw [hv] at e; cases e
  ·rw [hv] at e
   have e1 : g = z := Option.some.inj e
   subst e1
   rw [h2] at hg; simp [rstoreBlock] at hg
 refine ⟨?_, hw.log.touch ht (fun e => hz.2 e.symm), ⟨ub', h4.touch ht (fun k hk e => ?_), h5.later hb.size⟩, ((Touch.of_below hb).trans hw.touch (fun _ _ e => .inl e)).trans ht (fun _ _ e => .inr e)⟩
 ·rw [h3, hd, Bool.false_or]
  rfl
 ·rcases hk with rfl | hk
  ·exact hz.1 e.symm
  ·rw [e] at hk; exact hu hk
set_option maxHeartbeats 2000000 in
set_option maxRecDepth 100000 in
theorem rsync11_any (z lg y : Nat) (v : Value) (w : World) (s : SS) (d : DS) (ub : Option Nat) (h : w.heap[z]? = some (rstoreBlock lg v s)) (hl : RlogAt w lg y s.l) (hd : RefAt w y d ub) :
  Calls Tryz.prog 77 #[.pointer (some ⟨z, 0, none⟩)] w fun e w' => e = .returned (.int .i64 (s.sync d).2.2) ∧ RSWorked z lg y v (s.sync d).1 (s.sync d).2.1 ub w w' := by
 have c0 : w.cell? ⟨z, 0, none⟩ = some (.pointer (some ⟨lg, 0, none⟩)) := cell_of h rfl
 have c3 : w.cell? ⟨z, 3, none⟩ = some (.bool s.dead) := cell_of h rfl
 have HF := Lib.hid (rst_far h hl hd)
 have HH := Lib.hid h
 have HL := Lib.hid hl
 have HD := Lib.hid hd
 clear h hl hd
 cases hdd : s.dead with
 | true =>
  rw [hdd] at c3
  have HX : Hid (s.sync d = (s, d, 2)) := Lib.hid (by unfold SS.sync; rw [if_pos hdd])
  go_enter Tryz.func77, Tryz.ntmps77
  go_wp2
  go_ret
  rw [HX.out]
  exact ⟨rfl, RSWorked.stay HH.out HL.out HD.out (Below.refl _ _)⟩
 | false =>
  rw [hdd] at c3
  obtain ⟨q, hq⟩ : ∃ q, (Wal.sync s.l d).2.2 = q := ⟨_, rfl⟩
  have HX : Hid (s.sync d = ({ s with l := (Wal.sync s.l d).1, dead := decide (q = 2) }, (Wal.sync s.l d).2.1, q)) := Lib.hid (by unfold SS.sync; rw [if_neg (by simp [hdd]), hq])
  have HQ := Lib.hid hq
  have HDD := Lib.hid hdd
  clear hq hdd
  go_enter Tryz.func77, Tryz.ntmps77
  go_wp2_with fail
  refine (rsyncL_any lg y w s.l d ub HL.out HD.out).mono ?_
  rw [HQ.out]
  rintro e w1 ⟨rfl, hw⟩
  have HW := Lib.hid hw
  have HZ1 : Hid (w1.heap[z]? = some (rstoreBlock lg v s)) := Lib.hid ((hw.touch.block z (heap_lt HH.out) (fun e => by rcases e with e | e; exact HF.out.1 e; exact HF.out.2 e)).trans HH.out)
  clear hw
  go_wp2_with fail
  refine (rtold_any z lg v s q w1 HZ1.out).mono ?_
  rintro e w2 ⟨rfl, h2, t2⟩
  have HE := Lib.hid (RSWorked.told (Below.refl _ _) HW.out h2 t2 HF.out HDD.out HZ1.out)
  clear h2 t2
  go_wp2
  go_ret
  rw [HX.out]
  exact ⟨rfl, HE.out⟩
set_option maxHeartbeats 2000000 in
set_option maxRecDepth 100000 in
theorem rcopy11_any (z lg y y' : Nat) (v : Value) (w : World) (s : SS) (h : w.heap[z]? = some (rstoreBlock lg v s)) (hl : RlogAt w lg y s.l) (hv : ∃ ao n cap, v = .slice ao n cap) :
  Calls Tryz.prog 36 #[.pointer (some ⟨z, 0, none⟩), .pointer (some ⟨y', 0, none⟩)] w fun e w' => ∃ z' lg', e = .returned (.pointer (some ⟨z', 0, none⟩)) ∧ w'.heap[z']? = some (rstoreBlock lg' v s) ∧ RlogAt w' lg' y' s.l ∧ w.heap.size ≤ z' ∧ w.heap.size ≤ lg' ∧ Below w.heap.size w w' := by
 have c0 : w.cell? ⟨z, 0, none⟩ = some (.pointer (some ⟨lg, 0, none⟩)) := cell_of h rfl
 have c1 : w.cell? ⟨z, 1, none⟩ = some v := cell_of h rfl
 have c2 : w.cell? ⟨z, 2, none⟩ = some (.int .i64 s.turn) := cell_of h rfl
 have c3 : w.cell? ⟨z, 3, none⟩ = some (.bool s.dead) := cell_of h rfl
 have hzl := heap_lt h
 have HL := Lib.hid hl
 obtain ⟨ao, n, cap, rfl⟩ := hv
 clear h hl
 go_enter Tryz.func36, Tryz.ntmps36
 go_wp2_with fail
 have b1 := balloc w (rstoreBlock lg (.slice ao n cap) s)
 have n1 := heap_new w (rstoreBlock lg (.slice ao n cap) s)
 obtain ⟨z', hz'⟩ : ∃ n, w.heap.size = n := ⟨_, rfl⟩
 obtain ⟨w1, hw1⟩ : ∃ W, w.alloc (rstoreBlock lg (.slice ao n cap) s) = W := ⟨_, rfl⟩
 unfold rstoreBlock at hw1
 rw [hw1]
 rw [show w.alloc (rstoreBlock lg (.slice ao n cap) s) = w1 from hw1] at b1 n1
 rw [hz'] at n1 hzl ⊢
 have N1 := Lib.hid n1
 have B1 := Lib.hid b1
 clear hw1 n1 b1
 refine (rcopyL_any lg y y' w1 s.l (HL.out.below B1.out)).mono ?_
 rintro e w2 ⟨lg', rfl, hlg, hl2, b2⟩
 have n2 := stays N1.out b2
 have B2 := Lib.hid (bthen B1.out b2)
 have HL2 := Lib.hid hl2
 have hne : lg' ≠ z' := by have := heap_lt N1.out; omega
 have HLG : Hid (z' ≤ lg') := Lib.hid (by have := heap_lt N1.out; omega)
 have cf := free_of n2 0
 have hk : (w2.setCell ⟨z', 0, none⟩ (.pointer (some ⟨lg', 0, none⟩))).heap[z']? = some (rstoreBlock lg' (.slice ao n cap) s) := by
  have := heap_set (i := 0) (.pointer (some ⟨lg', 0, none⟩)) n2
  simpa [rstoreBlock] using this
 have HK := Lib.hid hk
 have hc0 : w2.cell? ⟨z', 0, none⟩ = some (.pointer (some ⟨lg, 0, none⟩)) := cell_of n2 rfl
 have HZZ := Lib.hid hz'
 clear b2 hl2 hk n2 hz'
 go_wp2
 go_ret
 have hzz := HZZ.out
 exact ⟨z', lg', rfl, HK.out, HL2.out.touch ((Touch.refl (· = z') w2).setCell _ (fun _ => rfl)) hne, by omega, by have := HLG.out; omega, B2.out.trans (((Touch.refl (· = z') w2).setCell (a := ⟨z', 0, none⟩) _ (fun _ => rfl)).below B2.out.size (fun k hk e => by omega))⟩
set_option maxHeartbeats 2000000 in
set_option maxRecDepth 100000 in
theorem rbegin_any (z lg : Nat) (v : Value) (w : World) (s : SS) (h : w.heap[z]? = some (rstoreBlock lg v s)) (hv : ∃ ao n cap, v = .slice ao n cap) :
  Calls Tryz.prog 73 #[.pointer (some ⟨z, 0, none⟩)] w fun e w' => ∃ u, e = .returned (.pointer (some ⟨u, 0, none⟩)) ∧ w'.heap[u]? = some (rtxBlock z v v s.begin_) ∧ w.heap.size ≤ u ∧ Below w.heap.size w w' := by
 have HH := Lib.hid h
 obtain ⟨ao, n, cap, rfl⟩ := hv
 clear h
 go_enter Tryz.func73, Tryz.ntmps73
 go_wp2_with fail
 refine region_tail 13 (by kernel_rfl) (by kernel_rfl) ?_
 intro wt hwt
 have bt : Below w.heap.size w wt := by rw [hwt.out]; exact (Below.refl _ _).drew
 have HB := Lib.hid bt
 have h2 := stays HH.out bt
 have c1 : wt.cell? ⟨z, 1, none⟩ = some (.slice ao n cap) := cell_of h2 rfl
 have c2 : wt.cell? ⟨z, 2, none⟩ = some (.int .i64 s.turn) := cell_of h2 rfl
 clear bt hwt h2
 simp only [List.take_succ_cons, List.take_zero, List.drop_succ_cons, List.drop_zero]
 iterate 13 still_step
 refine wpStill_nil ?_
 go_wp2
 go_ret
 exact ⟨wt.heap.size, rfl, heap_new wt _, HB.out.size, HB.out.trans ((balloc wt _).mono HB.out.size)⟩
end Go.Proofs.YtpjpknndfhablaaGreat
namespace Go.Proofs.YtpjpknndfhablaaGreat
open Go.RowKit
theorem rtx_set {w : World} {z u : Nat} {v1 v2 : Value} {t : TS} (h : w.heap[u]? = some (rtxBlock z v1 v2 t)) (v : Value) (l : Sto.Pairs) : (w.setCell ⟨u, 2, none⟩ v).heap[u]? = some (rtxBlock z v1 v { t with now := l }) := by
 have := heap_set (i := 2) v h
 simpa [rtxBlock] using this
set_option maxHeartbeats 2000000 in
set_option maxRecDepth 100000 in
theorem rput_any (z u : Nat) (v1 v2 : Value) (t : TS) (k x : Sto.S) (w : World) (h : w.heap[u]? = some (rtxBlock z v1 v2 t)) (hp : PairsAt w v2 t.now) (hx : x.length ≤ maxLen) (hb : t.now.length + 1 ≤ 4398046511104) :
  Calls Tryz.prog 133 #[.pointer (some ⟨u, 0, none⟩), .string ⟨k.toArray⟩, .string ⟨x.toArray⟩] w fun e w' => e = .returned (.int .i64 (t.put k x).2) ∧ ∃ v', w'.heap[u]? = some (rtxBlock z v1 v' (t.put k x).1) ∧ PairsAt w' v' (t.put k x).1.now ∧ (v' = v2 ∨ ∀ g, v'.ownBlock = some g → w.heap.size ≤ g) ∧ Touch (· = u) w w' := by
 have c4 : w.cell? ⟨u, 4, none⟩ = some (.bool t.over) := cell_of h rfl
 have c2 : w.cell? ⟨u, 2, none⟩ = some v2 := cell_of h rfl
 have HH := Lib.hid h
 have HP := Lib.hid hp
 have hlt := heap_lt h
 clear h hp
 have hmx : (maxLen : Nat) = 9223372036854775807 := rfl
 have HSTAY : Hid (∀ w' : World, Below w.heap.size w w' → ∃ v', w'.heap[u]? = some (rtxBlock z v1 v' t) ∧ PairsAt w' v' t.now ∧ (v' = v2 ∨ ∀ g, v'.ownBlock = some g → w.heap.size ≤ g) ∧ Touch (· = u) w w') := Lib.hid (fun w' b => ⟨v2, stays HH.out b, HP.out.below b, .inl rfl, Touch.of_below b⟩)
 cases hov : t.over with
 | true =>
  rw [hov] at c4
  have HX : Hid (t.put k x = (t, 114)) := Lib.hid (by unfold TS.put; rw [if_pos hov])
  go_enter Tryz.func133, Tryz.ntmps133
  go_wp2
  go_ret
  rw [HX.out]
  exact ⟨rfl, HSTAY.out _ (Below.refl _ _)⟩
 | false =>
  rw [hov] at c4
  have HOV := Lib.hid hov
  obtain ⟨kb, hkb⟩ : ∃ b, Sto.keyOk k = b := ⟨_, rfl⟩
  have HKB := Lib.hid hkb
  clear hov hkb
  go_enter Tryz.func133, Tryz.ntmps133
  go_wp2_with fail
  refine (rkey_any k w).mono ?_
  rw [HKB.out]
  rintro e _ ⟨rfl, rfl⟩
  cases kb with
  | false =>
   have HX : Hid (t.put k x = (t, 111)) := Lib.hid (by unfold TS.put; rw [if_neg (by simp [HOV.out]), if_pos HKB.out])
   go_wp2
   go_ret
   rw [HX.out]
   exact ⟨rfl, HSTAY.out _ (Below.refl _ _)⟩
  | true =>
   by_cases hv : x.length ≤ 4096
   ·have hvb : ¬ (4096 : Int) < x.length := by omega
    have HX : Hid (t.put k x = ({ t with now := Sto.put t.now k x }, 0)) := Lib.hid (by unfold TS.put; rw [if_neg (by simp [HOV.out]), if_neg (by simp [HKB.out]), if_neg (by unfold Sto.valueOk; simp [hv])])
    go_wp2_with fail
    refine (rwith_any v2 t.now k x w HP.out hb).mono ?_
    rintro e w1 ⟨v', rfl, hp1, hf1, b1⟩
    obtain ⟨av, cv, rfl, _⟩ := hp1.read
    obtain ⟨nn, hnn⟩ : ∃ n, (Sto.put t.now k x).length = n := ⟨_, rfl⟩
    rw [hnn] at hp1 hf1 ⊢
    have HP1 := Lib.hid hp1
    have HF1 := Lib.hid hf1
    have HB1 := Lib.hid b1
    have n1 := stays HH.out b1
    have cf := free_of n1 2
    have c2' : w1.cell? ⟨u, 2, none⟩ = some v2 := cell_of n1 rfl
    have HN := Lib.hid (rtx_set n1 (.slice av nn cv) (Sto.put t.now k x))
    clear hp1 hf1 b1 n1
    go_wp2
    go_ret
    rw [HX.out]
    exact ⟨rfl, _, HN.out, HP1.out.touch ((Touch.refl (· = u) w1).setCell _ (fun _ => rfl)) (fun g hg e => by have := HF1.out g hg; omega), .inr HF1.out, (Touch.of_below HB1.out).setCell _ (fun _ => rfl)⟩
   ·have hvb : (4096 : Int) < x.length := by omega
    have HX : Hid (t.put k x = (t, 112)) := Lib.hid (by unfold TS.put; rw [if_neg (by simp [HOV.out]), if_neg (by simp [HKB.out]), if_pos (by unfold Sto.valueOk; simp; omega)])
    go_wp2
    go_ret
    rw [HX.out]
    exact ⟨rfl, HSTAY.out _ (Below.refl _ _)⟩
set_option maxHeartbeats 2000000 in
set_option maxRecDepth 100000 in
theorem rdelete_any (z u : Nat) (v1 v2 : Value) (t : TS) (k : Sto.S) (w : World) (h : w.heap[u]? = some (rtxBlock z v1 v2 t)) (hp : PairsAt w v2 t.now) (hoff : ∀ g, v2.ownBlock = some g → g ≠ u) (hb : t.now.length ≤ 4398046511104) :
  Calls Tryz.prog 134 #[.pointer (some ⟨u, 0, none⟩), .string ⟨k.toArray⟩] w fun e w' => e = .returned (.int .i64 (t.del k).2) ∧ ∃ v', w'.heap[u]? = some (rtxBlock z v1 v' (t.del k).1) ∧ PairsAt w' v' (t.del k).1.now ∧ (v' = v2 ∨ ∀ g, v'.ownBlock = some g → w.heap.size ≤ g) ∧ Touch (· = u) w w' := by
 have c4 : w.cell? ⟨u, 4, none⟩ = some (.bool t.over) := cell_of h rfl
 have c2 : w.cell? ⟨u, 2, none⟩ = some v2 := cell_of h rfl
 have HH := Lib.hid h
 have HP := Lib.hid hp
 have HOFF := Lib.hid hoff
 have hlt := heap_lt h
 clear h hp hoff
 have HSTAY : Hid (∀ w' : World, Below w.heap.size w w' → ∃ v', w'.heap[u]? = some (rtxBlock z v1 v' t) ∧ PairsAt w' v' t.now ∧ (v' = v2 ∨ ∀ g, v'.ownBlock = some g → w.heap.size ≤ g) ∧ Touch (· = u) w w') := Lib.hid (fun w' b => ⟨v2, stays HH.out b, HP.out.below b, .inl rfl, Touch.of_below b⟩)
 cases hov : t.over with
 | true =>
  rw [hov] at c4
  have HX : Hid (t.del k = (t, 114)) := Lib.hid (by unfold TS.del; rw [if_pos hov])
  go_enter Tryz.func134, Tryz.ntmps134
  go_wp2
  go_ret
  rw [HX.out]
  exact ⟨rfl, HSTAY.out _ (Below.refl _ _)⟩
 | false =>
  rw [hov] at c4
  have HOV := Lib.hid hov
  obtain ⟨kb, hkb⟩ : ∃ b, Sto.keyOk k = b := ⟨_, rfl⟩
  have HKB := Lib.hid hkb
  clear hov hkb
  go_enter Tryz.func134, Tryz.ntmps134
  go_wp2_with fail
  refine (rkey_any k w).mono ?_
  rw [HKB.out]
  rintro e _ ⟨rfl, rfl⟩
  cases kb with
  | false =>
   have HX : Hid (t.del k = (t, 111)) := Lib.hid (by unfold TS.del; rw [if_neg (by simp [HOV.out]), if_pos HKB.out])
   go_wp2
   go_ret
   rw [HX.out]
   exact ⟨rfl, HSTAY.out _ (Below.refl _ _)⟩
  | true =>
   have HX : Hid (t.del k = ({ t with now := Sto.del t.now k }, 0)) := Lib.hid (by unfold TS.del; rw [if_neg (by simp [HOV.out]), if_neg (by simp [HKB.out])])
   go_wp2_with fail
   refine (rwithout_any v2 t.now k w HP.out hb).mono ?_
   rintro e w1 ⟨v', rfl, hp1, hf1, b1⟩
   obtain ⟨av, cv, rfl, _⟩ := hp1.read
   obtain ⟨nn, hnn⟩ : ∃ n, (Sto.del t.now k).length = n := ⟨_, rfl⟩
   rw [hnn] at hp1 hf1 ⊢
   have HP1 := Lib.hid hp1
   have HF1 := Lib.hid hf1
   have HB1 := Lib.hid b1
   have n1 := stays HH.out b1
   have cf := free_of n1 2
   have c2' : w1.cell? ⟨u, 2, none⟩ = some v2 := cell_of n1 rfl
   have HN := Lib.hid (rtx_set n1 (.slice av nn cv) (Sto.del t.now k))
   clear hp1 hf1 b1 n1
   go_wp2
   go_ret
   rw [HX.out]
   exact ⟨rfl, _, HN.out, HP1.out.touch ((Touch.refl (· = u) w1).setCell _ (fun _ => rfl)) (fun g hg e => by rcases HF1.out with h | h; exact HOFF.out g (h ▸ hg) e; have := h g hg; omega), HF1.out, (Touch.of_below HB1.out).setCell _ (fun _ => rfl)⟩
set_option maxHeartbeats 1000000 in
theorem rabort_any (z u : Nat) (v1 v2 : Value) (t : TS) (w : World) (h : w.heap[u]? = some (rtxBlock z v1 v2 t)) :
  Calls Tryz.prog 137 #[.pointer (some ⟨u, 0, none⟩)] w fun e w' => e = .returned (.tuple #[]) ∧ w'.heap[u]? = some (rtxBlock z v1 (.slice none 0 0) t.ends) ∧ Touch (· = u) w w' := by
 have c4 : w.cell? ⟨u, 4, none⟩ = some (.bool t.over) := cell_of h rfl
 have c2 : w.cell? ⟨u, 2, none⟩ = some v2 := cell_of h rfl
 have cf4 := free_of h 4
 have cf2 := free_of h 2
 have HK : Hid (((w.setCell ⟨u, 4, none⟩ (.bool true)).setCell ⟨u, 2, none⟩ (.slice none 0 0)).heap[u]? = some (rtxBlock z v1 (.slice none 0 0) t.ends)) := Lib.hid (by
  have := heap_set (i := 2) (.slice none 0 0) (heap_set (i := 4) (.bool true) h)
  simpa [rtxBlock, TS.ends] using this)
 clear h
 go_enter Tryz.func137, Tryz.ntmps137
 go_wp2
 go_end0
 exact ⟨rfl, HK.out, ((Touch.refl (· = u) w).setCell _ (fun _ => rfl)).setCell _ (fun _ => rfl)⟩
end Go.Proofs.YtpjpknndfhablaaGreat
namespace Go.Proofs.YtpjpknndfhablaaGreat
open Go.RowKit
namespace Sto
theorem changes_del {a b : Pairs} {i k : Nat} {p : S × S} (hp : a[i]? = some p) (h : b.length ≤ k ∨ ∃ q, b[k]? = some q ∧ lt p.1 q.1 = true) : changes (a.drop i) (b.drop k) = ⟨false, p.1, []⟩ :: changes (a.drop (i + 1)) (b.drop k) := by
 obtain ⟨hi, rfl⟩ := List.getElem?_eq_some_iff.1 hp
 rw [List.drop_eq_getElem_cons hi]
 rcases h with h | ⟨q, hq, hl⟩
 ·rw [List.drop_of_length_le h, changes]
 ·obtain ⟨hk, rfl⟩ := List.getElem?_eq_some_iff.1 hq
  rw [List.drop_eq_getElem_cons hk, changes, if_pos hl]
theorem changes_put {a b : Pairs} {i k : Nat} {q : S × S} (hq : b[k]? = some q) (h : a.length ≤ i ∨ ∃ p, a[i]? = some p ∧ lt p.1 q.1 = false ∧ lt q.1 p.1 = true) : changes (a.drop i) (b.drop k) = ⟨true, q.1, q.2⟩ :: changes (a.drop i) (b.drop (k + 1)) := by
 obtain ⟨hk, rfl⟩ := List.getElem?_eq_some_iff.1 hq
 rw [List.drop_eq_getElem_cons hk]
 rcases h with h | ⟨p, hp, hl, hl'⟩
 ·rw [List.drop_of_length_le h, changes]
 ·obtain ⟨hi, rfl⟩ := List.getElem?_eq_some_iff.1 hp
  rw [List.drop_eq_getElem_cons hi, changes, if_neg (by rw [hl]; exact Bool.false_ne_true), if_pos hl']
theorem changes_both {a b : Pairs} {i k : Nat} {p q : S × S} (hp : a[i]? = some p) (hq : b[k]? = some q) (hl : lt p.1 q.1 = false) (hl' : lt q.1 p.1 = false) : changes (a.drop i) (b.drop k) = if p.2 = q.2 then changes (a.drop (i + 1)) (b.drop (k + 1)) else ⟨true, q.1, q.2⟩ :: changes (a.drop (i + 1)) (b.drop (k + 1)) := by
 obtain ⟨hi, rfl⟩ := List.getElem?_eq_some_iff.1 hp
 obtain ⟨hk, rfl⟩ := List.getElem?_eq_some_iff.1 hq
 rw [List.drop_eq_getElem_cons hi, List.drop_eq_getElem_cons hk, changes, if_neg (by rw [hl]; exact Bool.false_ne_true), if_neg (by rw [hl']; exact Bool.false_ne_true)]
end Sto
theorem pairs_cells {w : World} {v : Value} {l : Sto.Pairs} (h : PairsAt w v l) : ∃ ao cap, v = .slice ao l.length cap ∧ l.length ≤ cap ∧ cap ≤ 9223372036854775807 ∧ ∀ w' : World, Below w.heap.size w w' → ∀ (j : Nat) p, l[j]? = some p → ∃ g, ao = some ⟨g, 0, none⟩ ∧ w'.cell? ⟨g, j * 2, none⟩ = some (.string ⟨p.1.toArray⟩) ∧ w'.cell? ⟨g, j * 2 + 1, none⟩ = some (.string ⟨p.2.toArray⟩) := by
 obtain ⟨ao, cap, rfl, hn, hcap, hcell⟩ := h.read
 refine ⟨ao, cap, rfl, hn, hcap, fun w' hbl j p hj => ?_⟩
 obtain ⟨g, h1, _, h3, h4⟩ := hcell j p hj
 exact ⟨g, h1, cell_later hbl h3, cell_later hbl h4⟩
theorem chs_empty (w : World) (base : Nat) (hb : base ≤ w.heap.size) : OwnF (w.alloc (.cells #[] 58)) base 3 (.slice (some ⟨w.heap.size, 0, none⟩) 0 0) 0 (cCells []) := by
 refine ⟨rfl, .inr ⟨w.heap.size, 0, rfl, hb, heap_lt (heap_new w _), Nat.le_refl _, by decide, fun j hj => by omega, fun j u hu => by simp [cCells] at hu⟩⟩
/-- One change more, of which the block g holds the three cells, in a region that draws. -/
theorem wp_append_ch {P : Program} (w : World) {o : Oper} {a : Act} {K : Act → World → Prop} {Q : Exit → Act → World → Prop} (s x : Operand) (t e : TypeId)
  (hinfo : (P.info? e).map (fun i => (i.zero, i.size, i.bytes)) = some (some (.agg #[.bool false, .string ⟨#[]⟩, .string ⟨#[]⟩]), 3, 40)) (ht : P.underlying t = some (.slice e))
  (ho : o.op = .call { callee := .builtin .append, args := #[s, x], argTypes := #[t, t] })
  (base : Nat) (v : Value) (l : List Sto.Ch) (c : Sto.Ch) (g : Nat) (hs : a.eval s = v) (hx : a.eval x = .slice (some ⟨g, 0, none⟩) 1 1) (hown : OwnF w base 3 v l.length (cCells l))
  (hc : ∀ j u, (cCells [c])[j]? = some u → w.cell? ⟨g, j, none⟩ = some u) (hb : l.length + 1 ≤ 3298534883328) (hbase : base ≤ w.heap.size)
  (h : ∀ v' w', OwnF w' base 3 v' (l ++ [c]).length (cCells (l ++ [c])) → w.grownBy w' v.ownBlock → (v'.ownBlock = v.ownBlock ∨ v'.ownBlock = some w.heap.size) → K (a.put o.dst v') w') : o.wp P a w K Q := by
 obtain ⟨i, hi, hz, hsize, hby⟩ := info_parts hinfo
 obtain ⟨v', w', hr, h2, h3, h4⟩ := run_append_ownF (P := P) w base t o.type e i _ 3 40 ht hi hz hsize hby rfl (by decide) v l.length (cCells l) hown ⟨g, 0, none⟩ 1 1 (cCells [c]) rfl (fun j u hj => by rw [addr_add, Nat.zero_add]; exact hc j u hj) (cCells_one _) (by decide) (by unfold maxLen; omega) (by omega) hbase
 unfold Oper.wp execOp
 simp only [ho, resolve, invoke, builtin, Sem.run_bind, Sem.run_pure, Result.andThen_ok, List.map_toArray, List.map_cons, List.map_nil, hs, hx, hr]
 exact h v' w' (by rw [List.length_append, cCells_append]; exact h2) h3 h4
set_option maxHeartbeats 8000000 in
set_option maxRecDepth 100000 in
theorem rchanges_any (va vb : Value) (a b : Sto.Pairs) (w : World) (ha : PairsAt w va a) (hb : PairsAt w vb b) (hl : a.length + b.length ≤ 1099511627776) :
  Calls Tryz.prog 163 #[va, vb] w fun e w' => ∃ v, e = .returned v ∧ ChsAt w' v (Sto.changes a b) ∧ (∀ g, v.ownBlock = some g → w.heap.size ≤ g) ∧ Below w.heap.size w w' := by
 obtain ⟨aa, ca, rfl, ha1, ha2, hca⟩ := pairs_cells ha
 obtain ⟨ab, cb, rfl, hb1, hb2, hcb⟩ := pairs_cells hb
 have HA := Lib.hid hca
 have HBB := Lib.hid hcb
 clear hca hcb ha hb
 go_enter Tryz.func163, Tryz.ntmps163
 go_wp2_with fail
 go_loopw [5, 6, 7] (fun vo i k wr => ∃ (ii kk : Nat) (c : List Sto.Ch), i = .int .i64 ii ∧ k = .int .i64 kk ∧ ii ≤ a.length ∧ kk ≤ b.length ∧ c.length ≤ ii + kk ∧ OwnF wr w.heap.size 3 vo c.length (cCells c) ∧ Sto.changes a b = c ++ Sto.changes (a.drop ii) (b.drop kk) ∧ Below w.heap.size w wr) (fun _ i k _ => (a.length - (intOf i).toNat) + (b.length - (intOf k).toNat))
 case atStart => exact ⟨0, 0, [], rfl, rfl, Nat.zero_le _, Nat.zero_le _, Nat.zero_le _, chs_empty w _ (Nat.le_refl _), by simp, balloc _ _⟩
 case round =>
  obtain ⟨i, k, c, rfl, rfl, hi, hk, hcl, hown, heq, hbl⟩ := hrel
  have HO := Lib.hid hown
  have HE := Lib.hid heq
  have HB := Lib.hid hbl
  clear hown heq hbl
  have hcb : c.length + 1 ≤ 3298534883328 := by omega
  by_cases hil : i < a.length
  ·have hii : ((i : Int) == (a.length : Int)) = false := by rw [beq_eq_false_iff_ne]; omega
   obtain ⟨⟨pk, pv⟩, hp⟩ : ∃ p, a[i]? = some p := ⟨_, List.getElem?_eq_getElem hil⟩
   by_cases hkl : k < b.length
   ·have hkk : ((k : Int) == (b.length : Int)) = false := by rw [beq_eq_false_iff_ne]; omega
    obtain ⟨⟨qk, qv⟩, hq⟩ : ∃ p, b[k]? = some p := ⟨_, List.getElem?_eq_getElem hkl⟩
    have HDEL := Lib.hid (fun h : Sto.lt pk qk = true => Sto.changes_del (b := b) (k := k) hp (.inr ⟨_, hq, h⟩))
    have HPUT := Lib.hid (fun (h : Sto.lt pk qk = false) (h' : Sto.lt qk pk = true) => Sto.changes_put (a := a) (i := i) hq (.inr ⟨_, hp, h, h'⟩))
    have HBOTH := Lib.hid (fun (h : Sto.lt pk qk = false) (h' : Sto.lt qk pk = false) => Sto.changes_both hp hq h h')
    obtain ⟨ga, rfl, a0, a1⟩ := HA.out wr HB.out i _ hp
    obtain ⟨gb, rfl, b0, b1⟩ := HBB.out wr HB.out k _ hq
    simp only at a0 a1 b0 b1
    have HCA : Hid (∀ w' : World, Below wr.heap.size wr w' → w'.cell? ⟨ga, i * 2, none⟩ = some (.string ⟨pk.toArray⟩)) := Lib.hid (fun w' h => cell_later h a0)
    have HCB : Hid (∀ w' : World, Below w.heap.size w w' → w'.cell? ⟨gb, k * 2, none⟩ = some (.string ⟨qk.toArray⟩) ∧ w'.cell? ⟨gb, k * 2 + 1, none⟩ = some (.string ⟨qv.toArray⟩)) := Lib.hid (fun w' h => by obtain ⟨g, e, b0', b1'⟩ := HBB.out w' h k _ hq; cases e; exact ⟨b0', b1'⟩)
    have HCV : Hid (∀ w' : World, Below wr.heap.size wr w' → w'.cell? ⟨ga, i * 2 + 1, none⟩ = some (.string ⟨pv.toArray⟩)) := Lib.hid (fun w' h => cell_later h a1)
    clear hp hq
    cases hlt : Sto.lt pk qk with
    | true =>
     have hle : Op.bytesLess pk qk = true := hlt
     have HN := Lib.hid (HDEL.out hlt)
     clear HDEL HPUT HBOTH hlt
     go_wp2_with fail
     go_quiet (fail)
     rename_i nq
     have BQ := Lib.hid (below_drewN (Below.refl wr.heap.size wr) nq)
     obtain ⟨wq, hwq⟩ : ∃ W, wr.drewN nq = W := ⟨_, rfl⟩
     rw [hwq] at BQ ⊢
     clear hwq
     have e0 := HCA.out wq BQ.out
     go_wp2_with (at_builtin; refine wpList_append_ch _ rfl (.tmp 72) (.tmp 79) 48 58 chInfo11 Tryz.underlying48 rfl w.heap.size _ c ⟨false, pk, []⟩ wq.heap.size rfl rfl (HO.out.touch (S := fun _ => False) (.of_below (bthen BQ.out (balloc wq _))) (fun _ _ h => h)) (fun i u hi => cell_of (heap_new wq _) (by simpa [cCells] using hi)) hcb (bthen (bthen HB.out BQ.out) (balloc wq _)).size ?_; intro v' w' ho' hgr' hbk'; have HO2 := Lib.hid ho'; have HB2 := Lib.hid (below_grown (bthen (bthen HB.out BQ.out) (balloc wq _)) (bthen (bthen HB.out BQ.out) (balloc wq _)).size hgr' (fun k hk => (HO.out.lt k hk).1)); clear ho' hgr' hbk')
     go_roundw
     all_goals first
      | (simp only [intOf]; omega)
      | exact ⟨i + 1, k, c ++ [⟨false, pk, []⟩], by go_num, by go_num, by omega, by omega, by simp; omega, HO2.out, by rw [HE.out, HN.out, List.append_assoc]; rfl, HB2.out⟩
    | false =>
     have hle : Op.bytesLess pk qk = false := hlt
     cases hlt' : Sto.lt qk pk with
     | true =>
      have hle' : Op.bytesLess qk pk = true := hlt'
      have HN := Lib.hid (HPUT.out hlt hlt')
      clear HDEL HPUT HBOTH hlt hlt'
      go_wp2_with fail
      go_quiet (fail)
      rename_i nq
      have BQ := Lib.hid (below_drewN (Below.refl wr.heap.size wr) nq)
      obtain ⟨wq, hwq⟩ : ∃ W, wr.drewN nq = W := ⟨_, rfl⟩
      rw [hwq] at BQ ⊢
      clear hwq
      have a0 := HCA.out wq BQ.out
      have b0 := (HCB.out wq (bthen HB.out BQ.out)).1
      go_wp2_with fail
      go_quiet (fail)

      have BS0 := Lib.hid (below_drewN (Below.refl wq.heap.size wq) nq)
      obtain ⟨ws, hws⟩ : ∃ W, wq.drewN nq = W := ⟨_, rfl⟩
      rw [hws] at BS0 ⊢
      clear hws
      have BS := Lib.hid (bthen BQ.out BS0.out)
      go_wp2_with fail
      obtain ⟨e0, e1⟩ := HCB.out ws (bthen HB.out BS.out)
      have hS0 : ws.drew.cell? ⟨gb, k * 2, none⟩ = some (.string ⟨qk.toArray⟩) ∧ ws.drew.cell? ⟨gb, k * 2 + 1, none⟩ = some (.string ⟨qv.toArray⟩) := ⟨e0, e1⟩
      refine wp_region_heldL (S := fun w' => w'.cell? ⟨gb, k * 2, none⟩ = some (.string ⟨qk.toArray⟩) ∧ w'.cell? ⟨gb, k * 2 + 1, none⟩ = some (.string ⟨qv.toArray⟩)) (by kernel_rfl) ?_
      refine planned [0, 1, 2, 3, 4, 5, 6, 7, 8, 9, 10, 11] ?_
      iterate 12 (refine planned_take (v := ?_) rfl (by kernel_rfl) (by kernel_rfl) (by kernel_rfl) (fun _ _ _ h => h) ?_ (by assumption) ?_; rotate_left; (focus (first | (refine Or.inr ⟨by rfl, ?_⟩; with_reducible rfl) | (refine Or.inl ⟨by rfl, ?_⟩; (intro w hSw; (try dsimp only at hSw); go_simp); try with_reducible rfl))); try simp only [Act.put, List.setIfInBounds_toArray, List.set_cons_zero, List.set_cons_succ])
      refine planned_end ?_
      refine wpAnyH_oneL (i := 12) rfl (by kernel_rfl) ?_
      intro K hK
      rw [if_pos (by rfl)]
      go_simp
      obtain ⟨wa, hwa⟩ : ∃ W, (ws.alloc (.cells #[.bool true, .string ⟨qk.toArray⟩, .string ⟨qv.toArray⟩] 58)).drew = W := ⟨_, rfl⟩
      have hba := (balloc ws (.cells #[.bool true, .string ⟨qk.toArray⟩, .string ⟨qv.toArray⟩] 58)).drew
      have hna : (ws.alloc (.cells #[.bool true, .string ⟨qk.toArray⟩, .string ⟨qv.toArray⟩] 58)).drew.heap[ws.heap.size]? = some (.cells #[.bool true, .string ⟨qk.toArray⟩, .string ⟨qv.toArray⟩] 58) := heap_new ws (.cells #[.bool true, .string ⟨qk.toArray⟩, .string ⟨qv.toArray⟩] 58)
      rw [hwa] at hba hna ⊢
      have BA := Lib.hid (bthen BS.out hba)
      have NA := Lib.hid hna
      clear hba hna hwa
      refine hK _ _ (HCB.out wa (bthen HB.out BA.out)) ?_
      clear hK K
      try simp only [Act.put, List.setIfInBounds_toArray, List.set_cons_zero, List.set_cons_succ]
      refine wpAnyH_oneL (i := 13) rfl (by kernel_rfl) ?_
      intro K hK
      rw [if_pos (by rfl)]
      refine wp_append_ch wa (.tmp 101) (.tmp 113) 48 58 chInfo11 Tryz.underlying48 rfl w.heap.size _ c ⟨true, qk, qv⟩ ws.heap.size rfl rfl (HO.out.touch (S := fun _ => False) (.of_below BA.out) (fun _ _ h => h)) (fun i u hi => cell_of NA.out (by simpa [cCells] using hi)) hcb (bthen HB.out BA.out).size ?_
      intro v' w2 ho' hgr' _
      have HO2 := Lib.hid ho'
      have HB2 := Lib.hid (below_grown (bthen HB.out BA.out) (bthen HB.out BA.out).size hgr' (fun k hk => (HO.out.lt k hk).1))
      clear ho' hgr'
      refine hK _ _ (HCB.out w2 HB2.out) ?_
      clear hK K
      try simp only [Act.put, List.setIfInBounds_toArray, List.set_cons_zero, List.set_cons_succ]
      refine wpAnyH_oneL (i := 14) rfl (by kernel_rfl) ?_
      intro K hK
      rw [if_pos (by rfl)]
      go_simp
      refine hK _ _ (HCB.out w2 HB2.out) ?_
      clear hK K
      try simp only [Act.put, List.setIfInBounds_toArray, List.set_cons_zero, List.set_cons_succ]
      refine wpAnyH_done (by kernel_rfl) ?_ _
      go_wp2
      go_roundw
      all_goals first
       | (simp only [intOf]; omega)
       | (exfalso; exact hvv (by assumption))
       | (exfalso; simp_all; done)
       | exact ⟨i, k + 1, c ++ [⟨true, qk, qv⟩], by go_num, by go_num, by omega, by omega, by simp; omega, HO2.out, by rw [HE.out, HN.out, List.append_assoc]; rfl, HB2.out⟩
     | false =>
      have hle' : Op.bytesLess qk pk = false := hlt'
      have HN := Lib.hid (HBOTH.out hlt hlt')
      clear HDEL HPUT HBOTH hlt hlt'
      go_wp2_with fail
      go_quiet (fail)
      rename_i nq
      have BQ := Lib.hid (below_drewN (Below.refl wr.heap.size wr) nq)
      obtain ⟨wq, hwq⟩ : ∃ W, wr.drewN nq = W := ⟨_, rfl⟩
      rw [hwq] at BQ ⊢
      clear hwq
      have a0 := HCA.out wq BQ.out
      have b0 := (HCB.out wq (bthen HB.out BQ.out)).1
      go_wp2_with fail
      go_quiet (fail)

      have BS0 := Lib.hid (below_drewN (Below.refl wq.heap.size wq) nq)
      obtain ⟨ws, hws⟩ : ∃ W, wq.drewN nq = W := ⟨_, rfl⟩
      rw [hws] at BS0 ⊢
      clear hws
      have BS := Lib.hid (bthen BQ.out BS0.out)
      have av := HCV.out ws BS.out
      have bv := (HCB.out ws (bthen HB.out BS.out)).2
      by_cases hvv : pv = qv
      ·have hvb : (pv != qv) = false := by simp [hvv]
       go_wp2_with fail
       go_quiet (fail)

       have BU0 := Lib.hid (below_drewN (Below.refl ws.heap.size ws) nq)
       obtain ⟨wu, hwu⟩ : ∃ W, ws.drewN nq = W := ⟨_, rfl⟩
       rw [hwu] at BU0 ⊢
       clear hwu
       have BU := Lib.hid (bthen HB.out (bthen BS.out BU0.out))
       have HOU := Lib.hid (HO.out.touch (S := fun _ => False) (.of_below (bthen BS.out BU0.out)) (fun _ _ h => h))
       go_wp2_with fail
       go_roundw
       all_goals first
        | (simp only [intOf]; omega)
        | exact ⟨i + 1, k + 1, c, by go_num, by go_num, by omega, by omega, by omega, HOU.out, by rw [HE.out, HN.out, if_pos hvv], BU.out⟩
      ·have hvb : (pv != qv) = true := by simp [hvv]
       rw [if_neg hvv] at HN
       go_wp2_with fail
       go_quiet (fail)

       have BU0 := Lib.hid (below_drewN (Below.refl ws.heap.size ws) nq)
       obtain ⟨wu, hwu⟩ : ∃ W, ws.drewN nq = W := ⟨_, rfl⟩
       rw [hwu] at BU0 ⊢
       clear hwu
       have BU := Lib.hid (bthen BS.out BU0.out)
       go_wp2_with fail
       obtain ⟨e0, e1⟩ := HCB.out wu (bthen HB.out BU.out)
       have hS0 : wu.drew.cell? ⟨gb, k * 2, none⟩ = some (.string ⟨qk.toArray⟩) ∧ wu.drew.cell? ⟨gb, k * 2 + 1, none⟩ = some (.string ⟨qv.toArray⟩) := ⟨e0, e1⟩
       refine wp_region_heldL (S := fun w' => w'.cell? ⟨gb, k * 2, none⟩ = some (.string ⟨qk.toArray⟩) ∧ w'.cell? ⟨gb, k * 2 + 1, none⟩ = some (.string ⟨qv.toArray⟩)) (by kernel_rfl) ?_
       refine planned [0, 1, 2, 3, 4, 5, 6, 7, 8, 9, 10, 11] ?_
       iterate 12 (refine planned_take (v := ?_) rfl (by kernel_rfl) (by kernel_rfl) (by kernel_rfl) (fun _ _ _ h => h) ?_ (by assumption) ?_; rotate_left; (focus (first | (refine Or.inr ⟨by rfl, ?_⟩; with_reducible rfl) | (refine Or.inl ⟨by rfl, ?_⟩; (intro w hSw; (try dsimp only at hSw); go_simp); try with_reducible rfl))); try simp only [Act.put, List.setIfInBounds_toArray, List.set_cons_zero, List.set_cons_succ])
       refine planned_end ?_
       refine wpAnyH_oneL (i := 12) rfl (by kernel_rfl) ?_
       intro K hK
       rw [if_pos (by rfl)]
       go_simp
       obtain ⟨wa, hwa⟩ : ∃ W, (wu.alloc (.cells #[.bool true, .string ⟨qk.toArray⟩, .string ⟨qv.toArray⟩] 58)).drew = W := ⟨_, rfl⟩
       have hba := (balloc wu (.cells #[.bool true, .string ⟨qk.toArray⟩, .string ⟨qv.toArray⟩] 58)).drew
       have hna : (wu.alloc (.cells #[.bool true, .string ⟨qk.toArray⟩, .string ⟨qv.toArray⟩] 58)).drew.heap[wu.heap.size]? = some (.cells #[.bool true, .string ⟨qk.toArray⟩, .string ⟨qv.toArray⟩] 58) := heap_new wu (.cells #[.bool true, .string ⟨qk.toArray⟩, .string ⟨qv.toArray⟩] 58)
       rw [hwa] at hba hna ⊢
       have BA := Lib.hid (bthen BU.out hba)
       have NA := Lib.hid hna
       clear hba hna hwa
       refine hK _ _ (HCB.out wa (bthen HB.out BA.out)) ?_
       clear hK K
       try simp only [Act.put, List.setIfInBounds_toArray, List.set_cons_zero, List.set_cons_succ]
       refine wpAnyH_oneL (i := 13) rfl (by kernel_rfl) ?_
       intro K hK
       rw [if_pos (by rfl)]
       refine wp_append_ch wa (.tmp 30) (.tmp 42) 48 58 chInfo11 Tryz.underlying48 rfl w.heap.size _ c ⟨true, qk, qv⟩ wu.heap.size rfl rfl (HO.out.touch (S := fun _ => False) (.of_below BA.out) (fun _ _ h => h)) (fun i u hi => cell_of NA.out (by simpa [cCells] using hi)) hcb (bthen HB.out BA.out).size ?_
       intro v' w2 ho' hgr' _
       have HO2 := Lib.hid ho'
       have HB2 := Lib.hid (below_grown (bthen HB.out BA.out) (bthen HB.out BA.out).size hgr' (fun k hk => (HO.out.lt k hk).1))
       clear ho' hgr'
       refine hK _ _ (HCB.out w2 HB2.out) ?_
       clear hK K
       try simp only [Act.put, List.setIfInBounds_toArray, List.set_cons_zero, List.set_cons_succ]
       refine wpAnyH_oneL (i := 14) rfl (by kernel_rfl) ?_
       intro K hK
       rw [if_pos (by rfl)]
       go_simp
       refine hK _ _ (HCB.out w2 HB2.out) ?_
       clear hK K
       try simp only [Act.put, List.setIfInBounds_toArray, List.set_cons_zero, List.set_cons_succ]
       refine wpAnyH_done (by kernel_rfl) ?_ _
       go_wp2
       go_roundw
       all_goals first
        | (simp only [intOf]; omega)
        | (exfalso; exact hvv (by assumption))
        | (exfalso; simp_all; done)
        | exact ⟨i + 1, k + 1, c ++ [⟨true, qk, qv⟩], by go_num, by go_num, by omega, by omega, by simp; omega, HO2.out, by rw [HE.out, HN.out, List.append_assoc]; rfl, HB2.out⟩
   ·have hkk : ((k : Int) == (b.length : Int)) = true := by rw [beq_iff_eq]; omega
    have HN := Lib.hid (Sto.changes_del (b := b) (k := k) hp (.inl (by omega)))
    obtain ⟨ga, rfl, a0, a1⟩ := HA.out wr HB.out i _ hp
    simp only at a0 a1
    have HCA : Hid (∀ w' : World, Below wr.heap.size wr w' → w'.cell? ⟨ga, i * 2, none⟩ = some (.string ⟨pk.toArray⟩)) := Lib.hid (fun w' h => cell_later h a0)
    clear hp a1
    go_wp2_with fail
    go_quiet (fail)
    rename_i nq
    have BQ := Lib.hid (below_drewN (Below.refl wr.heap.size wr) nq)
    obtain ⟨wq, hwq⟩ : ∃ W, wr.drewN nq = W := ⟨_, rfl⟩
    rw [hwq] at BQ ⊢
    clear hwq
    have e0 := HCA.out wq BQ.out
    go_wp2_with (at_builtin; refine wpList_append_ch _ rfl (.tmp 72) (.tmp 79) 48 58 chInfo11 Tryz.underlying48 rfl w.heap.size _ c ⟨false, pk, []⟩ wq.heap.size rfl rfl (HO.out.touch (S := fun _ => False) (.of_below (bthen BQ.out (balloc wq _))) (fun _ _ h => h)) (fun i u hi => cell_of (heap_new wq _) (by simpa [cCells] using hi)) hcb (bthen (bthen HB.out BQ.out) (balloc wq _)).size ?_; intro v' w' ho' hgr' hbk'; have HO2 := Lib.hid ho'; have HB2 := Lib.hid (below_grown (bthen (bthen HB.out BQ.out) (balloc wq _)) (bthen (bthen HB.out BQ.out) (balloc wq _)).size hgr' (fun k hk => (HO.out.lt k hk).1)); clear ho' hgr' hbk')
    go_roundw
    all_goals first
     | (simp only [intOf]; omega)
     | exact ⟨i + 1, k, c ++ [⟨false, pk, []⟩], by go_num, by go_num, by omega, by omega, by simp; omega, HO2.out, by rw [HE.out, HN.out, List.append_assoc]; rfl, HB2.out⟩
  ·by_cases hkl : k < b.length
   ·have hii : ((i : Int) == (a.length : Int)) = true := by rw [beq_iff_eq]; omega
    have hkk : ((k : Int) == (b.length : Int)) = false := by rw [beq_eq_false_iff_ne]; omega
    obtain ⟨⟨qk, qv⟩, hq⟩ : ∃ p, b[k]? = some p := ⟨_, List.getElem?_eq_getElem hkl⟩
    have HN := Lib.hid (Sto.changes_put (a := a) (i := i) hq (.inl (by omega)))
    obtain ⟨gb, rfl, b0, b1⟩ := HBB.out wr HB.out k _ hq
    simp only at b0 b1
    have HCB : Hid (∀ w' : World, Below w.heap.size w w' → w'.cell? ⟨gb, k * 2, none⟩ = some (.string ⟨qk.toArray⟩) ∧ w'.cell? ⟨gb, k * 2 + 1, none⟩ = some (.string ⟨qv.toArray⟩)) := Lib.hid (fun w' h => by obtain ⟨g, e, b0', b1'⟩ := HBB.out w' h k _ hq; cases e; exact ⟨b0', b1'⟩)
    clear hq
    go_wp2_with fail
    go_quiet (fail)
    rename_i nq
    have BQ := Lib.hid (below_drewN (Below.refl wr.heap.size wr) nq)
    obtain ⟨wq, hwq⟩ : ∃ W, wr.drewN nq = W := ⟨_, rfl⟩
    rw [hwq] at BQ ⊢
    clear hwq
    go_wp2_with fail
    go_quiet (fail)

    have BS0 := Lib.hid (below_drewN (Below.refl wq.heap.size wq) nq)
    obtain ⟨ws, hws⟩ : ∃ W, wq.drewN nq = W := ⟨_, rfl⟩
    rw [hws] at BS0 ⊢
    clear hws
    have BS := Lib.hid (bthen BQ.out BS0.out)
    go_wp2_with fail
    obtain ⟨e0, e1⟩ := HCB.out ws (bthen HB.out BS.out)
    have hS0 : ws.drew.cell? ⟨gb, k * 2, none⟩ = some (.string ⟨qk.toArray⟩) ∧ ws.drew.cell? ⟨gb, k * 2 + 1, none⟩ = some (.string ⟨qv.toArray⟩) := ⟨e0, e1⟩
    refine wp_region_heldL (S := fun w' => w'.cell? ⟨gb, k * 2, none⟩ = some (.string ⟨qk.toArray⟩) ∧ w'.cell? ⟨gb, k * 2 + 1, none⟩ = some (.string ⟨qv.toArray⟩)) (by kernel_rfl) ?_
    refine planned [0, 1, 2, 3, 4, 5, 6, 7, 8, 9, 10, 11] ?_
    iterate 12 (refine planned_take (v := ?_) rfl (by kernel_rfl) (by kernel_rfl) (by kernel_rfl) (fun _ _ _ h => h) ?_ (by assumption) ?_; rotate_left; (focus (first | (refine Or.inr ⟨by rfl, ?_⟩; with_reducible rfl) | (refine Or.inl ⟨by rfl, ?_⟩; (intro w hSw; (try dsimp only at hSw); go_simp); try with_reducible rfl))); try simp only [Act.put, List.setIfInBounds_toArray, List.set_cons_zero, List.set_cons_succ])
    refine planned_end ?_
    refine wpAnyH_oneL (i := 12) rfl (by kernel_rfl) ?_
    intro K hK
    rw [if_pos (by rfl)]
    go_simp
    obtain ⟨wa, hwa⟩ : ∃ W, (ws.alloc (.cells #[.bool true, .string ⟨qk.toArray⟩, .string ⟨qv.toArray⟩] 58)).drew = W := ⟨_, rfl⟩
    have hba := (balloc ws (.cells #[.bool true, .string ⟨qk.toArray⟩, .string ⟨qv.toArray⟩] 58)).drew
    have hna : (ws.alloc (.cells #[.bool true, .string ⟨qk.toArray⟩, .string ⟨qv.toArray⟩] 58)).drew.heap[ws.heap.size]? = some (.cells #[.bool true, .string ⟨qk.toArray⟩, .string ⟨qv.toArray⟩] 58) := heap_new ws (.cells #[.bool true, .string ⟨qk.toArray⟩, .string ⟨qv.toArray⟩] 58)
    rw [hwa] at hba hna ⊢
    have BA := Lib.hid (bthen BS.out hba)
    have NA := Lib.hid hna
    clear hba hna hwa
    refine hK _ _ (HCB.out wa (bthen HB.out BA.out)) ?_
    clear hK K
    try simp only [Act.put, List.setIfInBounds_toArray, List.set_cons_zero, List.set_cons_succ]
    refine wpAnyH_oneL (i := 13) rfl (by kernel_rfl) ?_
    intro K hK
    rw [if_pos (by rfl)]
    refine wp_append_ch wa (.tmp 101) (.tmp 113) 48 58 chInfo11 Tryz.underlying48 rfl w.heap.size _ c ⟨true, qk, qv⟩ ws.heap.size rfl rfl (HO.out.touch (S := fun _ => False) (.of_below BA.out) (fun _ _ h => h)) (fun i u hi => cell_of NA.out (by simpa [cCells] using hi)) hcb (bthen HB.out BA.out).size ?_
    intro v' w2 ho' hgr' _
    have HO2 := Lib.hid ho'
    have HB2 := Lib.hid (below_grown (bthen HB.out BA.out) (bthen HB.out BA.out).size hgr' (fun k hk => (HO.out.lt k hk).1))
    clear ho' hgr'
    refine hK _ _ (HCB.out w2 HB2.out) ?_
    clear hK K
    try simp only [Act.put, List.setIfInBounds_toArray, List.set_cons_zero, List.set_cons_succ]
    refine wpAnyH_oneL (i := 14) rfl (by kernel_rfl) ?_
    intro K hK
    rw [if_pos (by rfl)]
    go_simp
    refine hK _ _ (HCB.out w2 HB2.out) ?_
    clear hK K
    try simp only [Act.put, List.setIfInBounds_toArray, List.set_cons_zero, List.set_cons_succ]
    refine wpAnyH_done (by kernel_rfl) ?_ _
    go_wp2
    go_roundw
    all_goals first
     | (simp only [intOf]; omega)
     | (exfalso; exact hvv (by assumption))
     | (exfalso; simp_all; done)
     | exact ⟨i, k + 1, c ++ [⟨true, qk, qv⟩], by go_num, by go_num, by omega, by omega, by simp; omega, HO2.out, by rw [HE.out, HN.out, List.append_assoc]; rfl, HB2.out⟩
   ·have HZ : Hid (Sto.changes a b = c) := Lib.hid (by rw [HE.out, List.drop_of_length_le (by omega), List.drop_of_length_le (by omega)]; simp [Sto.changes])
    go_wp2_with fail
    go_ret
    exact ⟨_, rfl, by rw [HZ.out]; exact ⟨HO.out.1, HO.out.2.imp id (fun ⟨g, cap, h1, _, h2⟩ => ⟨g, cap, h1, Nat.zero_le _, h2⟩)⟩, fun g hg => (HO.out.lt g hg).1, HB.out⟩
end Go.Proofs.YtpjpknndfhablaaGreat
