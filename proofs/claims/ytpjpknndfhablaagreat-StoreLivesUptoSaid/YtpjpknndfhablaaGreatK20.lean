/- The law's deed on a store: done. Changes that came in, opened, where all that came in is of bulk at most 1048576. Lives that came in: slices of deeds, each with its slice of changes. Lives that came in, opened, where all that came in is of bulk at most 1048576. The log of chapter 10: what the power's going leaves of it is what some beginning of its records made. Plain Lean. -/
import Derived.BigQuiet
import Derived.Test.YtpjpknndfhablaaGreatK5
import Derived.Test.YtpjpknndfhablaaGreatK19
namespace Go.Proofs.YtpjpknndfhablaaGreat
open Go.RowKit
theorem few_fits' {l : Sto.Pairs} (h : Sto.fits l = true) : l.length ≤ 4096 := by
  unfold Sto.fits at h
  simp at h
  omega
/-- Changes that came in: a slice of them is read. -/
structure CsAt (w : World) (ao : Option Addr) (l : List Sto.Ch) : Prop where
  len : l.length ≤ 1048576
  cell : ∀ i o, l[i]? = some o → ∃ b off, ao = some ⟨b, off, none⟩ ∧ b < w.heap.size ∧ w.cell? ⟨b, off + i * 3, none⟩ = some (.bool o.put) ∧ w.cell? ⟨b, off + i * 3 + 1, none⟩ = some (.string ⟨o.key.toArray⟩) ∧ w.cell? ⟨b, off + i * 3 + 2, none⟩ = some (.string ⟨o.value.toArray⟩)
  fits : ∀ o ∈ l, o.key.length ≤ maxLen ∧ o.value.length ≤ maxLen
theorem CsAt.below {w w' : World} {ao : Option Addr} {l : List Sto.Ch} (h : CsAt w ao l) (hb : Below w.heap.size w w') : CsAt w' ao l :=
  ⟨h.len, fun i o hi => by
    obtain ⟨b, off, e, hl, c0, c1, c2⟩ := h.cell i o hi
    exact ⟨b, off, e, Nat.lt_of_lt_of_le hl hb.size, cell_later hb c0, cell_later hb c1, cell_later hb c2⟩, h.fits⟩
theorem Sto.put_len : ∀ (l : Sto.Pairs) (k v : Sto.S), (Sto.put l k v).length ≤ l.length + 1
  | [], k, v => by simp [Sto.put]
  | p :: r, k, v => by
    unfold Sto.put
    have := Sto.put_len r k v
    split
    · simp; omega
    · split
      · simp
      · simp
namespace TS
/-- A change on a transaction. -/
def turn1 (t : TS) (c : Sto.Ch) : TS := if c.put then (t.put c.key c.value).1 else (t.del c.key).1
def turns (t : TS) (l : List Sto.Ch) : TS := l.foldl turn1 t
theorem put_len (t : TS) (k v : Sto.S) : (t.put k v).1.now.length ≤ t.now.length + 1 ∧ (t.put k v).1.was = t.was ∧ (t.put k v).1.turn = t.turn ∧ (t.put k v).1.over = t.over := by
  unfold TS.put
  split
  · exact ⟨Nat.le_succ _, rfl, rfl, rfl⟩
  · split
    · exact ⟨Nat.le_succ _, rfl, rfl, rfl⟩
    · split
      · exact ⟨Nat.le_succ _, rfl, rfl, rfl⟩
      · exact ⟨Sto.put_len t.now k v, rfl, rfl, rfl⟩
theorem del_len (t : TS) (k : Sto.S) : (t.del k).1.now.length ≤ t.now.length + 1 ∧ (t.del k).1.was = t.was ∧ (t.del k).1.turn = t.turn ∧ (t.del k).1.over = t.over := by
  unfold TS.del
  split
  · exact ⟨Nat.le_succ _, rfl, rfl, rfl⟩
  · split
    · exact ⟨Nat.le_succ _, rfl, rfl, rfl⟩
    · exact ⟨Nat.le_succ_of_le (Sto.del_length t.now k), rfl, rfl, rfl⟩
theorem turn1_len (t : TS) (c : Sto.Ch) : (t.turn1 c).now.length ≤ t.now.length + 1 ∧ (t.turn1 c).was = t.was ∧ (t.turn1 c).turn = t.turn ∧ (t.turn1 c).over = t.over := by
  unfold TS.turn1
  cases c.put
  · exact del_len t c.key
  · exact put_len t c.key c.value
theorem turns_snoc (t : TS) (l : List Sto.Ch) (c : Sto.Ch) : t.turns (l ++ [c]) = (t.turns l).turn1 c := by simp [turns]
theorem turns_len : ∀ (l : List Sto.Ch) (t : TS), (t.turns l).now.length ≤ t.now.length + l.length ∧ (t.turns l).was = t.was ∧ (t.turns l).turn = t.turn ∧ (t.turns l).over = t.over
  | [], t => ⟨by simp [turns], rfl, rfl, rfl⟩
  | c :: r, t => by
    obtain ⟨h1, h2, h3, h4⟩ := turn1_len t c
    obtain ⟨a1, a2, a3, a4⟩ := turns_len r (t.turn1 c)
    exact ⟨by show ((t.turn1 c).turns r).now.length ≤ _; rw [List.length_cons]; omega, a2.trans h2, a3.trans h3, a4.trans h4⟩
end TS
theorem check_g {s : SS} {d : DS} : (s.check d).1.l.g ≤ s.l.g + 1 := by
  unfold SS.check
  split
  · exact Nat.le_succ _
  · show (Wal.checkpoint s.l d (Sto.image s.ps)).1.g ≤ _
    unfold Wal.checkpoint
    split
    · exact Nat.le_succ _
    · split
      · exact Nat.le_succ _
      · split
        · exact Nat.le_succ _
        · split
          · exact Nat.le_succ _
          · split
            · exact Nat.le_succ _
            · exact Nat.le_refl _
theorem wappend_g {l : Wal.LS} {d : DS} {r : List UInt8} : (Wal.append l d r).1.g = l.g := by
  unfold Wal.append
  split
  · rfl
  · split
    · rfl
    · split
      · rfl
      · split <;> rfl
theorem adding_g {s : SS} {d : DS} {r : List UInt8} {m : Sto.Pairs} : (s.adding d r m).1.l.g = s.l.g := by
  unfold SS.adding
  split <;> exact wappend_g
theorem making_g {s : SS} {d : DS} {r : List UInt8} : (s.making d r).1.l.g ≤ s.l.g + 1 := by
  unfold SS.making
  split
  · exact check_g
  · exact Nat.le_succ _
theorem commit_g {s : SS} {t : TS} {d : DS} : (s.commit t d).1.l.g ≤ s.l.g + 1 := by
  unfold SS.commit
  split
  · exact Nat.le_succ _
  · split
    · exact Nat.le_succ _
    · split
      · exact Nat.le_succ _
      · split
        · exact Nat.le_succ _
        · split
          · exact Nat.le_succ _
          · split
            · exact Nat.le_succ _
            · unfold SS.taking
              split
              · exact making_g
              · rw [adding_g]; exact making_g
/-- A deed's end: perhaps a sync, perhaps a checkpoint. -/
def SS.deed2 (p : Sto.Pairs) (e : Int) (s : SS) (d : DS) (th : Int) : Sto.Pairs × Int × SS × DS :=
  if e = 0 ∧ th = 1 then (p, (s.sync d).2.2, (s.sync d).1, (s.sync d).2.1)
  else if e = 0 ∧ th = 2 then (p, (s.check d).2.2, (s.check d).1, (s.check d).2.1)
  else (p, e, s, d)
/-- A deed: what is told, and what is left. -/
def SS.deed (s : SS) (d : DS) (l : List Sto.Ch) (th : Int) : Sto.Pairs × Int × SS × DS :=
  SS.deed2 (if (s.commit (s.begin_.turns l) d).2.2 ≠ 0 ∧ (s.commit (s.begin_.turns l) d).2.2 ≠ 2 then Sto.scan (s.commit (s.begin_.turns l) d).1.ps [] 99999 else Sto.scan (s.begin_.turns l).now [] 99999)
    (if (s.commit (s.begin_.turns l) d).2.2 = 2 then 2 else 0) (s.commit (s.begin_.turns l) d).1 (s.commit (s.begin_.turns l) d).2.1 th
/-- How many rows are counted behind a call that may have died. -/
theorem Sc.count {w : World} {F : Nat → Prop} {x c : Nat} {s : SS} {d d0 : DS} {m : Nat} {ts : List (Nat × TS)} (h : Sc w F x c s d m ts) (h0 : d.dead = true → d0.dead = false → Sc w F x c s d 0 ts) : ∃ n, n ≤ m ∧ Sc w F x c s d n ts ∧ (d.dead = true → d0.dead = false → n = 0) := by
  by_cases hc : d.dead = true ∧ d0.dead = false
  · exact ⟨0, Nat.zero_le _, h0 hc.1 hc.2, fun _ _ => rfl⟩
  · exact ⟨m, Nat.le_refl _, h, fun a b => absurd ⟨a, b⟩ hc⟩
theorem last_get (ts : List (Nat × TS)) (p : Nat × TS) : (ts ++ [p])[ts.length]? = some p := by simp
theorem last_set (ts : List (Nat × TS)) (p q : Nat × TS) : (ts ++ [p]).set ts.length q = ts ++ [q] := by simp
theorem tx_few {w : World} {F : Nat → Prop} {x c : Nat} {s : SS} {d : DS} {m : Nat} {ts : List (Nat × TS)} (h : Sc w F x c s d m ts) {l : List Sto.Ch} (hl : l.length ≤ 1048576) (j : Nat) : (s.begin_.turns (l.take j)).now.length ≤ 2097152 ∧ (s.begin_.turns (l.take j)).was.length ≤ 4096 := by
  obtain ⟨h1, h2, _, _⟩ := TS.turns_len (l.take j) s.begin_
  have h3 := few_fits' h.good.2.2
  rw [h2]
  have h4 : (l.take j).length ≤ l.length := by rw [List.length_take]; omega
  have h5 : s.begin_.now.length = s.ps.length := rfl
  have h6 : s.begin_.was.length = s.ps.length := rfl
  omega
set_option maxHeartbeats 4000000 in
set_option maxRecDepth 100000 in
theorem done11_any (w0 w : World) (F : Nat → Prop) (x c : Nat) (s : SS) (d : DS) (m : Nat) (ts : List (Nat × TS)) (h : Sc w F x c s d m ts) (hs : Since w0 w F) (ao : Option Addr) (ca : Nat) (l : List Sto.Ch) (hl : CsAt w0 ao l) (th : Int)
    (hm : m < 4000000000000) (hlg : s.l.g ≤ 4611686018427387903) (hln : s.l.n ≤ 4611686018427387903) (hturn : s.turn ≤ 4611686018427387903) :
    Calls Tryz.prog 22 #[.pointer (some ⟨x, 0, none⟩), .agg #[.slice ao l.length ca, .int .i64 th]] w fun e w' => ∃ v F' y t, e = .returned (.tuple #[v, .bool (th == 1 || th == 2), .int .i64 (s.deed d l th).2.1]) ∧ KeptP w' F' v (s.deed d l th).1 ∧ (∀ g, v.ownBlock = some g → w.heap.size ≤ g) ∧ Sc w' F' x c (s.deed d l th).2.2.1 (s.deed d l th).2.2.2 (m + 3) (ts ++ [(y, t)]) ∧ STurn w w' F F' ∧
      ((s.deed d l th).2.2.2.dead = true → d.dead = false → ∃ n, n ≤ 1 ∧ Sc w' F' x c (s.deed d l th).2.2.1 (s.deed d l th).2.2.2 n (ts ++ [(y, t)])) := by
  have HH := Lib.hid h
  have HSI := Lib.hid hs
  have HL := Lib.hid hl
  have hlen := hl.len
  clear h hs hl
  have b1 := balloc w (.cells #[.slice ao l.length ca, .int .i64 th] 54)
  have n1 := heap_new w (.cells #[.slice ao l.length ca, .int .i64 th] 54)
  obtain ⟨B, hB⟩ : ∃ B, w.heap.size = B := ⟨_, rfl⟩
  obtain ⟨w1, hw1⟩ : ∃ W, w.alloc (.cells #[.slice ao l.length ca, .int .i64 th] 54) = W := ⟨_, rfl⟩
  rw [hw1] at b1 n1
  rw [hB] at n1
  have HB1 := Lib.hid b1
  have HK1 : Hid (Kept w1 F B (.cells #[.slice ao l.length ca, .int .i64 th] 54 (0, 0))) := Lib.hid ⟨n1, fun e => by have := HH.out.lt B e; omega⟩
  have H1 := Lib.hid (HH.out.below b1)
  clear b1 n1
  have HBEG := Lib.hid (begin_sc H1.out)
  go_enter Tryz.func22, Tryz.ntmps22
  go_wp2_with fail
  clear hw1 hB
  refine HBEG.out.mono ?_
  rintro e w2 ⟨y, F2, rfl, h2, t2⟩
  have H2 := Lib.hid h2
  have HT2 := Lib.hid ((STurn.below (F := F) HB1.out).trans t2)
  have HK2 := Lib.hid (HK1.out.turn t2)
  clear h2 t2 HBEG HK1 H1
  go_wp2_with fail
  go_loopw [8] (fun i wr => ∃ (j : Nat) (F' : Nat → Prop), i = .int .i64 j ∧ j ≤ l.length ∧ Sc wr F' x c s d m (ts ++ [(y, s.begin_.turns (l.take j))]) ∧ STurn w wr F F' ∧ Kept wr F' B (.cells #[.slice ao l.length ca, .int .i64 th] 54 (0, 0))) (fun i _ => l.length - (intOf i).toNat)
  case atStart => exact ⟨0, F2, rfl, Nat.zero_le _, H2.out, HT2.out, HK2.out⟩
  case round =>
    obtain ⟨j, F3, rfl, hj, h3, t3, k3⟩ := hrel
    have H3 := Lib.hid h3
    have HT3 := Lib.hid t3
    have HK3 := Lib.hid k3
    obtain ⟨q0, q1, _, _⟩ := cells2 k3.blk
    clear h3 t3 k3
    by_cases hlt : j < l.length
    · obtain ⟨⟨pu, ky, vl⟩, hch⟩ : ∃ x, l[j]? = some x := ⟨_, List.getElem?_eq_getElem hlt⟩
      obtain ⟨g, off, rfl, hg, a0, a1, a2⟩ := (HL.out.below (HSI.out.turn HT3.out).old).cell j _ hch
      simp only at a0 a1 a2
      have HTK : Hid (s.begin_.turns (l.take (j + 1)) = (s.begin_.turns (l.take j)).turn1 ⟨pu, ky, vl⟩) := Lib.hid (by rw [List.take_add_one, hch]; exact TS.turns_snoc _ _ _)
      have HFI := Lib.hid (HL.out.fits _ (List.mem_of_getElem? hch))
      clear hch
      cases pu with
      | true =>
        go_wp2_with fail
        have ba := balloc wr (.cells #[.bool true, .string ⟨ky.toArray⟩, .string ⟨vl.toArray⟩] 58)
        have HA := Lib.hid (H3.out.below ba)
        have HTA := Lib.hid (HT3.out.trans (STurn.below ba))
        have HKA := Lib.hid (HK3.out.below ba)
        clear ba
        refine (put_sc HA.out (last_get ts _) ky vl HFI.out.1 HFI.out.2 (by have := (tx_few H3.out hlen j).1; unfold maxLen; omega)).mono ?_
        rintro e w5 ⟨rfl, F5, h5, t5⟩
        have H5 : Hid (Sc w5 F5 x c s d m (ts ++ [(y, s.begin_.turns (l.take (j + 1)))])) := Lib.hid (by rw [last_set] at h5; rw [HTK.out]; exact h5)
        have HT5 := Lib.hid (HTA.out.trans t5)
        have HK5 := Lib.hid (HKA.out.turn t5)
        clear h5 t5
        go_wp2_with fail
        go_roundw
        all_goals first
          | (simp [intOf]; omega)
          | exact ⟨j + 1, F5, by go_num, by omega, H5.out, HT5.out, HK5.out⟩
      | false =>
        go_wp2_with fail
        have ba := balloc wr (.cells #[.bool false, .string ⟨ky.toArray⟩, .string ⟨vl.toArray⟩] 58)
        have HA := Lib.hid (H3.out.below ba)
        have HTA := Lib.hid (HT3.out.trans (STurn.below ba))
        have HKA := Lib.hid (HK3.out.below ba)
        clear ba
        refine (del_sc HA.out (last_get ts _) ky HFI.out.1).mono ?_
        rintro e w5 ⟨rfl, F5, h5, t5⟩
        have H5 : Hid (Sc w5 F5 x c s d m (ts ++ [(y, s.begin_.turns (l.take (j + 1)))])) := Lib.hid (by rw [last_set] at h5; rw [HTK.out]; exact h5)
        have HT5 := Lib.hid (HTA.out.trans t5)
        have HK5 := Lib.hid (HKA.out.turn t5)
        clear h5 t5
        go_wp2_with fail
        go_roundw
        all_goals first
          | (simp [intOf]; omega)
          | exact ⟨j + 1, F5, by go_num, by omega, H5.out, HT5.out, HK5.out⟩
    · have hjl : j = l.length := by omega
      have H4 : Hid (Sc wr F3 x c s d m (ts ++ [(y, s.begin_.turns l)])) := Lib.hid (by have := H3.out; rw [hjl, List.take_length] at this; exact this)
      have hjb : ¬ (j : Int) < l.length := by omega
      have hfew := tx_few H3.out hlen l.length
      rw [List.take_length] at hfew
      clear hjl H3
      go_wp2_with fail
      obtain ⟨T, hT⟩ : ∃ T, s.begin_.turns l = T := ⟨_, rfl⟩
      have HTT := Lib.hid hT
      rw [hT] at H4 hfew
      clear hT
      refine (txscan_sc H4.out (last_get ts _) [] 99999 (by omega) (by decide) (by decide)).mono ?_
      rintro e w6 ⟨v6, rfl, p6, f6, b6⟩
      have H6 := Lib.hid (H4.out.below b6)
      have HK6 := Lib.hid (HK3.out.below b6)
      have HT6 := Lib.hid (HT3.out.trans (STurn.below b6))
      have HFv6 : Hid (∀ g, v6.ownBlock = some g → w.heap.size ≤ g) := Lib.hid (fun g hg => Nat.le_trans HT3.out.1.size (f6 g hg))
      have HV6 : Hid (KeptP w6 F3 v6 (Sto.scan T.now [] 99999)) := Lib.hid ⟨p6, fun g hg => ⟨fun e => by have h1 := H4.out.lt g e; have h2 := f6 g hg; omega, p6.blk hg⟩⟩
      clear p6 f6 b6 H4 HK3 HT3
      obtain ⟨R, hR⟩ : ∃ R, s.commit T d = R := ⟨_, rfl⟩
      obtain ⟨s1, d1, e1⟩ := R
      have HR := Lib.hid hR
      have hco := commit_sc H6.out (last_get ts _) (by omega) (by omega) (by omega) (by omega) hfew.2 (by omega)
      rw [hR] at hco
      clear hR
      have HCO := Lib.hid hco
      clear hco
      go_wp2_with fail
      refine HCO.out.mono ?_
      rintro e w7 ⟨rfl, F7, h7, t7, z7⟩
      rw [last_set] at h7 z7
      obtain ⟨n7, hn7, h7', z7'⟩ := h7.count z7
      have H7 := Lib.hid h7'
      have HZ7 := Lib.hid z7'
      have HK7 := Lib.hid (HK6.out.turn t7)
      have HT7 := Lib.hid (HT6.out.trans t7)
      have HV7 := Lib.hid (HV6.out.turn t7)
      obtain ⟨q0, q1, _, _⟩ := cells2 HK7.out.blk
      clear h7 h7' z7 z7' t7 HCO HV6 HT6 HK6 H6
      have HG1 : Hid (s1.l.g ≤ 4611686018427387904) := Lib.hid (by have := commit_g (s := s) (t := T) (d := d); rw [HR.out] at this; simp only at this; omega)
      have HDE : Hid (s.deed d l th = SS.deed2 (if e1 ≠ 0 ∧ e1 ≠ 2 then Sto.scan s1.ps [] 99999 else Sto.scan T.now [] 99999) (if e1 = 2 then 2 else 0) s1 d1 th) := Lib.hid (by unfold SS.deed; rw [HTT.out, HR.out])
      by_cases he2 : e1 = 2
      · subst he2
        have HX : Hid (s.deed d l th = (Sto.scan T.now [] 99999, 2, s1, d1)) := Lib.hid (by rw [HDE.out]; simp [SS.deed2])
        by_cases h1 : th = 1
        · have hth1 : (th == 1) = true := by simp [h1]
          have hth2 : (th == 2) = false := by simp [h1]
          go_wp2_with fail
          go_quiet (fail)
          rename_i nq
          have bq := below_drewN (Below.refl w7.heap.size w7) nq
          go_wp2
          refine bodyPost_ret (results_tmp3 rfl _ _ _) rfl ?_
          rw [HX.out, show (th == 1 || th == 2) = true from by simp [hth1, hth2]]
          exact ⟨v6, F7, y, T.ended, rfl, HV7.out.below bq, HFv6.out, (H7.out.mono (by omega)).below bq, HT7.out.trans (STurn.below bq), fun a b => ⟨n7, by have := HZ7.out a b; omega, H7.out.below bq⟩⟩
        · have hth1 : (th == 1) = false := by simp [h1]
          by_cases h2 : th = 2
          · have hth2 : (th == 2) = true := by simp [h2]
            go_wp2_with fail
            go_quiet (fail)
            rename_i nq
            have bq := below_drewN (Below.refl w7.heap.size w7) nq
            go_wp2
            refine bodyPost_ret (results_tmp3 rfl _ _ _) rfl ?_
            rw [HX.out, show (th == 1 || th == 2) = true from by simp [hth1, hth2]]
            exact ⟨v6, F7, y, T.ended, rfl, HV7.out.below bq, HFv6.out, (H7.out.mono (by omega)).below bq, HT7.out.trans (STurn.below bq), fun a b => ⟨n7, by have := HZ7.out a b; omega, H7.out.below bq⟩⟩
          · have hth2 : (th == 2) = false := by simp [h2]
            go_wp2_with fail
            go_quiet (fail)
            rename_i nq
            have bq := below_drewN (Below.refl w7.heap.size w7) nq
            go_wp2
            refine bodyPost_ret (results_tmp3 rfl _ _ _) rfl ?_
            rw [HX.out, show (th == 1 || th == 2) = false from by simp [hth1, hth2]]
            exact ⟨v6, F7, y, T.ended, rfl, HV7.out.below bq, HFv6.out, (H7.out.mono (by omega)).below bq, HT7.out.trans (STurn.below bq), fun a b => ⟨n7, by have := HZ7.out a b; omega, H7.out.below bq⟩⟩
      · by_cases he0 : e1 = 0
        · subst he0
          have HDQ : Hid (s.deed d l th = SS.deed2 (Sto.scan T.now [] 99999) 0 s1 d1 th) := Lib.hid (by rw [HDE.out]; simp)
          by_cases h1 : th = 1
          · have hth1 : (th == 1) = true := by simp [h1]
            have hth2 : (th == 2) = false := by simp [h1]
            obtain ⟨R2, hR2⟩ : ∃ R, s1.sync d1 = R := ⟨_, rfl⟩
            obtain ⟨s2, d2, e2⟩ := R2
            have HX : Hid (s.deed d l th = (Sto.scan T.now [] 99999, e2, s2, d2)) := Lib.hid (by rw [HDQ.out]; unfold SS.deed2; rw [if_pos ⟨rfl, h1⟩, hR2])
            have hc2 := sync_sc H7.out
            rw [hR2] at hc2
            have HC2 := Lib.hid hc2
            clear hc2 hR2
            go_wp2_with fail
            refine HC2.out.mono ?_
            rintro e wz ⟨rfl, FZ, hz, tz, zz⟩
            have HZZ := Lib.hid hz
            have HZ0 := Lib.hid zz
            have HKZ := Lib.hid (HK7.out.turn tz)
            have HTZ := Lib.hid (HT7.out.trans tz)
            have HVZ := Lib.hid (HV7.out.turn tz)
            obtain ⟨r0, r1, _, _⟩ := cells2 HKZ.out.blk
            clear hz tz zz q0 q1
            by_cases he3 : e2 = 0
            · subst he3
              go_wp2_with fail
              go_quiet (fail)
              rename_i nq
              have bq := below_drewN (Below.refl wz.heap.size wz) nq
              go_wp2
              refine bodyPost_ret (results_tmp3 rfl _ _ _) rfl ?_
              rw [HX.out, show (th == 1 || th == 2) = true from by simp [hth1, hth2]]
              exact ⟨v6, FZ, y, T.ended, rfl, HVZ.out.below bq, HFv6.out, (HZZ.out.mono (by omega)).below bq, HTZ.out.trans (STurn.below bq), fun a b => (by cases hd1 : d1.dead with | true => exact ⟨_, by have := HZ7.out hd1 b; omega, HZZ.out.below bq⟩ | false => exact ⟨0, by omega, (HZ0.out a hd1).below bq⟩)⟩
            · have hb3 : (e2 == 0) = false := by simp [he3]
              go_wp2_with fail
              go_quiet (fail)
              rename_i nq
              have bq := below_drewN (Below.refl wz.heap.size wz) nq
              go_wp2
              refine bodyPost_ret (results_tmp3 rfl _ _ _) rfl ?_
              rw [HX.out, show (th == 1 || th == 2) = true from by simp [hth1, hth2]]
              exact ⟨v6, FZ, y, T.ended, rfl, HVZ.out.below bq, HFv6.out, (HZZ.out.mono (by omega)).below bq, HTZ.out.trans (STurn.below bq), fun a b => (by cases hd1 : d1.dead with | true => exact ⟨_, by have := HZ7.out hd1 b; omega, HZZ.out.below bq⟩ | false => exact ⟨0, by omega, (HZ0.out a hd1).below bq⟩)⟩
          · have hth1 : (th == 1) = false := by simp [h1]
            by_cases h2 : th = 2
            · have hth2 : (th == 2) = true := by simp [h2]
              obtain ⟨R2, hR2⟩ : ∃ R, s1.check d1 = R := ⟨_, rfl⟩
              obtain ⟨s2, d2, e2⟩ := R2
              have HX : Hid (s.deed d l th = (Sto.scan T.now [] 99999, e2, s2, d2)) := Lib.hid (by rw [HDQ.out]; unfold SS.deed2; rw [if_neg (fun e => h1 e.2), if_pos ⟨rfl, h2⟩, hR2])
              have hc2 := check_sc H7.out (by omega) (by have := HG1.out; omega)
              rw [hR2] at hc2
              have HC2 := Lib.hid hc2
              clear hc2 hR2
              go_wp2_with fail
              refine HC2.out.mono ?_
              rintro e wz ⟨rfl, FZ, hz, tz, zz⟩
              have HZZ := Lib.hid hz
              have HZ0 := Lib.hid zz
              have HKZ := Lib.hid (HK7.out.turn tz)
              have HTZ := Lib.hid (HT7.out.trans tz)
              have HVZ := Lib.hid (HV7.out.turn tz)
              obtain ⟨r0, r1, _, _⟩ := cells2 HKZ.out.blk
              clear hz tz zz q0 q1
              go_wp2_with fail
              go_quiet (fail)
              rename_i nq
              have bq := below_drewN (Below.refl wz.heap.size wz) nq
              go_wp2
              refine bodyPost_ret (results_tmp3 rfl _ _ _) rfl ?_
              rw [HX.out, show (th == 1 || th == 2) = true from by simp [hth1, hth2]]
              exact ⟨v6, FZ, y, T.ended, rfl, HVZ.out.below bq, HFv6.out, (HZZ.out.mono (by omega)).below bq, HTZ.out.trans (STurn.below bq), fun a b => (by cases hd1 : d1.dead with | true => exact ⟨_, by have := HZ7.out hd1 b; omega, HZZ.out.below bq⟩ | false => exact ⟨0, by omega, (HZ0.out a hd1).below bq⟩)⟩
            · have hth2 : (th == 2) = false := by simp [h2]
              have HX : Hid (s.deed d l th = (Sto.scan T.now [] 99999, 0, s1, d1)) := Lib.hid (by rw [HDQ.out]; unfold SS.deed2; rw [if_neg (fun e => h1 e.2), if_neg (fun e => h2 e.2)])
              go_wp2_with fail
              go_quiet (fail)
              rename_i nq
              have bq := below_drewN (Below.refl w7.heap.size w7) nq
              go_wp2
              refine bodyPost_ret (results_tmp3 rfl _ _ _) rfl ?_
              rw [HX.out, show (th == 1 || th == 2) = false from by simp [hth1, hth2]]
              exact ⟨v6, F7, y, T.ended, rfl, HV7.out.below bq, HFv6.out, (H7.out.mono (by omega)).below bq, HT7.out.trans (STurn.below bq), fun a b => ⟨n7, by have := HZ7.out a b; omega, H7.out.below bq⟩⟩
        · have hb0 : (e1 != 0) = true := by simp [he0]
          have hb2 : (e1 != 2) = true := by simp [he2]
          have HDQ : Hid (s.deed d l th = SS.deed2 (Sto.scan s1.ps [] 99999) 0 s1 d1 th) := Lib.hid (by rw [HDE.out, if_pos ⟨he0, he2⟩, if_neg he2])
          go_wp2_with fail
          refine (scan_sc H7.out [] 99999 (by decide) (by decide)).mono ?_
          rintro e w8 ⟨v8, rfl, p8, f8, b8⟩
          have H8 := Lib.hid (H7.out.below b8)
          have HK8 := Lib.hid (HK7.out.below b8)
          have HT8 := Lib.hid (HT7.out.trans (STurn.below b8))
          have HFv8 : Hid (∀ g, v8.ownBlock = some g → w.heap.size ≤ g) := Lib.hid (fun g hg => Nat.le_trans HT7.out.1.size (f8 g hg))
          have HV8 : Hid (KeptP w8 F7 v8 (Sto.scan s1.ps [] 99999)) := Lib.hid ⟨p8, fun g hg => ⟨fun e => by have h1 := H7.out.lt g e; have h2 := f8 g hg; omega, p8.blk hg⟩⟩
          obtain ⟨u0, u1, _, _⟩ := cells2 HK8.out.blk
          clear p8 f8 b8 q0 q1
          by_cases h1 : th = 1
          · have hth1 : (th == 1) = true := by simp [h1]
            have hth2 : (th == 2) = false := by simp [h1]
            obtain ⟨R2, hR2⟩ : ∃ R, s1.sync d1 = R := ⟨_, rfl⟩
            obtain ⟨s2, d2, e2⟩ := R2
            have HX : Hid (s.deed d l th = (Sto.scan s1.ps [] 99999, e2, s2, d2)) := Lib.hid (by rw [HDQ.out]; unfold SS.deed2; rw [if_pos ⟨rfl, h1⟩, hR2])
            have hc2 := sync_sc H8.out
            rw [hR2] at hc2
            have HC2 := Lib.hid hc2
            clear hc2 hR2
            go_wp2_with fail
            refine HC2.out.mono ?_
            rintro e wz ⟨rfl, FZ, hz, tz, zz⟩
            have HZZ := Lib.hid hz
            have HZ0 := Lib.hid zz
            have HKZ := Lib.hid (HK8.out.turn tz)
            have HTZ := Lib.hid (HT8.out.trans tz)
            have HVZ := Lib.hid (HV8.out.turn tz)
            obtain ⟨r0, r1, _, _⟩ := cells2 HKZ.out.blk
            clear hz tz zz u0 u1
            by_cases he3 : e2 = 0
            · subst he3
              go_wp2_with fail
              go_quiet (fail)
              rename_i nq
              have bq := below_drewN (Below.refl wz.heap.size wz) nq
              go_wp2
              refine bodyPost_ret (results_tmp3 rfl _ _ _) rfl ?_
              rw [HX.out, show (th == 1 || th == 2) = true from by simp [hth1, hth2]]
              exact ⟨v8, FZ, y, T.ended, rfl, HVZ.out.below bq, HFv8.out, (HZZ.out.mono (by omega)).below bq, HTZ.out.trans (STurn.below bq), fun a b => (by cases hd1 : d1.dead with | true => exact ⟨_, by have := HZ7.out hd1 b; omega, HZZ.out.below bq⟩ | false => exact ⟨0, by omega, (HZ0.out a hd1).below bq⟩)⟩
            · have hb3 : (e2 == 0) = false := by simp [he3]
              go_wp2_with fail
              go_quiet (fail)
              rename_i nq
              have bq := below_drewN (Below.refl wz.heap.size wz) nq
              go_wp2
              refine bodyPost_ret (results_tmp3 rfl _ _ _) rfl ?_
              rw [HX.out, show (th == 1 || th == 2) = true from by simp [hth1, hth2]]
              exact ⟨v8, FZ, y, T.ended, rfl, HVZ.out.below bq, HFv8.out, (HZZ.out.mono (by omega)).below bq, HTZ.out.trans (STurn.below bq), fun a b => (by cases hd1 : d1.dead with | true => exact ⟨_, by have := HZ7.out hd1 b; omega, HZZ.out.below bq⟩ | false => exact ⟨0, by omega, (HZ0.out a hd1).below bq⟩)⟩
          · have hth1 : (th == 1) = false := by simp [h1]
            by_cases h2 : th = 2
            · have hth2 : (th == 2) = true := by simp [h2]
              obtain ⟨R2, hR2⟩ : ∃ R, s1.check d1 = R := ⟨_, rfl⟩
              obtain ⟨s2, d2, e2⟩ := R2
              have HX : Hid (s.deed d l th = (Sto.scan s1.ps [] 99999, e2, s2, d2)) := Lib.hid (by rw [HDQ.out]; unfold SS.deed2; rw [if_neg (fun e => h1 e.2), if_pos ⟨rfl, h2⟩, hR2])
              have hc2 := check_sc H8.out (by omega) (by have := HG1.out; omega)
              rw [hR2] at hc2
              have HC2 := Lib.hid hc2
              clear hc2 hR2
              go_wp2_with fail
              refine HC2.out.mono ?_
              rintro e wz ⟨rfl, FZ, hz, tz, zz⟩
              have HZZ := Lib.hid hz
              have HZ0 := Lib.hid zz
              have HKZ := Lib.hid (HK8.out.turn tz)
              have HTZ := Lib.hid (HT8.out.trans tz)
              have HVZ := Lib.hid (HV8.out.turn tz)
              obtain ⟨r0, r1, _, _⟩ := cells2 HKZ.out.blk
              clear hz tz zz u0 u1
              go_wp2_with fail
              go_quiet (fail)
              rename_i nq
              have bq := below_drewN (Below.refl wz.heap.size wz) nq
              go_wp2
              refine bodyPost_ret (results_tmp3 rfl _ _ _) rfl ?_
              rw [HX.out, show (th == 1 || th == 2) = true from by simp [hth1, hth2]]
              exact ⟨v8, FZ, y, T.ended, rfl, HVZ.out.below bq, HFv8.out, (HZZ.out.mono (by omega)).below bq, HTZ.out.trans (STurn.below bq), fun a b => (by cases hd1 : d1.dead with | true => exact ⟨_, by have := HZ7.out hd1 b; omega, HZZ.out.below bq⟩ | false => exact ⟨0, by omega, (HZ0.out a hd1).below bq⟩)⟩
            · have hth2 : (th == 2) = false := by simp [h2]
              have HX : Hid (s.deed d l th = (Sto.scan s1.ps [] 99999, 0, s1, d1)) := Lib.hid (by rw [HDQ.out]; unfold SS.deed2; rw [if_neg (fun e => h1 e.2), if_neg (fun e => h2 e.2)])
              go_wp2_with fail
              go_quiet (fail)
              rename_i nq
              have bq := below_drewN (Below.refl w8.heap.size w8) nq
              go_wp2
              refine bodyPost_ret (results_tmp3 rfl _ _ _) rfl ?_
              rw [HX.out, show (th == 1 || th == 2) = false from by simp [hth1, hth2]]
              exact ⟨v8, F7, y, T.ended, rfl, HV8.out.below bq, HFv8.out, (H8.out.mono (by omega)).below bq, HT8.out.trans (STurn.below bq), fun a b => ⟨n7, by have := HZ7.out a b; omega, H8.out.below bq⟩⟩
end Go.Proofs.YtpjpknndfhablaaGreat
namespace Go.Proofs.YtpjpknndfhablaaGreat
open Go.ChangeShapes Go.WideShapes Go.ChangeAt Go.RowKit Go.Deep
theorem bulk_one {H : Type} (d : DataW H) : 1 ≤ Rows.uptoBulk d := by
  cases d with
  | lit l => cases l <;> simp [Rows.uptoBulk]
  | _ => simp [Rows.uptoBulk]
theorem bulk_length {H : Type} : ∀ (l : List (DataW H)), l.length ≤ Rows.uptoBulkAll l
  | [] => by simp
  | x :: r => by
    have h1 := bulk_one x
    have h2 := bulk_length r
    simp only [Rows.uptoBulkAll, List.length_cons]
    omega
theorem bulk_part {H : Type} {x : DataW H} : ∀ {l : List (DataW H)}, x ∈ l → Rows.uptoBulk x ≤ Rows.uptoBulkAll l
  | y :: r, h => by
    simp only [Rows.uptoBulkAll]
    rcases List.mem_cons.1 h with rfl | h
    · omega
    · have := bulk_part h
      omega
theorem bulk_slice {H : Type} {e s : List (DataW H)} {n : Nat} (h : Rows.uptoBulk (.slice e s) ≤ n) : e.length ≤ n := by
  have h1 := bulk_length e
  simp only [Rows.uptoBulk] at h
  omega
theorem Tryz.cellsChange : Tryz.prog.cellsOf 58 = 3 := by kernel_rfl
section
variable {H : Type} {enc : TypeId × Value → H} {W : World} {sp : Nat → Bool} {held : Bool}
theorem open_changes {fuel : Nat} {cs : List Value} {y : DataW H × List MemPlace} (hw : ∀ k ∈ y.1.weights Tryz.prog 48, k ≤ reachBytes) (hb : Rows.uptoBulk y.1 ≤ 1048576) (hf : DataW.trod enc Tryz.prog W 0 sp held fuel 48 cs = some y) :
    ∃ ao len cap l, cs = [.slice ao len cap] ∧ l.length = len ∧ CsAt W ao l := by
  rcases open_slice_fields Tryz.underlying48 Tryz.underlying58 (by kernel_rfl) Tryz.cellsChange hf with ⟨hcs, _⟩ | ⟨a, len, cap, m, D, Pl, hcs, _, hl, hm, hmm, hx, hc⟩
  · exact ⟨none, 0, 0, [], hcs, rfl, by simp, by simp, by simp⟩
  · subst hx
    have hlm : len ≤ m := by rw [hmm]; split <;> omega
    have hlen : len ≤ 1048576 := by
      have := bulk_slice hb
      simpa using this
    obtain ⟨l, hll, hq⟩ := list_of (T := Sto.Ch) (Q := fun i o => (∃ b off, (some a : Option Addr) = some ⟨b, off, none⟩ ∧ b < W.heap.size ∧ W.cell? ⟨b, off + i * 3, none⟩ = some (.bool o.put) ∧ W.cell? ⟨b, off + i * 3 + 1, none⟩ = some (.string ⟨o.key.toArray⟩) ∧
        W.cell? ⟨b, off + i * 3 + 2, none⟩ = some (.string ⟨o.value.toArray⟩)) ∧ (o.key.length ≤ maxLen ∧ o.value.length ≤ maxLen)) len (fun i hi => by
      obtain ⟨ys, n, hD, _, _, hf⟩ := hc i (by omega)
      obtain ⟨v0, y0, c0, _, t0⟩ := hf 0 _ rfl
      obtain ⟨v1, y1, c1, hy1, t1⟩ := hf 1 _ rfl
      obtain ⟨v2, y2, c2, hy2, t2⟩ := hf 2 _ rfl
      obtain ⟨n0, e0, _⟩ := DataW.trod_bool Tryz.underlying4 t0
      obtain ⟨s, e1, x1, _⟩ := DataW.trod_string Tryz.underlying9 t1
      obtain ⟨u, e2, x2, _⟩ := DataW.trod_string Tryz.underlying9 t2
      simp at e0 e1 e2
      subst e0 e1 e2
      subst x1 x2
      have hs : s.data.toList.length ≤ reachBytes := by
        refine hw _ ?_
        simp only [DataW.weights, Tryz.underlying48, List.mem_cons, List.mem_append]
        refine Or.inr (Or.inl (weightsAll_mem (List.mem_map.2 ⟨i, List.mem_range.2 hi, rfl⟩) _ ?_))
        rw [hD]
        simp only [DataW.weights, Tryz.underlying58]
        exact DataW.weights_mem_each (j := 1) (t := 9) (d := .lit (.string s.data.toList)) rfl (by rw [List.getElem?_map, hy1]; rfl) _ (by simp [DataW.weights])
      have hu : u.data.toList.length ≤ reachBytes := by
        refine hw _ ?_
        simp only [DataW.weights, Tryz.underlying48, List.mem_cons, List.mem_append]
        refine Or.inr (Or.inl (weightsAll_mem (List.mem_map.2 ⟨i, List.mem_range.2 hi, rfl⟩) _ ?_))
        rw [hD]
        simp only [DataW.weights, Tryz.underlying58]
        exact DataW.weights_mem_each (j := 2) (t := 9) (d := .lit (.string u.data.toList)) rfl (by rw [List.getElem?_map, hy2]; rfl) _ (by simp [DataW.weights])
      obtain ⟨_, _, _, _, _, hf0⟩ := hc 0 (by omega)
      obtain ⟨_, _, z0, _⟩ := hf0 0 _ rfl
      rw [Nat.zero_mul] at z0
      obtain ⟨b, off, rfl⟩ := plainSpot z0
      simp only [add_plain] at c0 c1 c2
      exact ⟨⟨n0, s.data.toList, u.data.toList⟩, ⟨b, off, rfl, cell_lt c0, c0, c1, c2⟩, Nat.le_trans hs (by simp [reachBytes, maxLen]), Nat.le_trans hu (by simp [reachBytes, maxLen])⟩)
    refine ⟨some a, len, cap, l, hcs, hll, by omega, fun i o hi => (hq i o hi).1, fun o ho => ?_⟩
    obtain ⟨i, hi⟩ := List.getElem?_of_mem ho
    exact (hq i o hi).2
theorem weights_of {ts : List TypeId} {ds : List (DataW H)} (hsz : (DataW.weightsEach Tryz.prog ts ds).all (· ≤ reachBytes) = true) {j : Nat} {t : TypeId} {d : DataW H} (ht : ts[j]? = some t) (hd : ds[j]? = some d) : ∀ k ∈ d.weights Tryz.prog t, k ≤ reachBytes := fun k hk =>
  of_decide_eq_true (List.all_eq_true.1 hsz _ (DataW.weights_mem_each ht hd k hk))
end
end Go.Proofs.YtpjpknndfhablaaGreat
namespace Go.Proofs.YtpjpknndfhablaaGreat
open Go.RowKit
/-- Deeds in a slice that is read: the changes of each, and what follows. -/
structure DeedsAt (w : World) (ao : Option Addr) (l : List (List Sto.Ch × Int)) : Prop where
  len : l.length ≤ 1048576
  cell : ∀ i x, l[i]? = some x → ∃ b off so cap, ao = some ⟨b, off, none⟩ ∧ b < w.heap.size ∧ w.cell? ⟨b, off + i * 2, none⟩ = some (.slice so x.1.length cap) ∧ w.cell? ⟨b, off + i * 2 + 1, none⟩ = some (.int .i64 x.2) ∧ CsAt w so x.1
/-- A life: its deeds, where the power goes, how many unsafe bytes are left. -/
structure LifeS where
  ds : List (List Sto.Ch × Int)
  n : Int
  k : Int
structure LivesS (w : World) (ao : Option Addr) (l : List LifeS) : Prop where
  len : l.length ≤ 1048576
  cell : ∀ i x, l[i]? = some x → ∃ b off so cap, ao = some ⟨b, off, none⟩ ∧ b < w.heap.size ∧ w.cell? ⟨b, off + i * 3, none⟩ = some (.slice so x.ds.length cap) ∧ w.cell? ⟨b, off + i * 3 + 1, none⟩ = some (.int .i64 x.n) ∧ w.cell? ⟨b, off + i * 3 + 2, none⟩ = some (.int .i64 x.k) ∧ DeedsAt w so x.ds
  fits : ∀ x ∈ l, x.n ≤ 9223372036854775807 ∧ x.k ≤ 9223372036854775807
end Go.Proofs.YtpjpknndfhablaaGreat
namespace Go.Proofs.YtpjpknndfhablaaGreat
open Go.ChangeShapes Go.WideShapes Go.ChangeAt Go.RowKit Go.Deep
theorem Tryz.cellsDeed : Tryz.prog.cellsOf 54 = 2 := by kernel_rfl
theorem Tryz.cellsLife11 : Tryz.prog.cellsOf 66 = 3 := by kernel_rfl
section
variable {H : Type} {enc : TypeId × Value → H} {W : World} {sp : Nat → Bool} {held : Bool}
theorem bulk_elem {n i j : Nat} {D : Nat → DataW H} {s : List (DataW H)} {ys : List (DataW H × List MemPlace)} {y : DataW H × List MemPlace} (hb : Rows.uptoBulk (.slice ((List.range n).map D) s) ≤ 1048576) (hi : i < n) (hD : D i = .agg (ys.map (·.1))) (hj : ys[j]? = some y) : Rows.uptoBulk y.1 ≤ 1048576 := by
  have h1 : Rows.uptoBulk (D i) ≤ Rows.uptoBulkAll ((List.range n).map D) := bulk_part (List.mem_map.2 ⟨i, List.mem_range.2 hi, rfl⟩)
  have h2 : Rows.uptoBulk y.1 ≤ Rows.uptoBulkAll (ys.map (·.1)) := bulk_part (List.mem_map.2 ⟨y, List.mem_of_getElem? hj, rfl⟩)
  rw [hD] at h1
  simp only [Rows.uptoBulk] at hb h1
  omega
theorem open_deeds {fuel : Nat} {cs : List Value} {y : DataW H × List MemPlace} (hw : ∀ k ∈ y.1.weights Tryz.prog 64, k ≤ reachBytes) (hb : Rows.uptoBulk y.1 ≤ 1048576) (hf : DataW.trod enc Tryz.prog W 0 sp held fuel 64 cs = some y) :
    ∃ ao len cap l, cs = [.slice ao len cap] ∧ l.length = len ∧ DeedsAt W ao l := by
  rcases open_slice_fields Tryz.underlying64 Tryz.underlying54 (by kernel_rfl) Tryz.cellsDeed hf with ⟨hcs, _⟩ | ⟨a, len, cap, m, D, Pl, hcs, _, hl, hm, hmm, hx, hc⟩
  · exact ⟨none, 0, 0, [], hcs, rfl, by simp, by simp⟩
  · subst hx
    have hlm : len ≤ m := by rw [hmm]; split <;> omega
    have hlen : len ≤ 1048576 := by
      have := bulk_slice hb
      simpa using this
    obtain ⟨l, hll, hq⟩ := list_of (T := List Sto.Ch × Int) (Q := fun i o => ∃ b off so cap, (some a : Option Addr) = some ⟨b, off, none⟩ ∧ b < W.heap.size ∧ W.cell? ⟨b, off + i * 2, none⟩ = some (.slice so o.1.length cap) ∧ W.cell? ⟨b, off + i * 2 + 1, none⟩ = some (.int .i64 o.2) ∧ CsAt W so o.1) len (fun i hi => by
      obtain ⟨ys, n, hD, _, _, hf⟩ := hc i (by omega)
      obtain ⟨v0, y0, c0, hy0, t0⟩ := hf 0 _ rfl
      obtain ⟨v1, y1, c1, _, t1⟩ := hf 1 _ rfl
      obtain ⟨n1, e1, _, _⟩ := DataW.trod_int Tryz.underlying3 t1
      obtain ⟨so, ln, cp, sc, e0, hsl, hops⟩ := open_changes (y := y0) (fun k hk => by
        refine hw _ ?_
        simp only [DataW.weights, Tryz.underlying64, List.mem_cons, List.mem_append]
        refine Or.inr (Or.inl (weightsAll_mem (List.mem_map.2 ⟨i, List.mem_range.2 hi, rfl⟩) _ ?_))
        rw [hD]
        simp only [DataW.weights, Tryz.underlying54]
        exact DataW.weights_mem_each (j := 0) (t := 48) (d := y0.1) rfl (by rw [List.getElem?_map, hy0]; rfl) _ hk) (bulk_elem hb hi hD hy0) t0
      simp at e0 e1
      subst e0 e1
      subst hsl
      obtain ⟨_, _, _, _, _, hf0⟩ := hc 0 (by omega)
      obtain ⟨_, _, z0, _⟩ := hf0 0 _ rfl
      rw [Nat.zero_mul] at z0
      obtain ⟨b, off, rfl⟩ := plainSpot z0
      simp only [add_plain] at c0 c1
      exact ⟨⟨sc, n1⟩, ⟨b, off, so, cp, rfl, cell_lt c0, c0, c1, hops⟩⟩)
    exact ⟨some a, len, cap, l, hcs, hll, by omega, fun i o hi => hq i o hi⟩
theorem open_livesS {fuel : Nat} {cs : List Value} {y : DataW H × List MemPlace} (hw : ∀ k ∈ y.1.weights Tryz.prog 63, k ≤ reachBytes) (hb : Rows.uptoBulk y.1 ≤ 1048576) (hf : DataW.trod enc Tryz.prog W 0 sp held fuel 63 cs = some y) :
    ∃ ao len cap l, cs = [.slice ao len cap] ∧ l.length = len ∧ LivesS W ao l := by
  rcases open_slice_fields Tryz.underlying63 Tryz.underlying66 (by kernel_rfl) Tryz.cellsLife11 hf with ⟨hcs, _⟩ | ⟨a, len, cap, m, D, Pl, hcs, _, hl, hm, hmm, hx, hc⟩
  · exact ⟨none, 0, 0, [], hcs, rfl, by simp, by simp, by simp⟩
  · subst hx
    have hlm : len ≤ m := by rw [hmm]; split <;> omega
    have hlen : len ≤ 1048576 := by
      have := bulk_slice hb
      simpa using this
    obtain ⟨l, hll, hq⟩ := list_of (T := LifeS) (Q := fun i o => (∃ b off so cap, (some a : Option Addr) = some ⟨b, off, none⟩ ∧ b < W.heap.size ∧ W.cell? ⟨b, off + i * 3, none⟩ = some (.slice so o.ds.length cap) ∧ W.cell? ⟨b, off + i * 3 + 1, none⟩ = some (.int .i64 o.n) ∧ W.cell? ⟨b, off + i * 3 + 2, none⟩ = some (.int .i64 o.k) ∧ DeedsAt W so o.ds) ∧ (o.n ≤ 9223372036854775807 ∧ o.k ≤ 9223372036854775807)) len (fun i hi => by
      obtain ⟨ys, n, hD, _, _, hf⟩ := hc i (by omega)
      obtain ⟨v0, y0, c0, hy0, t0⟩ := hf 0 _ rfl
      obtain ⟨v1, y1, c1, _, t1⟩ := hf 1 _ rfl
      obtain ⟨v2, y2, c2, _, t2⟩ := hf 2 _ rfl
      obtain ⟨n1, e1, _, w1⟩ := DataW.trod_int Tryz.underlying3 t1
      obtain ⟨n2, e2, _, w2⟩ := DataW.trod_int Tryz.underlying3 t2
      obtain ⟨so, ln, cp, sc, e0, hsl, hops⟩ := open_deeds (y := y0) (fun k hk => by
        refine hw _ ?_
        simp only [DataW.weights, Tryz.underlying63, List.mem_cons, List.mem_append]
        refine Or.inr (Or.inl (weightsAll_mem (List.mem_map.2 ⟨i, List.mem_range.2 hi, rfl⟩) _ ?_))
        rw [hD]
        simp only [DataW.weights, Tryz.underlying66]
        exact DataW.weights_mem_each (j := 0) (t := 64) (d := y0.1) rfl (by rw [List.getElem?_map, hy0]; rfl) _ hk) (bulk_elem hb hi hD hy0) t0
      simp at e0 e1 e2
      subst e0 e1 e2
      subst hsl
      obtain ⟨_, _, _, _, _, hf0⟩ := hc 0 (by omega)
      obtain ⟨_, _, z0, _⟩ := hf0 0 _ rfl
      rw [Nat.zero_mul] at z0
      obtain ⟨b, off, rfl⟩ := plainSpot z0
      simp only [add_plain] at c0 c1 c2
      exact ⟨⟨sc, n1, n2⟩, ⟨b, off, so, cp, rfl, cell_lt c0, c0, c1, c2, hops⟩, (int_fits w1).2, (int_fits w2).2⟩)
    refine ⟨some a, len, cap, l, hcs, hll, by omega, fun i o hi => (hq i o hi).1, fun o ho => ?_⟩
    obtain ⟨i, hi⟩ := List.getElem?_of_mem ho
    exact (hq i o hi).2
end
end Go.Proofs.YtpjpknndfhablaaGreat
namespace Go.Proofs.YtpjpknndfhablaaGreat
namespace Wal
def frames (rs : List (List UInt8)) : List UInt8 := rs.flatMap frame
theorem frames_append (a b : List (List UInt8)) : frames (a ++ b) = frames a ++ frames b := by simp [frames]
theorem frames_cons (s : List UInt8) (rs : List (List UInt8)) : frames (s :: rs) = frame s ++ frames rs := by simp [frames]
theorem frames_nil : frames [] = [] := rfl
def Short (rs : List (List UInt8)) : Prop := ∀ s ∈ rs, s.length ≤ 65536
/-- A beginning of frames is some whole ones and a beginning of one. -/
theorem take_frames (rs : List (List UInt8)) (h : Short rs) (K : Nat) : ∃ j x k, j ≤ rs.length ∧ x.length ≤ 65536 ∧ k < (frame x).length ∧ (frames rs).take K = frames (rs.take j) ++ (frame x).take k := by
  induction rs generalizing K with
  | nil => exact ⟨0, [], 0, Nat.le_refl _, by simp, by simp [frame_length], by simp [frames]⟩
  | cons s rs ih =>
    by_cases hK : K < (frame s).length
    · refine ⟨0, s, K, by omega, h s (by simp), hK, ?_⟩
      rw [frames_cons, List.take_append_of_le_length (by omega)]; simp [frames]
    · obtain ⟨j, x, k, h1, h2, h3, h4⟩ := ih (fun s hs => h s (by simp [hs])) (K - (frame s).length)
      refine ⟨j + 1, x, k, by simp; omega, h2, h3, ?_⟩
      rw [frames_cons, List.take_append, List.take_of_length_le (by omega), h4, List.take_succ_cons, frames_cons, List.append_assoc]
theorem counts_head {g : Nat} {snap r : List UInt8} (hg : g ≤ 4611686018427387904) (hs : snap.length ≤ 524288) : counts (head g snap ++ r) = (g, snap, 20 + snap.length) := by
  have hw : whole (head g snap ++ r) 12 524288 = (snap, true) := by
    have h := whole_frame (a := magic ++ Sha.big g 8) (s := snap) (r := r) (most := 524288) hs (by omega)
    have e : (magic ++ Sha.big g 8).length = 12 := by simp [magic, Sha.big_length]
    rw [e] at h
    simpa [head, List.append_assoc] using h
  have e1 : (head g snap ++ r).take 4 = magic := by simp [head, magic]
  have e2 : ((head g snap ++ r).drop 4).take 8 = Sha.big g 8 := by
    have h : head g snap ++ r = magic ++ (Sha.big g 8 ++ (frame snap ++ r)) := by simp [head, List.append_assoc]
    rw [h, List.drop_left' (by rfl), List.take_left' (Sha.big_length _ _)]
  have v : Sha.val (Sha.big g 8) = g := val_big_of (by
    have : (256 : Nat) ^ 8 = 18446744073709551616 := rfl
    omega)
  unfold counts
  rw [if_neg (by rw [e1]; simp [head_length]; omega), e2, v, hw, if_neg (by simp; omega)]
theorem counts_nil : counts [] = (0, [], 0) := rfl
theorem counts_part {g : Nat} {snap : List UInt8} {k : Nat} (hk : k < (head g snap).length) (hs : snap.length ≤ 524288) : counts ((head g snap).take k) = (0, [], 0) := by
  unfold counts
  rw [head_length] at hk
  split
  · rfl
  · rename_i h
    have h12 : ¬ (k < 12) := fun h2 => h (.inl (by simp [head_length]; omega))
    rw [if_pos]
    left
    have e : (magic ++ Sha.big g 8).length = 12 := by simp [magic, Sha.big_length]
    have h := whole_none (a := magic ++ Sha.big g 8) (s := snap) (most := 524288) (k := k - 12) (by rw [frame_length]; omega) (by omega)
    rw [e] at h
    have e2 : (head g snap).take k = (magic ++ Sha.big g 8) ++ (frame snap).take (k - 12) := by
      rw [head, List.take_append, e, List.take_of_length_le (by omega)]
    rw [e2, h]
theorem reads_frames (rs : List (List UInt8)) (h : Short rs) (a x : List UInt8) (k n : Nat) (hx : x.length ≤ 65536) (hk : k < (frame x).length) (hn : rs.length < n) :
    reads (a ++ (frames rs ++ (frame x).take k)) n a.length = (rs, a.length + (frames rs).length) := by
  induction rs generalizing a n with
  | nil =>
    obtain ⟨n, rfl⟩ : ∃ m, n = m + 1 := ⟨n - 1, by simp at hn; omega⟩
    have := whole_none (a := a) (s := x) (most := 65536) hk (by omega)
    simp only [frames_nil, List.nil_append, reads, this]
    simp
  | cons s rs ih =>
    obtain ⟨n, rfl⟩ : ∃ m, n = m + 1 := ⟨n - 1, by simp at hn; omega⟩
    have hs := h s (by simp)
    have hw := whole_frame (a := a) (s := s) (r := frames rs ++ (frame x).take k) (most := 65536) hs (by omega)
    have hr := ih (fun s hs => h s (by simp [hs])) (a ++ frame s) n (by simp at hn; omega)
    have e : a ++ (frames (s :: rs) ++ (frame x).take k) = a ++ (frame s ++ (frames rs ++ (frame x).take k)) := by rw [frames_cons, List.append_assoc]
    rw [e, reads, hw]
    simp only [if_true]
    have e2 : a.length + 8 + s.length = (a ++ frame s).length := by simp [frame_length]; omega
    rw [e2]
    rw [show a ++ (frame s ++ (frames rs ++ (frame x).take k)) = (a ++ frame s) ++ (frames rs ++ (frame x).take k) by simp [List.append_assoc], hr]
    simp [frames_cons]; omega
theorem frames_length_le (rs : List (List UInt8)) : rs.length * 8 ≤ (frames rs).length := by
  induction rs with
  | nil => simp
  | cons s rs ih => rw [frames_cons, List.length_append, frame_length, List.length_cons]; omega
theorem recs_frames (rs : List (List UInt8)) (h : Short rs) (a x : List UInt8) (k : Nat) (hx : x.length ≤ 65536) (hk : k < (frame x).length) :
    recs (a ++ (frames rs ++ (frame x).take k)) a.length = (rs, a.length + (frames rs).length) := by
  refine reads_frames rs h a x k _ hx hk ?_
  have := frames_length_le rs
  simp only [List.length_append]; omega

/-- A disk without unsafe bytes, on which a log stands, perhaps with something behind it or beside it that does not count. -/
structure Sits (d : DS) (f : Bool) (g : Nat) (snap : List UInt8) (rs : List (List UInt8)) : Prop where
  u : d.u = []
  g1 : 1 ≤ g
  g2 : g ≤ 4611686018427387904
  sl : snap.length ≤ 524288
  short : Short rs
  file : ∃ x k, x.length ≤ 65536 ∧ k < (frame x).length ∧ d.base f = head g snap ++ (frames rs ++ (frame x).take k)
  other : (counts (d.base (!f))).1 < g
theorem file_base {d : DS} (h : d.u = []) (f : Bool) : d.file f = d.base f := by simp [DS.file, h, DS.of]
theorem Sits.best {d : DS} {f : Bool} {g : Nat} {snap : List UInt8} {rs : List (List UInt8)} (h : Sits d f g snap rs) : best d = f := by
  obtain ⟨x, k, _, _, hf⟩ := h.file
  have h1 : (counts (d.base f)).1 = g := by rw [hf, counts_head h.g2 h.sl]
  have h2 := h.other
  unfold Wal.best
  rw [file_base h.u, file_base h.u]
  cases f
  · simp only [Bool.not_false] at h2; rw [h1]; simp; omega
  · simp only [Bool.not_true] at h2; rw [h1]; simp; omega
theorem Sits.shown {d : DS} {f : Bool} {g : Nat} {snap : List UInt8} {rs : List (List UInt8)} (h : Sits d f g snap rs) : shown d = (g, snap, 20 + snap.length) ∧ shownRecs d = (rs, 20 + snap.length + (frames rs).length) := by
  obtain ⟨x, k, hx, hk, hf⟩ := h.file
  have e : Wal.shown d = (g, snap, 20 + snap.length) := by rw [Wal.shown, h.best, file_base h.u, hf, counts_head h.g2 h.sl]
  refine ⟨e, ?_⟩
  rw [shownRecs, e, h.best, file_base h.u, hf]
  have := recs_frames rs h.short (head g snap) x k hx hk
  rwa [head_length] at this
/-- All is safe, nothing stands behind the log or beside it. -/
structure Clean (d : DS) (f : Bool) (g : Nat) (snap : List UInt8) (rs : List (List UInt8)) : Prop where
  u : d.u = []
  g1 : 1 ≤ g
  g2 : g ≤ 4611686018427387904
  sl : snap.length ≤ 524288
  short : Short rs
  file : d.base f = head g snap ++ frames rs
  other : d.base (!f) = []
theorem Clean.sits {d : DS} {f : Bool} {g : Nat} {snap : List UInt8} {rs : List (List UInt8)} (h : Clean d f g snap rs) : Sits d f g snap rs :=
  ⟨h.u, h.g1, h.g2, h.sl, h.short, ⟨[], 0, by simp, by simp [frame_length], by simp [h.file]⟩, by rw [h.other, counts_nil]; exact h.g1⟩
theorem die_nil {d : DS} (h : d.u = []) (k : Nat) : (d.die k).base false = d.base false ∧ (d.die k).base true = d.base true ∧ (d.die k).u = [] := by
  simp [DS.die, DS.base, DS.left, h, DS.of]
theorem die_base {d : DS} (h : d.u = []) (k : Nat) (f : Bool) : (d.die k).base f = d.base f := by
  cases f
  · exact (die_nil h k).1
  · exact (die_nil h k).2.1
theorem Sits.same {d d' : DS} {f : Bool} {g : Nat} {snap : List UInt8} {rs : List (List UInt8)} (h : Sits d f g snap rs) (hu : d'.u = []) (hb : ∀ f, d'.base f = d.base f) : Sits d' f g snap rs := by
  obtain ⟨x, k, hx, hk, hf⟩ := h.file
  exact ⟨hu, h.g1, h.g2, h.sl, h.short, ⟨x, k, hx, hk, by rw [hb, hf]⟩, by rw [hb]; exact h.other⟩
theorem Sits.revive {d : DS} {f : Bool} {g : Nat} {snap : List UInt8} {rs : List (List UInt8)} (h : Sits d f g snap rs) : Sits d.revive f g snap rs := h.same h.u (fun f => by cases f <;> rfl)
/-- A cut of a file without unsafe bytes: it is done, or the power goes and nothing has changed. -/
theorem cut_cases {d : DS} (hu : d.u = []) (hd : d.dead = false) {f : Bool} {p : Nat} (hp : p ≤ (d.base f).length) :
    (d.goes = false ∧ d.cut (DS.fi f) p = (d.tick.short f p, 0)) ∨ (d.goes = true ∧ d.cut (DS.fi f) p = (d.tick.die d.keep, 2)) := by
  unfold DS.cut
  rw [if_neg (by simp [hd]), DS.fileNo_of]
  have hs : d.size f = (d.base f).length := by simp [DS.size, file_base hu]
  simp only
  rw [if_neg (by rw [hs, hu]; simp [DS.of]; omega)]
  cases hg : d.goes
  · left; simp
  · right; simp
theorem short_base (d : DS) (f : Bool) (p : Nat) : (d.short f p).base f = (d.base f).take p ∧ (d.short f p).base (!f) = d.base (!f) ∧ (d.short f p).u = d.u ∧ (d.short f p).dead = d.dead ∧ (d.short f p).armed = d.armed := by
  cases f <;> simp [DS.short, DS.base]
theorem goes_armed {d : DS} (h : d.armed = 0) : d.goes = false := (DS.goes_zero h).1
theorem goes_true {d : DS} (h : d.goes = true) : d.armed ≠ 0 := by intro h0; rw [goes_armed h0] at h; cases h
end Wal
end Go.Proofs.YtpjpknndfhablaaGreat
