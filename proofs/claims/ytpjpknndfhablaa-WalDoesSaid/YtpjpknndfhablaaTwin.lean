/- A disk of the program and the document's in the same state: both are opened. -/
import Derived.Test.YtpjpknndfhablaaKeepR
import Derived.Test.YtpjpknndfhablaaFixW
namespace Go.Proofs.Ytpjpknndfhablaa
open Go.RowKit
theorem recs_texts {w : World} {base : Nat} {v : Value} {rs : List (List UInt8)} (h : RecsAt w base v rs) (hl : rs.length ≤ 9223372036854775807) : ∃ g cur, v = .slice (some ⟨g, 0, none⟩) rs.length rs.length ∧ base ≤ g ∧ w.heap[g]? = some (.cells cur 9 (0, 0)) ∧ rs.length ≤ cur.size ∧ Texts w (some ⟨g, 0, none⟩) rs := by
  obtain ⟨g, cur, hv, hb, hg, hsz, hc⟩ := h
  exact ⟨g, cur, hv, hb, hg, hsz, ⟨hl, fun i s hi => ⟨g, 0, rfl, by rw [Nat.zero_add]; exact cell_of hg (hc i s hi)⟩⟩⟩
theorem own_texts {w : World} {base g cap n : Nat} {rs : List (List UInt8)} (h : w.ownsRow base 9 1 (.slice (some ⟨g, 0, none⟩) n cap) n (strs rs)) (hl : rs.length ≤ 9223372036854775807) : Texts w (some ⟨g, 0, none⟩) rs := by
  rcases h.2 with ⟨h0, _⟩ | ⟨g', cap', cur, hv, _, hg, _, _, _, h4⟩
  · cases h0
  · cases hv
    refine ⟨hl, fun j s hs => ⟨g, 0, rfl, ?_⟩⟩
    have h5 : (strs rs)[j]? = some (.string ⟨s.toArray⟩) := by simp [strs, hs]
    rw [← h4, List.getElem?_take] at h5
    split at h5
    · rw [Nat.zero_add]; exact cell_of hg (by simpa using h5)
    · cases h5
/-- What opening both leaves. -/
structure BothOpen (c y : Nat) (o : Option Wal.Opened) (d d' : DS) (m : Nat) (rb ub : Option Nat) (w : World) (v u : Value) (w' : World) : Prop where
  disks : ∃ rb' ub', DiskAt w' c d' m rb' ∧ RefAt w' y d' ub' ∧ Newer w rb rb' ∧ Newer w ub ub' ∧ (d'.dead = true → d.dead = false → rb' = none)
  touch : Touch (fun k => own2 c rb k ∨ k = y) w w'
  some_ : ∀ q, o = some q → ∃ x z, v = .pointer (some ⟨x, 0, none⟩) ∧ u = .pointer (some ⟨z, 0, none⟩) ∧ w.heap.size ≤ x ∧ w.heap.size ≤ z ∧ LogAt w' x c q.l ∧ RlogAt w' z y q.l
  none_ : o = none → v = .pointer none ∧ u = .pointer none
/-- Behind a loop that writes into a block of texts. -/
theorem BothOpen.wrote {c y g : Nat} {o : Option Wal.Opened} {d d' : DS} {m : Nat} {rb ub : Option Nat} {w : World} {v u : Value} {w' w'' : World} (h : BothOpen c y o d d' m rb ub w v u w') {cur : Array Value} {fr : Nat × Nat} (hg : w'.heap[g]? = some (.cells cur 9 fr)) (hlo : w.heap.size ≤ g) (ht : Touch (· = g) w' w'') : BothOpen c y o d d' m rb ub w v u w'' := by
  have hk : KeepsOff [9] w' w'' := .of_touch (by rintro k rfl; exact ⟨_, _, _, hg, by simp⟩) ht
  obtain ⟨rb', ub', h1, h2, h3, h4, h5⟩ := h.disks
  refine ⟨⟨rb', ub', h1.keepsOff hk (by decide) (by decide), h2.keepsOff hk (by decide) (by decide), h3, h4, h5⟩, Touch.trans h.touch ht (fun k hk e => by subst e; omega), fun q hq => ?_, h.none_⟩
  obtain ⟨x, z, a1, a2, a3, a4, a5, a6⟩ := h.some_ q hq
  exact ⟨x, z, a1, a2, a3, a4, a5.keepsOff hk (by decide), a6.keepsOff hk (by decide)⟩
theorem BothOpen.below {c y : Nat} {o : Option Wal.Opened} {d d' : DS} {m : Nat} {rb ub : Option Nat} {w : World} {v u : Value} {w' w'' : World} (h : BothOpen c y o d d' m rb ub w v u w') (hb : Below w'.heap.size w' w'') : BothOpen c y o d d' m rb ub w v u w'' := by
  obtain ⟨rb', ub', h1, h2, h3, h4, h5⟩ := h.disks
  refine ⟨⟨rb', ub', h1.below hb, h2.below hb, h3, h4, h5⟩, Touch.trans h.touch (Touch.of_below hb) (fun _ _ e => e), fun q hq => ?_, h.none_⟩
  obtain ⟨x, z, a1, a2, a3, a4, a5, a6⟩ := h.some_ q hq
  exact ⟨x, z, a1, a2, a3, a4, a5.below hb, a6.below hb⟩
theorem Wal.open_few {d : DS} (hok : d.Ok) {q : Wal.Opened} (h : (Wal.open_ d).1 = some q) : q.rs.length ≤ 1048576 ∧ q.l.n ≤ 1048576 ∧ q.l.g ≤ 4611686018427387904 := by
  unfold Wal.open_ at h
  split at h
  · cases h
  · split at h
    · cases h
    · rename_i h1 h2
      split at h
      · cases h
      · cases h
        have hc := Wal.recs_count (file := d.file (Wal.best d)) ((d.file (Wal.best d)).length + 1 - (Wal.shown d).2.2) (Wal.shown d).2.2 (Nat.le_refl _)
        have hl := hok.base_len' (Wal.best d)
        have hl2 : (d.file (Wal.best d)).length ≤ 1048576 := hl
        obtain ⟨A, s, p, hA⟩ : ∃ A s p, Wal.shown d = (A, s, p) := ⟨_, _, _, rfl⟩
        have hle := counts_le (G := d.file (Wal.best d)) (A := A) (s := s) (p := p) hA (by rw [hA] at h2; exact h2)
        refine ⟨?_, ?_, by rw [hA]; exact hle.2.1⟩
        · show (Wal.recs (d.file (Wal.best d)) (Wal.shown d).2.2).1.length ≤ _
          omega
        · show (Wal.recs (d.file (Wal.best d)) (Wal.shown d).2.2).1.length ≤ _
          omega
set_option maxHeartbeats 4000000 in
set_option maxRecDepth 100000 in
theorem opened_any (c y : Nat) (w : World) (d : DS) (m : Nat) (rb ub : Option Nat) (h1 : DiskAt w c d m rb) (h2 : RefAt w y d ub) :
    Calls Try.prog 43 #[.pointer (some ⟨c, 0, none⟩), .pointer (some ⟨y, 0, none⟩)] w fun e w' => ∃ v u, e = .returned (.tuple #[v, u, .bool true]) ∧ BothOpen c y (Wal.open_ d).1 d (Wal.open_ d).2.1 m rb ub w v u w' := by
  have HD := Lib.hid h1
  have HR := Lib.hid h2
  have HK1 := Lib.hid h1.typed
  have HY := h2.lt
  have HFEW : Hid (∀ q, (Wal.open_ d).1 = some q → q.rs.length ≤ 1048576) := Lib.hid (fun q hq => (Wal.open_few h1.1 hq).1)
  clear h1 h2
  obtain ⟨o, E, r, hO⟩ : ∃ o E r, Wal.open_ d = (o, E, r) := ⟨_, _, _, rfl⟩
  rw [hO] at HFEW
  have HO := Lib.hid hO
  rw [hO]
  clear hO
  go_enter Try.func43, Try.ntmps43
  go_wp2_with fail
  have hw := wopen_any c w d m rb HD.out
  rw [HO.out] at hw
  refine hw.mono ?_
  clear hw
  rintro e w1 ⟨v, s, rv, rfl, hs1, hn1, rb', hd1, hnew1, ht1, hz1⟩
  have K1 := Lib.hid (KeepsOff.of_touch HK1.out ht1)
  have R1 := Lib.hid (HR.out.keepsOff K1.out (by decide) (by decide))
  have D1 := Lib.hid hd1
  have T1 := Lib.hid ht1
  have NW1 := Lib.hid hnew1
  have Z1 := Lib.hid hz1
  have S1 := Lib.hid hs1
  have N1 := Lib.hid hn1
  clear hd1 ht1 hnew1 hz1 hs1 hn1
  go_wp2_with fail
  have hw := ropenL_any y w1 d ub R1.out
  rw [HO.out] at hw
  refine hw.mono ?_
  clear hw
  rintro e w2 ⟨v2, s2, rv2, rfl, hs2, hn2, ub', hd2, hnew2, ht2⟩
  have K2 := Lib.hid (KeepsOff.of_touch R1.out.typed ht2)
  have D2 := Lib.hid (D1.out.keepsOff K2.out (by decide) (by decide))
  have R2 := Lib.hid hd2
  have T2 : Hid (Touch (fun k => own2 c rb k ∨ k = y) w w2) := Lib.hid (Touch.trans (T1.out.mono (fun _ _ h => .inl h)) ht2 (fun _ _ h => .inr h))
  have NW2 := Lib.hid (hnew2.later (w := w) T1.out.size)
  have SZ1 := Lib.hid T1.out.size
  have S2 := Lib.hid hs2
  have N2 := Lib.hid hn2
  clear hd2 ht2 hnew2 hs2 hn2
  have DK : Hid (∃ rb' ub', DiskAt w2 c E m rb' ∧ RefAt w2 y E ub' ∧ Newer w rb rb' ∧ Newer w ub ub' ∧ (E.dead = true → d.dead = false → rb' = none)) := ⟨_, _, D2.out, R2.out, NW1.out, NW2.out, Z1.out⟩
  cases o with
  | none =>
    obtain ⟨rfl, rfl, rfl⟩ := N1.out rfl
    obtain ⟨rfl, rfl, rfl⟩ := N2.out rfl
    have HB : Hid (BothOpen c y none d E m rb ub w (.pointer none) (.pointer none) w2) := ⟨DK.out, T2.out, (fun _ h => by cases h), fun _ => ⟨rfl, rfl⟩⟩
    clear S1 S2 N1 N2
    go_wp2_with fail
    refine (same_any w2 none none 0 0 [] [] ⟨by decide, by simp⟩ ⟨by decide, by simp⟩).mono ?_
    rw [show decide (([] : List (List UInt8)) = []) = true from decide_eq_true rfl]
    rintro e w3 ⟨rfl, b3⟩
    have HB3 := Lib.hid (HB.out.below b3)
    clear b3
    go_wp2
    go_loopw [15] (fun i wr => i = .int .i64 0 ∧ wr = w3) (fun _ _ => 0)
    case atStart => exact ⟨rfl, rfl⟩
    case round =>
      obtain ⟨rfl, rfl⟩ := hrel
      go_wp2
      refine bodyPost_ret (results_tmp3 rfl _ _ _) rfl ?_
      exact ⟨_, _, rfl, HB3.out⟩
  | some q =>
    obtain ⟨rfl, hrec, x, rfl, hx, hl⟩ := S1.out q rfl
    obtain ⟨rfl, ⟨g2, cap2, rfl, hrow2⟩, z, rfl, hz, hl2⟩ := S2.out q rfl
    have HQF := Lib.hid (HFEW.out q rfl)
    obtain ⟨g, cur, rfl, hgb, hg, hsz, htx⟩ := recs_texts (hrec.keepsOff K2.out (by decide)) (by have := HQF.out; omega)
    have HTX := Lib.hid htx
    have HTY := Lib.hid (own_texts hrow2 (by have := HQF.out; omega))
    have HG := Lib.hid hg
    have HGB := Lib.hid hgb
    have HSZ := Lib.hid hsz
    have HB : Hid (BothOpen c y (some q) d E m rb ub w (.pointer (some ⟨x, 0, none⟩)) (.pointer (some ⟨z, 0, none⟩)) w2) := ⟨DK.out, T2.out, (fun q' h => by cases h; exact ⟨x, z, rfl, rfl, hx, Nat.le_trans SZ1.out hz, hl.keepsOff K2.out (by decide), hl2⟩), (fun h => by cases h)⟩
    have hqn := HQF.out
    clear S1 S2 N1 N2 hrec hl hrow2 hl2 hgb hg hsz htx hx hz
    go_wp2_with fail
    refine (same_any w2 _ _ q.rs.length cap2 q.rs q.rs HTX.out HTY.out).mono ?_
    rw [show decide (q.rs = q.rs) = true from decide_eq_true rfl]
    rintro e w3 ⟨rfl, b3⟩
    have HB3 := Lib.hid (HB.out.below b3)
    have HG3 := Lib.hid (stays HG.out b3)
    clear b3
    go_wp2
    go_loopw [15] (fun i wr => ∃ j : Nat, i = .int .i64 j ∧ j ≤ q.rs.length ∧ Touch (· = g) w3 wr ∧ ∃ cur', wr.heap[g]? = some (.cells cur' 9 (0, 0)) ∧ q.rs.length ≤ cur'.size) (fun i _ => q.rs.length - (intOf i).toNat)
    case atStart => exact ⟨0, rfl, Nat.zero_le _, Touch.refl _ _, cur, HG3.out, HSZ.out⟩
    case round =>
      obtain ⟨j, rfl, hj, ht, cur', hg', hsz'⟩ := hrel
      have HT := Lib.hid ht
      have HGG := Lib.hid hg'
      have HSS := Lib.hid hsz'
      clear ht hsz'
      by_cases hlt : j < q.rs.length
      · have hjc : j < cur'.size := by have := HSS.out; omega
        have hc := cell_of hg' (Array.getElem?_eq_getElem hjc)
        have hf := free_of hg' j
        clear hg'
        go_wp2
        go_roundw
        case rel => exact ⟨j + 1, by go_num, by omega, HT.out.setCell _ (fun _ => rfl), _, heap_set _ HGG.out, by simp; exact HSS.out⟩
        case measure => simp [intOf]; omega
      · obtain rfl : j = q.rs.length := by omega
        clear hg'
        go_wp2
        refine bodyPost_ret (results_tmp3 rfl _ _ _) rfl ?_
        exact ⟨_, _, rfl, HB3.out.wrote HG3.out HGB.out HT.out⟩
end Go.Proofs.Ytpjpknndfhablaa
