/- The log's methods Sync, Append, Checkpoint. -/
import Derived.Test.YtpjpknndfhablaaWalH
import Derived.Shelf.Abstract
namespace Go.Proofs.Ytpjpknndfhablaa
open Go.RowKit
theorem not_own {w : World} {k : Nat} {cur : Array Value} {T : TypeId} {fr : Nat × Nat} (hk : w.heap[k]? = some (.cells cur T fr)) (h1 : T ≠ 103) (h2 : T ≠ 106) {c : Nat} {d : DS} {m : Nat} {rb : Option Nat} (hd : DiskAt w c d m rb) : ¬ own2 c rb k := by
  obtain ⟨_, rs, r, hr, _, hrb⟩ := hd
  rintro (rfl | ho)
  · have := hr.blk; rw [hk] at this; simp [diskBlock] at this; exact h1 this.2.1
  · rw [← hrb] at ho
    rcases hr.own.2 with ⟨hv, _⟩ | ⟨g, cap, cur', hv, _, hg, _⟩
    · rw [hv] at ho; cases ho
    · rw [hv] at ho
      have e1 : g = k := Option.some.inj ho
      subst e1
      rw [hk] at hg; simp at hg; exact h2 hg.2.1
/-- What work on a disk leaves of it, told to face. -/
def OnDisk (c : Nat) (d d' : DS) (m : Nat) (rb : Option Nat) (W W' : World) : Prop := ∃ rb', DiskAt W' c d' m rb' ∧ Newer W rb rb' ∧ (d'.dead = true → d.dead = false → rb' = none)
theorem Worked.face {x c : Nat} {w w' W W1 : World} {l1 : Wal.LS} {d d' : DS} {m : Nat} {rb : Option Nat} {r : Int} (h : FaceLeft x c w w' W W1 l1 (own3 c rb x) r (OnDisk c d d' m rb)) (hlt : x < w.heap.size) : Worked x c (faceL l1 r) d d' m rb w w' := by
  obtain ⟨rb', hd, hn, hf⟩ := h.post
  obtain ⟨v, hbox⟩ := h.box
  refine ⟨h.log', ⟨rb', hd.touch h.touch' ?_, hn.later h.below.size, hf⟩, ?_⟩
  · intro k hk ho
    rcases ho with rfl | ⟨_, rfl⟩
    · exact not_own hbox (by decide) (by decide) hd hk
    · exact h.log.apart hd hk
  · refine Touch.trans (Touch.trans (Touch.of_below h.below) h.touch (fun _ _ h => h)) h.touch' (fun k hk ho => ?_)
    rcases ho with rfl | ⟨_, rfl⟩
    · omega
    · exact .inr rfl
theorem Worked.closure {x c : Nat} {l1 : Wal.LS} {d d' : DS} {m : Nat} {rb : Option Nat} {W W' : World} (h : Worked x c l1 d d' m rb W W') : LogAt W' x c l1 ∧ Touch (own3 c rb x) W W' ∧ OnDisk c d d' m rb W W' :=
  ⟨h.log, h.touch, h.disk⟩
theorem own3_lt {w : World} {x c : Nat} {l : Wal.LS} {d : DS} {m : Nat} {rb : Option Nat} (hl : LogAt w x c l) (h : DiskAt w c d m rb) : ∀ k, own3 c rb x k → k < w.heap.size := by
  rintro k ((rfl | hk) | rfl)
  · exact h.lt
  · exact h.rb_lt k hk
  · exact heap_lt hl
/-- What a call on a log leaves, some new blocks laid before and after. -/
theorem Worked.before {x c : Nat} {l1 : Wal.LS} {d d' : DS} {m : Nat} {rb : Option Nat} {w w0 w' : World} (h : Worked x c l1 d d' m rb w0 w') (hb : Below w.heap.size w w0) : Worked x c l1 d d' m rb w w' :=
  ⟨h.log, by obtain ⟨rb', h1, h2, h3⟩ := h.disk; exact ⟨rb', h1, h2.later hb.size, h3⟩, Touch.trans (Touch.of_below hb) h.touch (fun _ _ h => h)⟩
theorem Worked.stay {x c : Nat} {l : Wal.LS} {d : DS} {m : Nat} {rb : Option Nat} {w w' : World} (hl : LogAt w x c l) (h : DiskAt w c d m rb) (hb : Below w.heap.size w w') : Worked x c l d d m rb w w' :=
  ⟨hl.below hb, ⟨rb, h.below hb, Newer.refl _ _, fun h1 h2 => by rw [h1] at h2; cases h2⟩, Touch.of_below hb⟩
theorem Worked.more {x c : Nat} {l : Wal.LS} {d d' : DS} {m n : Nat} {rb : Option Nat} {w w' : World} (h : Worked x c l d d' m rb w w') (hmn : m ≤ n) : Worked x c l d d' n rb w w' :=
  ⟨h.log, by obtain ⟨rb', h1, h2⟩ := h.disk; exact ⟨rb', h1.mono hmn, h2⟩, h.touch⟩
set_option maxHeartbeats 4000000 in
set_option maxRecDepth 100000 in
theorem face_dead (x c : Nat) (v : Value) (w : World) (l : Wal.LS) (hl : LogAt w x c l) (hd : l.dead = true) :
    Calls Try.prog 76 #[.pointer (some ⟨x, 0, none⟩), v] w fun e w' => e = .returned (.int .i64 2) ∧ Below w.heap.size w w' := by
  obtain ⟨_, _, _, _, c4, _, hlt⟩ := hl.cells
  rw [hd] at c4
  clear hl
  go_enter_defers Try.func76, Try.ntmps76
  go_wp2_with fail
  have b0 := balloc w (.cells #[.pointer (some ⟨x, 0, none⟩)] 59)
  have z0 : (w.alloc (.cells #[.pointer (some ⟨x, 0, none⟩)] 59)).heap.size = w.heap.size + 1 := by simp
  generalize w.alloc (.cells #[.pointer (some ⟨x, 0, none⟩)] 59) = wa at b0 z0 ⊢
  have n1 := heap_new wa (.cells #[.int .i64 2] 27)
  have b1 := balloc wa (.cells #[.int .i64 2] 27)
  rw [z0] at n1
  generalize wa.alloc (.cells #[.int .i64 2] 27) = W at n1 b1 ⊢
  have hcell := (cells1 n1).1
  refine ⟨.int .i64 2, ?_, rfl, bthen b0 b1⟩
  simp [results, Try.f76, go_sem, hcell]
set_option maxHeartbeats 4000000 in
set_option maxRecDepth 100000 in
theorem wsync_any (x c : Nat) (w : World) (l : Wal.LS) (d : DS) (m : Nat) (rb : Option Nat) (hl : LogAt w x c l) (h : DiskAt w c d m rb) :
    Calls Try.prog 74 #[.pointer (some ⟨x, 0, none⟩)] w fun e w' => e = .returned (.int .i64 (Wal.sync l d).2.2) ∧ Worked x c (Wal.sync l d).1 d (Wal.sync l d).2.1 m rb w w' := by
  have hmf : ∀ (fn : Fn) (first cap : Array Value) (w : World), (Instr.makeFunc fn first cap).run Try.prog w = .ok (.func fn first cap) w := fun _ _ _ _ => rfl
  have HL := Lib.hid hl
  have HD := Lib.hid h
  clear hl h
  go_enter Try.func74, Try.ntmps74
  go_wp2_with fail
  have n0 := heap_new w (.cells #[.pointer (some ⟨x, 0, none⟩)] 59)
  have b0 := balloc w (.cells #[.pointer (some ⟨x, 0, none⟩)] 59)
  generalize w.alloc (.cells #[.pointer (some ⟨x, 0, none⟩)] 59) = w0 at n0 b0 ⊢
  have HL0 := HL.out.below b0
  have HD0 := HD.out.below b0
  have N0 := Lib.hid n0
  have B0 := Lib.hid b0
  cases hdd : l.dead with
  | true =>
    refine (face_dead x c _ w0 l HL0 hdd).mono ?_
    rintro e w1 ⟨rfl, b1⟩
    have HX : Hid (Wal.sync l d = (l, d, 2)) := Lib.hid (by unfold Wal.sync; rw [if_pos hdd])
    have HW : Hid (Worked x c l d d m rb w w1) := Lib.hid (Worked.stay HL.out HD.out (bthen b0 b1))
    clear n0 b0 b1 HL0 HD0 hdd
    go_wp2_with fail
    go_ret
    rw [HX.out]
    exact ⟨rfl, HW.out⟩
  | false =>
    refine (face_any x c 98 _ w0 l l (own3 c rb x) d.sync.2 (OnDisk c d d.sync.1 m rb) (enters_of Try.func98 (by kernel_rfl) rfl) HL0 hdd (own3_lt HL0 HD0) (fun W hb => ?_)).mono ?_
    · have hn := stays n0 hb
      exact (sync1_any x c w.heap.size W l d m rb (HL0.below hb) (HD0.below hb) (cells1 hn).1 (not_own hn (by decide) (by decide) (HD0.below hb))).mono fun e W' ⟨he, hw⟩ => ⟨he, hw.closure⟩
    · rintro e w1 ⟨rfl, W, W1, hfl⟩
      have HW : Hid (Worked x c (faceL l d.sync.2) d d.sync.1 m rb w w1) := Lib.hid ((Worked.face hfl (heap_lt HL0)).before b0)
      have HX : Hid (Wal.sync l d = (faceL l d.sync.2, d.sync.1, if d.sync.2 = 0 then 0 else 2)) := Lib.hid (by
        unfold Wal.sync faceL
        rw [if_neg (by simp [hdd])]
        by_cases h0 : d.sync.2 = 0
        · rw [if_neg (by simp [h0]), if_pos h0, if_pos h0]
        · rw [if_pos h0, if_neg h0, if_neg h0])
      generalize (if d.sync.2 = 0 then (0 : Int) else 2) = q at HX ⊢
      clear n0 b0 HL0 HD0 hdd hfl
      go_wp2_with fail
      go_ret
      rw [HX.out]
      exact ⟨rfl, HW.out⟩
theorem size_at (c : Nat) (w : World) (d : DS) (m : Nat) (rb : Option Nat) (f : Bool) (h : DiskAt w c d m rb) : Calls Try.prog 22 #[.pointer (some ⟨c, 0, none⟩), .int .i64 (DS.fi f)] w fun e w' => e = .returned (.int .i64 (d.size f)) ∧ Below w.heap.size w w' := by
  obtain ⟨ok, rs, r, hr, _, _⟩ := h
  have := size_any c w d rs r (DS.fi f) hr ok
  have e : d.sizeI (DS.fi f) = (d.size f : Int) := by simp [DS.sizeI, DS.fileNo_of]
  rwa [e] at this
theorem log_box (w : World) (x : Nat) {wa : World} (h : wa = w.alloc (.cells #[.pointer (some ⟨x, 0, none⟩)] 59)) (s : List UInt8) {wb : World} (h' : wb = wa.alloc (.cells #[.string ⟨s.toArray⟩] 9)) :
    wb.heap[w.heap.size]? = some (.cells #[.pointer (some ⟨x, 0, none⟩)] 59 (0, 0)) ∧ wb.heap[w.heap.size + 1]? = some (.cells #[.string ⟨s.toArray⟩] 9 (0, 0)) ∧ Below w.heap.size w wb ∧ wb.heap.size = w.heap.size + 2 := by
  subst h; subst h'
  have z0 : (w.alloc (.cells #[.pointer (some ⟨x, 0, none⟩)] 59)).heap.size = w.heap.size + 1 := by simp
  refine ⟨stays (heap_new w _) (balloc _ _), ?_, bthen (balloc _ _) (balloc _ _), by simp⟩
  have := heap_new (w.alloc (.cells #[.pointer (some ⟨x, 0, none⟩)] 59)) (.cells #[.string ⟨s.toArray⟩] 9)
  rwa [z0] at this
theorem append_faceL (l : Wal.LS) (r : Int) (n : Nat) : faceL (if r = 0 then { l with n := n } else l) r = if r = 0 then { l with n := n } else { l with dead := true } := by
  unfold faceL
  by_cases h : r = 0
  · rw [if_pos h, if_pos h]; simp [h]
  · rw [if_neg h, if_neg h, if_neg h]
set_option maxHeartbeats 4000000 in
set_option maxRecDepth 100000 in
theorem wappend_any (x c : Nat) (w : World) (l : Wal.LS) (d : DS) (m : Nat) (rb : Option Nat) (s : List UInt8) (hl : LogAt w x c l) (h : DiskAt w c d m rb) (hm : m < 5000000000000) (hs : s.length ≤ 140737488355328) (hln : l.n ≤ 4611686018427387904) :
    Calls Try.prog 38 #[.pointer (some ⟨x, 0, none⟩), .string ⟨s.toArray⟩] w fun e w' => e = .returned (.int .i64 (Wal.append l d s).2.2) ∧ Worked x c (Wal.append l d s).1 d (Wal.append l d s).2.1 (m + 1) rb w w' := by
  have hmf : ∀ (fn : Fn) (first cap : Array Value) (w : World), (Instr.makeFunc fn first cap).run Try.prog w = .ok (.func fn first cap) w := fun _ _ _ _ => rfl
  have HL := Lib.hid hl
  have HD := Lib.hid h
  have hz := h.1.base_len' l.f
  obtain ⟨z, hzz⟩ : ∃ z, d.size l.f = z := ⟨_, rfl⟩
  rw [hzz] at hz
  have HZ := Lib.hid hzz
  obtain ⟨c0, c1, _, _, c4, _, hlt⟩ := hl.cells
  clear hl h hzz
  cases hdd : l.dead with
  | true =>
    rw [hdd] at c4
    have HX : Hid (Wal.append l d s = (l, d, 2)) := Lib.hid (by unfold Wal.append; rw [if_pos hdd])
    clear hdd
    go_enter Try.func38, Try.ntmps38
    go_wp2_with fail
    go_ret
    rw [HX.out]
    exact ⟨rfl, (Worked.stay HL.out HD.out (bthen (balloc _ _) (balloc _ _))).more (by omega)⟩
  | false =>
    rw [hdd] at c4
    have HDD := Lib.hid hdd
    clear hdd
    by_cases hlong : 65536 < s.length
    · have HX : Hid (Wal.append l d s = (l, d, 101)) := Lib.hid (by unfold Wal.append; rw [if_neg (by simp [HDD.out]), if_pos hlong])
      go_enter Try.func38, Try.ntmps38
      go_wp2_with fail
      go_ret
      rw [HX.out]
      exact ⟨rfl, (Worked.stay HL.out HD.out (bthen (balloc _ _) (balloc _ _))).more (by omega)⟩
    · go_enter Try.func38, Try.ntmps38
      go_wp2_with fail
      obtain ⟨wa, hwa⟩ : ∃ wa, wa = w.alloc (.cells #[.pointer (some ⟨x, 0, none⟩)] 59) := ⟨_, rfl⟩
      obtain ⟨w0, hw0⟩ : ∃ w0, w0 = wa.alloc (.cells #[.string ⟨s.toArray⟩] 9) := ⟨_, rfl⟩
      obtain ⟨n0, n1, b0, z0⟩ := log_box w x hwa s hw0
      rw [← hwa, ← hw0]
      clear hwa hw0
      have HL0 := Lib.hid (HL.out.below b0)
      have HD0 := Lib.hid (HD.out.below b0)
      have N0 := Lib.hid n0
      have N1 := Lib.hid n1
      have B0 := Lib.hid b0
      have Z0 := Lib.hid z0
      obtain ⟨e0, _, _⟩ := cells1 n0
      obtain ⟨e1, _, _⟩ := cells1 n1
      have f0 := cell_later b0 c0
      have f1 := cell_later b0 c1
      have HB : Hid (∀ w' : World, Below w0.heap.size w0 w' → (Below w0.heap.size w0 w' ∧ w'.cell? ⟨w.heap.size, 0, none⟩ = some (.pointer (some ⟨x, 0, none⟩)) ∧ w'.cell? ⟨w.heap.size + 1, 0, none⟩ = some (.string ⟨s.toArray⟩) ∧ w'.cell? ⟨x, 0, none⟩ = some (.pointer (some ⟨c, 0, none⟩)) ∧ w'.cell? ⟨x, 1, none⟩ = some (.int .i64 (DS.fi l.f)))) :=
        fun w' hb => ⟨hb, cell_later hb e0, cell_later hb e1, cell_later hb f0, cell_later hb f1⟩
      have hwrap : IntKind.i64.wrap (1048568 - (s.length : Int)) = 1048568 - (s.length : Int) := IntWalk.i64_in _ (by omega)
      clear c0 c1 c4 n0 n1 b0 z0
      go_region_held3 (fun w' => Below w0.heap.size w0 w' ∧ w'.cell? ⟨w.heap.size, 0, none⟩ = some (.pointer (some ⟨x, 0, none⟩)) ∧ w'.cell? ⟨w.heap.size + 1, 0, none⟩ = some (.string ⟨s.toArray⟩) ∧ w'.cell? ⟨x, 0, none⟩ = some (.pointer (some ⟨c, 0, none⟩)) ∧ w'.cell? ⟨x, 1, none⟩ = some (.int .i64 (DS.fi l.f)))
        (first | exact HB.out _ (Below.refl _ _).drew | exact HB.out _ (bthen (by assumption : Below w0.heap.size w0 _ ∧ _).1 (by assumption)))
        (first | (go_at_call 22; refine (size_at c _ d m rb l.f (HD0.out.below (by assumption : Below w0.heap.size w0 _ ∧ _).1)).mono ?_; rw [HZ.out]; rintro e w' ⟨rfl, hb⟩))
      rename_i hheld
      have g0 := hheld.2.1
      have HB1 := Lib.hid hheld.1
      clear hheld hb hwrap f0 f1 e0 e1
      by_cases hfull : 1048576 < z + 8 + s.length
      · have HX : Hid (Wal.append l d s = (l, d, 102)) := Lib.hid (by unfold Wal.append; rw [if_neg (by simp [HDD.out]), if_neg hlong, HZ.out, if_pos hfull])
        go_wp2_with fail
        go_ret
        rw [HX.out]
        exact ⟨rfl, (Worked.stay HL.out HD.out (bthen B0.out HB1.out)).more (by omega)⟩
      · go_wp2_with fail
        have HLx := HL0.out.below HB1.out
        have HDx := HD0.out.below HB1.out
        obtain ⟨r, hr⟩ : ∃ r, (d.append (DS.fi l.f) (Wal.frame s)).2 = r := ⟨_, rfl⟩
        obtain ⟨E, hE⟩ : ∃ E, (d.append (DS.fi l.f) (Wal.frame s)).1 = E := ⟨_, rfl⟩
        refine (face_any x c 77 _ w' l (if r = 0 then { l with n := l.n + 1 } else l) (own3 c rb x) r (OnDisk c d E (m + 1) rb) (enters_of Try.func77 (by kernel_rfl) rfl) HLx HDD.out (own3_lt HLx HDx) (fun W hb => ?_)).mono ?_
        · have hn0 := stays (stays N0.out HB1.out) hb
          have hn1 := stays (stays N1.out HB1.out) hb
          have := wappend1_any x c w.heap.size (w.heap.size + 1) W l d m rb s (HLx.below hb) (HDx.below hb) hm (by omega) hln (cells1 hn0).1 (cells1 hn1).1 (not_own hn0 (by decide) (by decide) (HDx.below hb)) (not_own hn1 (by decide) (by decide) (HDx.below hb)) (by omega)
          rw [hr, hE] at this
          exact this.mono fun e W' ⟨he, hw⟩ => ⟨he, hw.closure⟩
        · rintro e w1 ⟨rfl, W, W1, hfl⟩
          have HW : Hid (Worked x c (faceL (if r = 0 then { l with n := l.n + 1 } else l) r) d E (m + 1) rb w w1) := Lib.hid ((Worked.face hfl (heap_lt HLx)).before (bthen B0.out HB1.out))
          have HX : Hid (Wal.append l d s = (faceL (if r = 0 then { l with n := l.n + 1 } else l) r, E, if r = 0 then 0 else 2)) := Lib.hid (by
            unfold Wal.append
            rw [if_neg (by simp [HDD.out]), if_neg hlong, HZ.out, if_neg hfull, hr, hE, append_faceL]
            by_cases h0 : r = 0
            · rw [if_neg (by simp [h0]), if_pos h0, if_pos h0]
            · rw [if_pos h0, if_neg h0, if_neg h0])
          generalize (if r = 0 then (0 : Int) else 2) = q at HX ⊢
          clear HLx HDx hfl hr hE g0
          go_wp2_with fail
          go_ret
          rw [HX.out]
          exact ⟨rfl, HW.out⟩
end Go.Proofs.Ytpjpknndfhablaa
