/- What the log refuses leaves all as it was; the walk of WalRooms. -/
import Derived.Test.YtpjpknndfhablaaFixW
import Derived.Test.YtpjpknndfhablaaOpen
namespace Go.Proofs.Ytpjpknndfhablaa
open Go.RowKit
theorem Two.texts2 {w : World} {g : Nat} {s t : List UInt8} (h : Two w g s t) : Texts w (some ⟨g, 0, none⟩) [s, t] := by
  obtain ⟨h0, h1, _⟩ := h.cells
  refine ⟨by simp, fun i x hi => ⟨g, 0, rfl, ?_⟩⟩
  match i, hi with
  | 0, hi => simp at hi; subst hi; exact h0
  | 1, hi => simp at hi; subst hi; exact h1
set_option maxHeartbeats 4000000 in
set_option maxRecDepth 100000 in
theorem append_long_any (x c : Nat) (w : World) (l : Wal.LS) (s : List UInt8) (hl : LogAt w x c l) (hdd : l.dead = false) (hlong : 65536 < s.length) (hs : s.length ≤ 140737488355328) :
    Calls Try.prog 38 #[.pointer (some ⟨x, 0, none⟩), .string ⟨s.toArray⟩] w fun e w' => e = .returned (.int .i64 101) ∧ Below w.heap.size w w' := by
  obtain ⟨c0, c1, _, _, c4, _, hlt⟩ := hl.cells
  clear hl
  rw [hdd] at c4
  clear hdd
  go_enter Try.func38, Try.ntmps38
  go_wp2_with fail
  go_ret
  exact ⟨rfl, bthen (balloc _ _) (balloc _ _)⟩
set_option maxHeartbeats 4000000 in
set_option maxRecDepth 100000 in
theorem append_full_any (x c : Nat) (w : World) (l : Wal.LS) (d : DS) (m : Nat) (rb : Option Nat) (s : List UInt8) (hl : LogAt w x c l) (h : DiskAt w c d m rb) (hdd : l.dead = false) (hlong : s.length ≤ 65536) (hfull : 1048576 < d.size l.f + 8 + s.length) :
    Calls Try.prog 38 #[.pointer (some ⟨x, 0, none⟩), .string ⟨s.toArray⟩] w fun e w' => e = .returned (.int .i64 102) ∧ Below w.heap.size w w' := by
  have hmf : ∀ (fn : Fn) (first cap : Array Value) (w : World), (Instr.makeFunc fn first cap).run Try.prog w = .ok (.func fn first cap) w := fun _ _ _ _ => rfl
  have HL := Lib.hid hl
  have HD := Lib.hid h
  have hz := h.1.base_len' l.f
  obtain ⟨z, hzz⟩ : ∃ z, d.size l.f = z := ⟨_, rfl⟩
  rw [hzz] at hz hfull
  have HZ := Lib.hid hzz
  obtain ⟨c0, c1, _, _, c4, _, hlt⟩ := hl.cells
  clear hl h hzz
  rw [hdd] at c4
  clear hdd
  go_enter Try.func38, Try.ntmps38
  go_wp2_with fail
  obtain ⟨wa, hwa⟩ : ∃ wa, wa = w.alloc (.cells #[.pointer (some ⟨x, 0, none⟩)] 59) := ⟨_, rfl⟩
  obtain ⟨w0, hw0⟩ : ∃ w0, w0 = wa.alloc (.cells #[.string ⟨s.toArray⟩] 9) := ⟨_, rfl⟩
  obtain ⟨n0, n1, b0, z0⟩ := log_box w x hwa s hw0
  rw [← hwa, ← hw0]
  clear hwa hw0
  have HD0 := Lib.hid (HD.out.below b0)
  have B0 := Lib.hid b0
  obtain ⟨e0, _, _⟩ := cells1 n0
  obtain ⟨e1, _, _⟩ := cells1 n1
  have f0 := cell_later b0 c0
  have f1 := cell_later b0 c1
  have HB : Hid (∀ w' : World, Below w0.heap.size w0 w' → (Below w0.heap.size w0 w' ∧ w'.cell? ⟨w.heap.size, 0, none⟩ = some (.pointer (some ⟨x, 0, none⟩)) ∧ w'.cell? ⟨w.heap.size + 1, 0, none⟩ = some (.string ⟨s.toArray⟩) ∧ w'.cell? ⟨x, 0, none⟩ = some (.pointer (some ⟨c, 0, none⟩)) ∧ w'.cell? ⟨x, 1, none⟩ = some (.int .i64 (DS.fi l.f)))) :=
    fun w' hb => ⟨hb, cell_later hb e0, cell_later hb e1, cell_later hb f0, cell_later hb f1⟩
  have hwrap : IntKind.i64.wrap (1048568 - (s.length : Int)) = 1048568 - (s.length : Int) := IntWalk.i64_in _ (by omega)
  clear c0 c1 c4 n0 n1 b0 z0
  go_region_held3 (fun w' => Below w0.heap.size w0 w' ∧ w'.cell? ⟨w.heap.size, 0, none⟩ = some (.pointer (some ⟨x, 0, none⟩)) ∧ w'.cell? ⟨w.heap.size + 1, 0, none⟩ = some (.string ⟨s.toArray⟩) ∧ w'.cell? ⟨x, 0, none⟩ = some (.pointer (some ⟨c, 0, none⟩)) ∧ w'.cell? ⟨x, 1, none⟩ = some (.int .i64 (DS.fi l.f)))
    (first | exact HB.out _ (Below.refl _ _).drew | exact HB.out _ (bthen (by assumption : Below w0.heap.size w0 _ ∧ _).1 (by assumption)))
    (first | (go_at_call 22; refine (size_at c _ d m rb l.f (HD0.out.below (by assumption : Below w0.heap.size w0 _ ∧ _).1)).mono ?_; rw [HZ.out]; rintro e w' ⟨rfl, hb⟩))
  rename_i hheld
  have g0 := hheld.2.1
  have HB1 := Lib.hid hheld.1
  clear hheld hb hwrap f0 f1 e0 e1
  go_wp2_with fail
  go_ret
  exact ⟨rfl, bthen B0.out HB1.out⟩
set_option maxHeartbeats 4000000 in
set_option maxRecDepth 100000 in
theorem check_long_any (x c : Nat) (w : World) (l : Wal.LS) (s : List UInt8) (hl : LogAt w x c l) (hdd : l.dead = false) (hlong : 524288 < s.length) (hs : s.length ≤ 140737488355328) :
    Calls Try.prog 39 #[.pointer (some ⟨x, 0, none⟩), .string ⟨s.toArray⟩] w fun e w' => e = .returned (.int .i64 101) ∧ Below w.heap.size w w' := by
  obtain ⟨_, _, c2, _, c4, _, hlt⟩ := hl.cells
  clear hl
  rw [hdd] at c4
  clear hdd
  go_enter Try.func39, Try.ntmps39
  go_wp2_with fail
  go_ret
  exact ⟨rfl, bthen (balloc _ _) (balloc _ _)⟩
theorem Wal.append_taken {l : Wal.LS} {d : DS} {s : List UInt8} (hd : l.dead = false) (h1 : s.length ≤ 65536) (h2 : d.size l.f + 8 + s.length ≤ 1048576) : (Wal.append l d s).2.2 = 0 ∨ (Wal.append l d s).2.2 = 2 := by
  unfold Wal.append
  rw [if_neg (by simp [hd]), if_neg (by omega), if_neg (by omega)]
  split
  · right; rfl
  · left; rfl
theorem Wal.Live.few {l : Wal.LS} {d : DS} {snap : List UInt8} {rs : List (List UInt8)} {m : Nat} (h : Wal.Live l d snap rs m) (hok : d.Ok) : rs.length ≤ 131072 ∧ l.n = rs.length := by
  have h1 := hok.base_len' l.f
  rw [DS.size, (Wal.of_u h).1, List.length_append] at h1
  have := Wal.frames_length_le rs
  exact ⟨by omega, h.n⟩
/-- What stands in the loop of WalRooms. -/
def RoomRel (w wr : World) (x c : Nat) : Prop := ∃ rs l d, Wal.Live l d [] rs 0 ∧ d.armed = 0 ∧ One w wr x c l d (rs.length + 1)
set_option maxHeartbeats 8000000 in
set_option maxRecDepth 100000 in
theorem walRooms_any (w : World) (ao : Option Addr) (ca : Nat) (ts : List (List UInt8)) (hT : Texts w ao ts) (hlen : ∀ s ∈ ts, s.length ≤ 140737488355328) :
    Calls Try.prog 8 #[.slice ao ts.length ca] w fun e w' => e = .returned (.bool true) ∧ Below w.heap.size w w' := by
  have HT := Lib.hid hT
  have htl := hT.1
  clear hT
  have HLEN := Lib.hid hlen
  clear hlen
  go_enter Try.func8, Try.ntmps8
  go_wp2_with fail
  refine (laid10_any w).mono ?_
  rintro e w1 ⟨c, x, rfl, h1⟩
  have H1 : Hid (RoomRel w w1 x c) := ⟨[], _, _, Wal.live0.1, Wal.live0.2, h1⟩
  clear h1
  go_wp2
  go_loopw [5] (fun i wr => ∃ j : Nat, i = .int .i64 j ∧ j ≤ ts.length ∧ RoomRel w wr x c) (fun i _ => ts.length - (intOf i).toNat)
  case atStart => exact ⟨0, rfl, Nat.zero_le _, H1.out⟩
  case round =>
    obtain ⟨j, rfl, hj, rs, l, d, hlive, harm, hone⟩ := hrel
    have HLV := Lib.hid hlive
    have HAR := Lib.hid harm
    have HONE := Lib.hid hone
    have hfew := (hlive.few hone.disk.ok).1
    clear hlive harm hone
    by_cases hlt : j < ts.length
    · obtain ⟨s, hs⟩ : ∃ s, ts[j]? = some s := ⟨_, List.getElem?_eq_getElem hlt⟩
      obtain ⟨b, off, rfl, hbc⟩ := HT.out.2 j s hs
      have hsl := HLEN.out s (List.mem_of_getElem? hs)
      have hbl := cell_lt hbc
      obtain ⟨n, hn⟩ : ∃ n, Wal.room l d = n := ⟨_, rfl⟩
      have HN := Lib.hid hn
      have hn0 := (Wal.room_bounds l d).1
      have hn1 := (Wal.room_bounds l d).2
      rw [hn] at hn0 hn1
      clear hn hs
      go_wp2_with fail
      refine (room_one HONE.out).mono ?_
      rw [HN.out]
      rintro e w2 ⟨rfl, h2, _⟩
      have H2 := Lib.hid h2
      clear h2
      go_wp2_with fail
      refine (files_new H2.out.disk).mono ?_
      rintro e w3 ⟨g, rfl, hg, ht, _, b3⟩
      have H3 := Lib.hid (H2.out.below b3)
      have T3 := Lib.hid ht
      clear b3 ht hg
      by_cases hless : n < 65536
      · obtain ⟨k, hk⟩ : ∃ k : Nat, n + 1 = k := ⟨(n + 1).toNat, by omega⟩
        obtain ⟨z1, w4, hz1, hmk1, hcv1, b4⟩ := make_zeros k k rfl (by omega) w3
        have H4 := Lib.hid (H3.out.below b4)
        have T4 := Lib.hid (T3.out.below b4)
        have HFU : Hid (1048576 < d.size l.f + 8 + z1.length) := Lib.hid (by have := HN.out; unfold Wal.room at this; omega)
        have hkl : k ≤ 65536 := by omega
        clear b4
        go_wp2_with fail
        clear hmk1 hcv1
        obtain ⟨_, hl4, _, _, rb4, hd4, _⟩ := H4.out
        refine (append_full_any x c _ l d _ rb4 z1 hl4 hd4 HLV.out.ld (by omega) HFU.out).mono ?_
        clear hl4 hd4
        rintro e w4' ⟨rfl, b4⟩
        have H4' := Lib.hid (H4.out.below b4)
        have T4' := Lib.hid (T4.out.below b4)
        clear b4
        obtain ⟨z2, w5, hz2, hmk2, hcv2, b5⟩ := make_zeros 65537 65537 rfl (by decide) w4'
        have H5 := Lib.hid (H4'.out.below b5)
        have T5 := Lib.hid (T4'.out.below b5)
        clear b5
        go_wp2_with fail
        clear hmk2 hcv2
        refine (append_long_any x c _ l z2 H5.out.log HLV.out.ld (by omega) (by omega)).mono ?_
        rintro e w6 ⟨rfl, b6⟩
        have H6 := Lib.hid (H5.out.below b6)
        have T6 := Lib.hid (T5.out.below b6)
        clear b6
        obtain ⟨z3, w7, hz3, hmk3, hcv3, b7⟩ := make_zeros 524289 524289 rfl (by decide) w6
        have H7 := Lib.hid (H6.out.below b7)
        have T7 := Lib.hid (T6.out.below b7)
        clear b7
        go_wp2_with fail
        clear hmk3 hcv3
        refine (check_long_any x c _ l z3 H7.out.log HLV.out.ld (by omega) (by omega)).mono ?_
        rintro e w8 ⟨rfl, b8⟩
        have H8 := Lib.hid (H7.out.below b8)
        have T8 := Lib.hid (T7.out.below b8)
        clear b8
        go_wp2_with fail
        refine (files_new H8.out.disk).mono ?_
        rintro e w9 ⟨g9, rfl, _, ht9, _, b9⟩
        have H9 := Lib.hid (H8.out.below b9)
        have T9 := Lib.hid (T8.out.below b9)
        have U9 := Lib.hid ht9
        clear b9 ht9
        go_wp2_with fail
        refine (same_any w9 _ _ 2 2 _ _ U9.out.texts2 T9.out.texts2).mono ?_
        rw [show decide ([d.file false, d.file true] = [d.file false, d.file true]) = true from decide_eq_true rfl]
        rintro e wa ⟨rfl, ba⟩
        have HA := Lib.hid (H9.out.below ba)
        have ka := (HA.out.disk.2.1.cell (p := ⟨b, off + j, none⟩) hbl).trans hbc
        clear ba
        by_cases hlong : 65536 < s.length
        · go_wp2_with fail
          refine (append_long_any x c _ l s HA.out.log HLV.out.ld hlong hsl).mono ?_
          rintro e wb ⟨rfl, bb⟩
          have HB := Lib.hid (HA.out.below bb)
          clear bb
          go_wp2
          go_roundw
          case rel => exact ⟨j + 1, by go_num, by omega, rs, l, d, HLV.out, HAR.out, HB.out⟩
          case measure => simp [intOf]; omega
        by_cases hfull : 1048576 < d.size l.f + 8 + s.length
        · have HF := Lib.hid hfull
          clear hfull
          go_wp2_with fail
          obtain ⟨_, hlA, _, _, rbA, hdA, _⟩ := HA.out
          refine (append_full_any x c _ l d _ rbA s hlA hdA HLV.out.ld (by omega) HF.out).mono ?_
          clear hlA hdA
          rintro e wb ⟨rfl, bb⟩
          have HB := Lib.hid (HA.out.below bb)
          clear bb
          go_wp2
          go_roundw
          case rel => exact ⟨j + 1, by go_num, by omega, rs, l, d, HLV.out, HAR.out, HB.out⟩
          case measure => simp [intOf]; omega
        · have HTK := Lib.hid (Wal.append_taken HLV.out.ld (by omega) (by omega) : (Wal.append l d s).2.2 = 0 ∨ (Wal.append l d s).2.2 = 2)
          obtain ⟨r, hr⟩ : ∃ r, Wal.append l d s = r := ⟨_, rfl⟩
          have HR := Lib.hid hr
          rw [hr] at HTK
          have HLN : Hid (l.n ≤ 4611686018427387904) := Lib.hid (by rw [HLV.out.n]; omega)
          clear hfull hr
          go_wp2_with fail
          refine (append_one HA.out s (by omega) hsl HLN.out).mono ?_
          rw [HR.out]
          rintro e wb ⟨rfl, hb, _, _⟩
          have HB := Lib.hid hb
          clear hb
          go_wp2
          go_roundw
          case rel =>
            rcases Wal.append_live HLV.out s HR.out with ⟨h1, _⟩ | ⟨_, h2, h3⟩ | ⟨_, _, _, h1, _⟩
            · have := HTK.out; omega
            · exact ⟨j + 1, by go_num, by omega, rs ++ [s], r.1, r.2.1, h2, h3 HAR.out, by rw [List.length_append]; exact HB.out⟩
            · exact absurd HAR.out h1
          case measure => simp [intOf]; omega
      · obtain ⟨z2, w5, hz2, hmk2, hcv2, b5⟩ := make_zeros 65537 65537 rfl (by decide) w3
        have H5 := Lib.hid (H3.out.below b5)
        have T5 := Lib.hid (T3.out.below b5)
        clear b5
        go_wp2_with fail
        clear hmk2 hcv2
        refine (append_long_any x c _ l z2 H5.out.log HLV.out.ld (by omega) (by omega)).mono ?_
        rintro e w6 ⟨rfl, b6⟩
        have H6 := Lib.hid (H5.out.below b6)
        have T6 := Lib.hid (T5.out.below b6)
        clear b6
        obtain ⟨z3, w7, hz3, hmk3, hcv3, b7⟩ := make_zeros 524289 524289 rfl (by decide) w6
        have H7 := Lib.hid (H6.out.below b7)
        have T7 := Lib.hid (T6.out.below b7)
        clear b7
        go_wp2_with fail
        clear hmk3 hcv3
        refine (check_long_any x c _ l z3 H7.out.log HLV.out.ld (by omega) (by omega)).mono ?_
        rintro e w8 ⟨rfl, b8⟩
        have H8 := Lib.hid (H7.out.below b8)
        have T8 := Lib.hid (T7.out.below b8)
        clear b8
        go_wp2_with fail
        refine (files_new H8.out.disk).mono ?_
        rintro e w9 ⟨g9, rfl, _, ht9, _, b9⟩
        have H9 := Lib.hid (H8.out.below b9)
        have T9 := Lib.hid (T8.out.below b9)
        have U9 := Lib.hid ht9
        clear b9 ht9
        go_wp2_with fail
        refine (same_any w9 _ _ 2 2 _ _ U9.out.texts2 T9.out.texts2).mono ?_
        rw [show decide ([d.file false, d.file true] = [d.file false, d.file true]) = true from decide_eq_true rfl]
        rintro e wa ⟨rfl, ba⟩
        have HA := Lib.hid (H9.out.below ba)
        have ka := (HA.out.disk.2.1.cell (p := ⟨b, off + j, none⟩) hbl).trans hbc
        clear ba
        by_cases hlong : 65536 < s.length
        · go_wp2_with fail
          refine (append_long_any x c _ l s HA.out.log HLV.out.ld hlong hsl).mono ?_
          rintro e wb ⟨rfl, bb⟩
          have HB := Lib.hid (HA.out.below bb)
          clear bb
          go_wp2
          go_roundw
          case rel => exact ⟨j + 1, by go_num, by omega, rs, l, d, HLV.out, HAR.out, HB.out⟩
          case measure => simp [intOf]; omega
        by_cases hfull : 1048576 < d.size l.f + 8 + s.length
        · have HF := Lib.hid hfull
          clear hfull
          go_wp2_with fail
          obtain ⟨_, hlA, _, _, rbA, hdA, _⟩ := HA.out
          refine (append_full_any x c _ l d _ rbA s hlA hdA HLV.out.ld (by omega) HF.out).mono ?_
          clear hlA hdA
          rintro e wb ⟨rfl, bb⟩
          have HB := Lib.hid (HA.out.below bb)
          clear bb
          go_wp2
          go_roundw
          case rel => exact ⟨j + 1, by go_num, by omega, rs, l, d, HLV.out, HAR.out, HB.out⟩
          case measure => simp [intOf]; omega
        · have HTK := Lib.hid (Wal.append_taken HLV.out.ld (by omega) (by omega) : (Wal.append l d s).2.2 = 0 ∨ (Wal.append l d s).2.2 = 2)
          obtain ⟨r, hr⟩ : ∃ r, Wal.append l d s = r := ⟨_, rfl⟩
          have HR := Lib.hid hr
          rw [hr] at HTK
          have HLN : Hid (l.n ≤ 4611686018427387904) := Lib.hid (by rw [HLV.out.n]; omega)
          clear hfull hr
          go_wp2_with fail
          refine (append_one HA.out s (by omega) hsl HLN.out).mono ?_
          rw [HR.out]
          rintro e wb ⟨rfl, hb, _, _⟩
          have HB := Lib.hid hb
          clear hb
          go_wp2
          go_roundw
          case rel =>
            rcases Wal.append_live HLV.out s HR.out with ⟨h1, _⟩ | ⟨_, h2, h3⟩ | ⟨_, _, _, h1, _⟩
            · have := HTK.out; omega
            · exact ⟨j + 1, by go_num, by omega, rs ++ [s], r.1, r.2.1, h2, h3 HAR.out, by rw [List.length_append]; exact HB.out⟩
            · exact absurd HAR.out h1
          case measure => simp [intOf]; omega
    · obtain rfl : j = ts.length := by omega
      go_wp2_with fail
      refine (fixed10_any wr).mono ?_
      rintro e wf ⟨rfl, bf⟩
      have BF := Lib.hid (HONE.out.below bf)
      clear bf
      go_wp2
      go_ret
      exact ⟨rfl, BF.out.disk.2.1⟩
end Go.Proofs.Ytpjpknndfhablaa
