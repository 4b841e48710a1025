/- Whatever script: WalDoes answers true, and each argument reads afterwards as it read before. No condition. (Walks of the law's pair: does, call by call; and of WalDoes.) -/
import Derived.Test.YtpjpknndfhablaaWdoX
namespace Go.Proofs.Ytpjpknndfhablaa
section
open Go.RowKit
def Done (w : World) (e : EntW) (m' : Nat) (r : Ending) (w' : World) : Prop := r = .returned (.bool true) ∧ ∃ e', Turned w w' e e' m'
theorem Turned.mono {w w' : World} {e e' : EntW} {m n : Nat} (h : Turned w w' e e' m) (hmn : m ≤ n) : Turned w w' e e' n := ⟨h.stands.mono hmn, h.same, h.touch, h.newer⟩
set_option maxHeartbeats 4000000 in
set_option maxRecDepth 100000 in
theorem pdoes_append (w : World) (e : EntW) (m : Nat) (h : EntAt w e m) (on a b : Int) (s : List UInt8) (hs : s.length ≤ 140737488355328) (hm : m < 4500000000000) :
    Calls Try.prog 54 #[.pointer (some ⟨e.p, 0, none⟩), .agg #[.int .i64 on, .int .i64 0, .int .i64 a, .int .i64 b, .string ⟨s.toArray⟩]] w (Done w e (m + 1)) := by
  have H := Lib.hid h
  have hn := h.n
  have hg := h.g
  clear h
  obtain ⟨p, x, c, z, y, rb, ub, l, d⟩ := e
  obtain ⟨Q, hQ⟩ : ∃ Q, Wal.append l d s = Q := ⟨_, rfl⟩
  have HQ := Lib.hid hQ
  have HNG : Hid (Q.1.n ≤ 2000000 + (m + 1) ∧ Q.1.g ≤ 4611686018427387904) := Lib.hid (by
    try simp only at hn hg
    have := Wal.append_ng l d s
    rw [hQ] at this
    omega)
  clear hQ
  go_enter Try.func54, Try.ntmps54
  go_wp2_with fail
  obtain ⟨B3, hB3⟩ : ∃ B, w.heap.size = B := ⟨_, rfl⟩
  obtain ⟨wa, hwa⟩ : ∃ W, w.alloc (.cells #[.int .i64 on, .int .i64 0, .int .i64 a, .int .i64 b, .string ⟨s.toArray⟩] 65) = W := ⟨_, rfl⟩
  have hop := heap_new w (.cells #[.int .i64 on, .int .i64 0, .int .i64 a, .int .i64 b, .string ⟨s.toArray⟩] 65)
  have hba := balloc w (.cells #[.int .i64 on, .int .i64 0, .int .i64 a, .int .i64 b, .string ⟨s.toArray⟩] 65)
  rw [hwa, hB3] at hop
  rw [hwa] at hba
  try rw [hwa]
  try rw [hB3]
  have HBA := Lib.hid hba
  have HOP := Lib.hid hop
  have HA := Lib.hid (H.out.below hba)
  try simp only at hn hg
  have p0 := cell_of (i := 0) HA.out.pair rfl
  have p2 := cell_of (i := 2) HA.out.pair rfl
  have o4 := cell_of (i := 4) hop rfl
  try simp only at p0 p2
  clear hB3 hwa hop hba
  go_region_held3 (fun w' => w'.cell? ⟨p, 0, none⟩ = some (.pointer (some ⟨x, 0, none⟩)) ∧ w'.cell? ⟨p, 2, none⟩ = some (.pointer (some ⟨z, 0, none⟩)) ∧ w'.cell? ⟨B3, 4, none⟩ = some (.string ⟨s.toArray⟩))
    (first | exact ⟨p0, p2, o4⟩ | exact ⟨q0, q2, r4⟩ | exact ⟨s0, s2, t4⟩)
    (first
      | (go_at_call 38; have hx := HA.out.below (Below.refl _ _).drew; refine (wappend_any x c _ l d m rb s hx.log hx.disk (by omega) hs (by omega)).mono ?_; rw [HQ.out]; rintro r wb ⟨rfl, hw⟩; obtain ⟨rb', hmid⟩ := mid_of_worked hx hw; clear hw; have HM := Lib.hid hmid; have hkb := KeepsOff.of_touch hx.typed hmid.touch; have HOB := Lib.hid (hkb.cells (show wa.drew.heap[B3]? = _ from HOP.out) (by decide)); have HTY := Lib.hid hx.typed; have q0 := cell_of (i := 0) hmid.pair rfl; have q2 := cell_of (i := 2) hmid.pair rfl; have r4 := cell_of (i := 4) HOB.out rfl; simp only at q0 q2; clear hmid hkb hx)
      | (go_at_call 91; refine (rappendL_any z y _ l d ub s HM.out.rlog HM.out.ref (by omega) (by omega)).mono ?_; rw [HQ.out]; rintro r wc ⟨rfl, hr⟩; obtain ⟨e', ht, hpair⟩ := mid_end HM.out hr (by have := HNG.out.1; omega) HNG.out.2; clear hr; have HT := Lib.hid ht; have hkc := KeepsOff.of_touch HTY.out ht.touch; have HOC := Lib.hid (hkc.cells (show wa.drew.heap[B3]? = _ from HOP.out) (by decide)); have s0 := cell_of (i := 0) hpair rfl; have s2 := cell_of (i := 2) hpair rfl; have t4 := cell_of (i := 4) HOC.out rfl; simp only at s0 s2; clear ht hkc))
  go_wp2
  go_ret
  exact ⟨rfl, e', Turned.before H.out (bthen HBA.out (Below.refl _ _).drew) (HT.out.mono (by omega))⟩
set_option maxHeartbeats 4000000 in
set_option maxRecDepth 100000 in
theorem pdoes_sync (w : World) (e : EntW) (m : Nat) (h : EntAt w e m) (on a b : Int) (s : List UInt8) :
    Calls Try.prog 54 #[.pointer (some ⟨e.p, 0, none⟩), .agg #[.int .i64 on, .int .i64 1, .int .i64 a, .int .i64 b, .string ⟨s.toArray⟩]] w (Done w e (m + 1)) := by
  have H := Lib.hid h
  have hn := h.n
  have hg := h.g
  clear h
  obtain ⟨p, x, c, z, y, rb, ub, l, d⟩ := e
  obtain ⟨Q, hQ⟩ : ∃ Q, Wal.sync l d = Q := ⟨_, rfl⟩
  have HQ := Lib.hid hQ
  have HNG : Hid (Q.1.n ≤ 2000000 + m ∧ Q.1.g ≤ 4611686018427387904) := Lib.hid (by
    try simp only at hn hg
    have := Wal.sync_ng l d
    rw [hQ] at this
    omega)
  clear hQ
  go_enter Try.func54, Try.ntmps54
  go_wp2_with fail
  obtain ⟨B3, hB3⟩ : ∃ B, w.heap.size = B := ⟨_, rfl⟩
  obtain ⟨wa, hwa⟩ : ∃ W, w.alloc (.cells #[.int .i64 on, .int .i64 1, .int .i64 a, .int .i64 b, .string ⟨s.toArray⟩] 65) = W := ⟨_, rfl⟩
  have hop := heap_new w (.cells #[.int .i64 on, .int .i64 1, .int .i64 a, .int .i64 b, .string ⟨s.toArray⟩] 65)
  have hba := balloc w (.cells #[.int .i64 on, .int .i64 1, .int .i64 a, .int .i64 b, .string ⟨s.toArray⟩] 65)
  rw [hwa, hB3] at hop
  rw [hwa] at hba
  try rw [hwa]
  try rw [hB3]
  have HBA := Lib.hid hba
  have HOP := Lib.hid hop
  have HA := Lib.hid (H.out.below hba)
  try simp only at hn hg
  have p0 := cell_of (i := 0) HA.out.pair rfl
  have p2 := cell_of (i := 2) HA.out.pair rfl
  try simp only at p0 p2
  clear hB3 hwa hop hba
  go_region_held3 (fun w' => w'.cell? ⟨p, 0, none⟩ = some (.pointer (some ⟨x, 0, none⟩)) ∧ w'.cell? ⟨p, 2, none⟩ = some (.pointer (some ⟨z, 0, none⟩)))
    (first | exact ⟨p0, p2⟩ | exact ⟨q0, q2⟩ | exact ⟨s0, s2⟩)
    (first
      | (go_at_call 74; have hx := HA.out.below (Below.refl _ _).drew; refine (wsync_any x c _ l d m rb hx.log hx.disk).mono ?_; rw [HQ.out]; rintro r wb ⟨rfl, hw⟩; obtain ⟨rb', hmid⟩ := mid_of_worked hx hw; clear hw; have HM := Lib.hid hmid; have hkb := KeepsOff.of_touch hx.typed hmid.touch; have HTY := Lib.hid hx.typed; have q0 := cell_of (i := 0) hmid.pair rfl; have q2 := cell_of (i := 2) hmid.pair rfl; simp only at q0 q2; clear hmid hkb hx)
      | (go_at_call 92; refine (rsyncL_any z y _ l d ub HM.out.rlog HM.out.ref).mono ?_; rw [HQ.out]; rintro r wc ⟨rfl, hr⟩; obtain ⟨e', ht, hpair⟩ := mid_end HM.out hr (by have := HNG.out.1; omega) HNG.out.2; clear hr; have HT := Lib.hid ht; have hkc := KeepsOff.of_touch HTY.out ht.touch; have s0 := cell_of (i := 0) hpair rfl; have s2 := cell_of (i := 2) hpair rfl; simp only at s0 s2; clear ht hkc))
  go_wp2
  go_ret
  exact ⟨rfl, e', Turned.before H.out (bthen HBA.out (Below.refl _ _).drew) (HT.out.mono (by omega))⟩
set_option maxHeartbeats 4000000 in
set_option maxRecDepth 100000 in
theorem pdoes_check (w : World) (e : EntW) (m : Nat) (h : EntAt w e m) (on a b : Int) (s : List UInt8) (hs : s.length ≤ 140737488355328) (hm : m < 4500000000000) :
    Calls Try.prog 54 #[.pointer (some ⟨e.p, 0, none⟩), .agg #[.int .i64 on, .int .i64 2, .int .i64 a, .int .i64 b, .string ⟨s.toArray⟩]] w (Done w e (m + 1)) := by
  have H := Lib.hid h
  have hn := h.n
  have hg := h.g
  clear h
  obtain ⟨p, x, c, z, y, rb, ub, l, d⟩ := e
  obtain ⟨Q, hQ⟩ : ∃ Q, Wal.checkpoint l d s = Q := ⟨_, rfl⟩
  have HQ := Lib.hid hQ
  have HNG : Hid (Q.1.n ≤ 2000000 + (m + 1) ∧ Q.1.g ≤ 4611686018427387904) := Lib.hid (by
    try simp only at hn hg
    have := Wal.check_ng l d s hg
    rw [hQ] at this
    omega)
  clear hQ
  go_enter Try.func54, Try.ntmps54
  go_wp2_with fail
  obtain ⟨B3, hB3⟩ : ∃ B, w.heap.size = B := ⟨_, rfl⟩
  obtain ⟨wa, hwa⟩ : ∃ W, w.alloc (.cells #[.int .i64 on, .int .i64 2, .int .i64 a, .int .i64 b, .string ⟨s.toArray⟩] 65) = W := ⟨_, rfl⟩
  have hop := heap_new w (.cells #[.int .i64 on, .int .i64 2, .int .i64 a, .int .i64 b, .string ⟨s.toArray⟩] 65)
  have hba := balloc w (.cells #[.int .i64 on, .int .i64 2, .int .i64 a, .int .i64 b, .string ⟨s.toArray⟩] 65)
  rw [hwa, hB3] at hop
  rw [hwa] at hba
  try rw [hwa]
  try rw [hB3]
  have HBA := Lib.hid hba
  have HOP := Lib.hid hop
  have HA := Lib.hid (H.out.below hba)
  try simp only at hn hg
  have p0 := cell_of (i := 0) HA.out.pair rfl
  have p2 := cell_of (i := 2) HA.out.pair rfl
  have o4 := cell_of (i := 4) hop rfl
  try simp only at p0 p2
  clear hB3 hwa hop hba
  go_region_held3 (fun w' => w'.cell? ⟨p, 0, none⟩ = some (.pointer (some ⟨x, 0, none⟩)) ∧ w'.cell? ⟨p, 2, none⟩ = some (.pointer (some ⟨z, 0, none⟩)) ∧ w'.cell? ⟨B3, 4, none⟩ = some (.string ⟨s.toArray⟩))
    (first | exact ⟨p0, p2, o4⟩ | exact ⟨q0, q2, r4⟩ | exact ⟨s0, s2, t4⟩)
    (first
      | (go_at_call 39; have hx := HA.out.below (Below.refl _ _).drew; refine (wcheck_any x c _ l d m rb s hx.log hx.disk (by omega) hs hg).mono ?_; rw [HQ.out]; rintro r wb ⟨rfl, hw⟩; obtain ⟨rb', hmid⟩ := mid_of_worked hx hw; clear hw; have HM := Lib.hid hmid; have hkb := KeepsOff.of_touch hx.typed hmid.touch; have HOB := Lib.hid (hkb.cells (show wa.drew.heap[B3]? = _ from HOP.out) (by decide)); have HTY := Lib.hid hx.typed; have q0 := cell_of (i := 0) hmid.pair rfl; have q2 := cell_of (i := 2) hmid.pair rfl; have r4 := cell_of (i := 4) HOB.out rfl; simp only at q0 q2; clear hmid hkb hx)
      | (go_at_call 93; refine (rcheckL_any z y _ l d ub s HM.out.rlog HM.out.ref (by omega) hg).mono ?_; rw [HQ.out]; rintro r wc ⟨rfl, hr⟩; obtain ⟨e', ht, hpair⟩ := mid_end HM.out hr (by have := HNG.out.1; omega) HNG.out.2; clear hr; have HT := Lib.hid ht; have hkc := KeepsOff.of_touch HTY.out ht.touch; have HOC := Lib.hid (hkc.cells (show wa.drew.heap[B3]? = _ from HOP.out) (by decide)); have s0 := cell_of (i := 0) hpair rfl; have s2 := cell_of (i := 2) hpair rfl; have t4 := cell_of (i := 4) HOC.out rfl; simp only at s0 s2; clear ht hkc))
  go_wp2
  go_ret
  exact ⟨rfl, e', Turned.before H.out (bthen HBA.out (Below.refl _ _).drew) (HT.out.mono (by omega))⟩
set_option maxHeartbeats 4000000 in
set_option maxRecDepth 100000 in
theorem pdoes_arm (w : World) (e : EntW) (m : Nat) (h : EntAt w e m) (on a b : Int) (s : List UInt8) (ha : a ≤ 9223372036854775807) (hb : b ≤ 9223372036854775807) :
    Calls Try.prog 54 #[.pointer (some ⟨e.p, 0, none⟩), .agg #[.int .i64 on, .int .i64 3, .int .i64 a, .int .i64 b, .string ⟨s.toArray⟩]] w (Done w e (m + 1)) := by
  have H := Lib.hid h
  have hn := h.n
  have hg := h.g
  clear h
  obtain ⟨p, x, c, z, y, rb, ub, l, d⟩ := e
  go_enter Try.func54, Try.ntmps54
  go_wp2_with fail
  obtain ⟨B3, hB3⟩ : ∃ B, w.heap.size = B := ⟨_, rfl⟩
  obtain ⟨wa, hwa⟩ : ∃ W, w.alloc (.cells #[.int .i64 on, .int .i64 3, .int .i64 a, .int .i64 b, .string ⟨s.toArray⟩] 65) = W := ⟨_, rfl⟩
  have hop := heap_new w (.cells #[.int .i64 on, .int .i64 3, .int .i64 a, .int .i64 b, .string ⟨s.toArray⟩] 65)
  have hba := balloc w (.cells #[.int .i64 on, .int .i64 3, .int .i64 a, .int .i64 b, .string ⟨s.toArray⟩] 65)
  rw [hwa, hB3] at hop
  rw [hwa] at hba
  try rw [hwa]
  try rw [hB3]
  have HBA := Lib.hid hba
  have HOP := Lib.hid hop
  have HA := Lib.hid (H.out.below hba)
  try simp only at hn hg
  have p1 := cell_of (i := 1) HA.out.pair rfl
  have p3 := cell_of (i := 3) HA.out.pair rfl
  have o2 := cell_of (i := 2) hop rfl
  have o3 := cell_of (i := 3) hop rfl
  try simp only at p1 p3
  clear hB3 hwa hop hba
  go_region_held3 (fun w' => w'.cell? ⟨p, 1, none⟩ = some (.pointer (some ⟨c, 0, none⟩)) ∧ w'.cell? ⟨p, 3, none⟩ = some (.pointer (some ⟨y, 0, none⟩)) ∧ w'.cell? ⟨B3, 2, none⟩ = some (.int .i64 a) ∧ w'.cell? ⟨B3, 3, none⟩ = some (.int .i64 b))
    (first | exact ⟨p1, p3, o2, o3⟩ | exact ⟨q1, q3, r2, r3⟩ | exact ⟨s1, s3, t2, t3⟩)
    (first
      | (go_at_call 30; have hx := HA.out.below (Below.refl _ _).drew; refine (arm_any c _ d m rb a b hx.disk ha hb).mono ?_; rintro r wb ⟨rfl, hd', ht'⟩; have hmid := mid_of_disk hx hd' (Newer.refl _ _) ht'; clear hd' ht'; have HM := Lib.hid hmid; have hkb := KeepsOff.of_touch hx.typed hmid.touch; have HOB := Lib.hid (hkb.cells (show wa.drew.heap[B3]? = _ from HOP.out) (by decide)); have HTY := Lib.hid hx.typed; have q1 := cell_of (i := 1) hmid.pair rfl; have q3 := cell_of (i := 3) hmid.pair rfl; have r2 := cell_of (i := 2) HOB.out rfl; have r3 := cell_of (i := 3) HOB.out rfl; simp only at q1 q3; clear hmid hkb hx)
      | (go_at_call 42; refine (rarm_any y _ d ub a b HM.out.ref ha hb).mono ?_; rintro r wc ⟨rfl, hd', ht'⟩; obtain ⟨e', ht, hpair, _⟩ := mid_end_ref HM.out hd' ht' hn hg; clear hd' ht'; have HT := Lib.hid ht; have hkc := KeepsOff.of_touch HTY.out ht.touch; have HOC := Lib.hid (hkc.cells (show wa.drew.heap[B3]? = _ from HOP.out) (by decide)); have s1 := cell_of (i := 1) hpair rfl; have s3 := cell_of (i := 3) hpair rfl; have t2 := cell_of (i := 2) HOC.out rfl; have t3 := cell_of (i := 3) HOC.out rfl; simp only at s1 s3; clear ht hkc))
  go_wp2
  go_ret
  exact ⟨rfl, e', Turned.before H.out (bthen HBA.out (Below.refl _ _).drew) (HT.out.mono (by omega))⟩
set_option maxHeartbeats 4000000 in
set_option maxRecDepth 100000 in
theorem pdoes_other (w : World) (e : EntW) (m : Nat) (h : EntAt w e m) (on k a b : Int) (s : List UInt8) (n0 : (k == 0) = false) (n1 : (k == 1) = false) (n2 : (k == 2) = false) (n3 : (k == 3) = false) (n4 : (k == 4) = false) :
    Calls Try.prog 54 #[.pointer (some ⟨e.p, 0, none⟩), .agg #[.int .i64 on, .int .i64 k, .int .i64 a, .int .i64 b, .string ⟨s.toArray⟩]] w (Done w e (m + 1)) := by
  have H := Lib.hid h
  have hn := h.n
  have hg := h.g
  clear h
  obtain ⟨p, x, c, z, y, rb, ub, l, d⟩ := e
  go_enter Try.func54, Try.ntmps54
  go_wp2
  obtain ⟨B3, hB3⟩ : ∃ B, w.heap.size = B := ⟨_, rfl⟩
  obtain ⟨wa, hwa⟩ : ∃ W, w.alloc (.cells #[.int .i64 on, .int .i64 k, .int .i64 a, .int .i64 b, .string ⟨s.toArray⟩] 65) = W := ⟨_, rfl⟩
  have hop := heap_new w (.cells #[.int .i64 on, .int .i64 k, .int .i64 a, .int .i64 b, .string ⟨s.toArray⟩] 65)
  have hba := balloc w (.cells #[.int .i64 on, .int .i64 k, .int .i64 a, .int .i64 b, .string ⟨s.toArray⟩] 65)
  rw [hwa, hB3] at hop
  rw [hwa] at hba
  try rw [hwa]
  try rw [hB3]
  have HBA := Lib.hid hba
  have HOP := Lib.hid hop
  have HA := Lib.hid (H.out.below hba)
  try simp only at hn hg
  clear hB3 hwa hop
  go_ret
  exact ⟨rfl, _, Turned.refl H.out (by first | exact hba | exact balloc _ _) |>.mono (by omega)⟩
set_option maxHeartbeats 4000000 in
set_option maxRecDepth 100000 in
theorem pdoes_crash (w : World) (e : EntW) (m : Nat) (h : EntAt w e m) (on a b : Int) (s : List UInt8) (ha : a ≤ 9223372036854775807) :
    Calls Try.prog 54 #[.pointer (some ⟨e.p, 0, none⟩), .agg #[.int .i64 on, .int .i64 4, .int .i64 a, .int .i64 b, .string ⟨s.toArray⟩]] w (Done w e (m + 1)) := by
  have H := Lib.hid h
  have hn := h.n
  have hg := h.g
  clear h
  obtain ⟨p, x, c, z, y, rb, ub, l, d⟩ := e
  go_enter Try.func54, Try.ntmps54
  go_wp2_with fail
  obtain ⟨B3, hB3⟩ : ∃ B, w.heap.size = B := ⟨_, rfl⟩
  obtain ⟨wa, hwa⟩ : ∃ W, w.alloc (.cells #[.int .i64 on, .int .i64 4, .int .i64 a, .int .i64 b, .string ⟨s.toArray⟩] 65) = W := ⟨_, rfl⟩
  have hop := heap_new w (.cells #[.int .i64 on, .int .i64 4, .int .i64 a, .int .i64 b, .string ⟨s.toArray⟩] 65)
  have hba := balloc w (.cells #[.int .i64 on, .int .i64 4, .int .i64 a, .int .i64 b, .string ⟨s.toArray⟩] 65)
  rw [hwa, hB3] at hop
  rw [hwa] at hba
  try rw [hwa]
  try rw [hB3]
  have HBA := Lib.hid hba
  have HOP := Lib.hid hop
  have HA := Lib.hid (H.out.below hba)
  try simp only at hn hg
  have p1 := cell_of (i := 1) HA.out.pair rfl
  have p3 := cell_of (i := 3) HA.out.pair rfl
  have o2 := cell_of (i := 2) hop rfl
  try simp only at p1 p3
  clear hB3 hwa hop hba
  go_region_held3 (fun w' => w'.cell? ⟨p, 1, none⟩ = some (.pointer (some ⟨c, 0, none⟩)) ∧ w'.cell? ⟨p, 3, none⟩ = some (.pointer (some ⟨y, 0, none⟩)) ∧ w'.cell? ⟨B3, 2, none⟩ = some (.int .i64 a))
    (first | exact ⟨p1, p3, o2⟩ | exact ⟨q1, q3, r2⟩ | exact ⟨s1, s3, t2⟩)
    (first
      | (go_at_call 29; have hx := HA.out.below (Below.refl _ _).drew; refine (crash_any c _ d m rb a hx.disk ha).mono ?_; rintro r wb ⟨rfl, rb', hd', hn', ht'⟩; have hmid := mid_of_disk hx hd' hn' ht'; clear hd' hn' ht'; have HM := Lib.hid hmid; have hkb := KeepsOff.of_touch hx.typed hmid.touch; have HOB := Lib.hid (hkb.cells (show wa.drew.heap[B3]? = _ from HOP.out) (by decide)); have HTY := Lib.hid hx.typed; have q1 := cell_of (i := 1) hmid.pair rfl; have q3 := cell_of (i := 3) hmid.pair rfl; have r2 := cell_of (i := 2) HOB.out rfl; simp only at q1 q3; clear hmid hkb hx)
      | (go_at_call 71; refine (rcrash_any y _ d ub a HM.out.ref ha).mono ?_; rintro r wc ⟨rfl, ub', hd', _, ht'⟩; obtain ⟨e', ht, hpair, hq1, hq2, hq3, hq4, hq5, hq6⟩ := mid_end_ref HM.out hd' ht' hn hg; clear hd' ht'; have HT := Lib.hid ht; have hkc := KeepsOff.of_touch HTY.out ht.touch; have HOC := Lib.hid (hkc.cells (show wa.drew.heap[B3]? = _ from HOP.out) (by decide)); have s1 := cell_of (i := 1) hpair rfl; have s3 := cell_of (i := 3) hpair rfl; have t2 := cell_of (i := 2) HOC.out rfl; simp only at s1 s3; clear ht hkc))
  have HT0 := Lib.hid (Turned.before H.out (bthen HBA.out (Below.refl _ _).drew) HT.out)
  clear p1 p3 o2 q1 q3 r2 s1 s3 t2 HM HTY HT HOB HOC HA HOP HBA hn hg
  obtain ⟨pa, x1, c1, z1, y1, rb1, ub1, l1, d1⟩ := e'
  have hq0 : pa = p := HT0.out.same
  simp only at hq1 hq3 hq4 hq5 hq6
  subst hq0 hq1 hq3 hq4 hq5 hq6
  clear hq2
  have E1 := Lib.hid HT0.out.stands
  have k1 := cell_of (i := 1) E1.out.pair rfl
  have k3 := cell_of (i := 3) E1.out.pair rfl
  simp only at k1 k3
  go_wp2_with fail
  refine (revive_any c1 wc _ m rb1 E1.out.disk).mono ?_
  rintro r wd ⟨rfl, hd', ht'⟩
  have hmid := mid_of_disk E1.out hd' (Newer.refl _ _) ht'
  have HM := Lib.hid hmid
  clear k1 k3 hd' ht' hmid
  have j1 := cell_of (i := 1) HM.out.pair rfl
  have j3 := cell_of (i := 3) HM.out.pair rfl
  simp only at j1 j3
  go_wp2_with fail
  refine (rrevive_any y1 wd _ ub1 HM.out.ref).mono ?_
  rintro r we ⟨rfl, hd', ht'⟩
  obtain ⟨e2, ht, hpair, hr1, hr2, hr3, hr4, hr5, hr6⟩ := mid_end_ref HM.out hd' ht' E1.out.n E1.out.g
  have HT1 := Lib.hid (HT0.out.trans ht)
  clear j1 j3 hd' ht' ht hpair HM E1 HT0
  obtain ⟨pb, x2, c2, z2, y2, rb2, ub2, l2, d2⟩ := e2
  have hq0 : pb = pa := HT1.out.same
  simp only at hr1 hr3 hr4 hr5 hr6
  subst hq0 hr1 hr3 hr4 hr5 hr6
  clear hr2
  have E2 := Lib.hid HT1.out.stands
  have k1 := cell_of (i := 1) E2.out.pair rfl
  have k3 := cell_of (i := 3) E2.out.pair rfl
  simp only at k1 k3
  have HBB : Hid (∀ w' : World, Below we.heap.size we w' → (w'.cell? ⟨pb, 1, none⟩ = some (.pointer (some ⟨c2, 0, none⟩)) ∧ w'.cell? ⟨pb, 3, none⟩ = some (.pointer (some ⟨y2, 0, none⟩)))) := fun w' hb => ⟨cell_later hb k1, cell_later hb k3⟩
  go_wp2_with fail
  go_region_held3 (fun w' => w'.cell? ⟨pb, 1, none⟩ = some (.pointer (some ⟨c2, 0, none⟩)) ∧ w'.cell? ⟨pb, 3, none⟩ = some (.pointer (some ⟨y2, 0, none⟩)))
    (first | exact HBB.out _ (Below.refl _ _).drew | exact ⟨j1, j3⟩)
    (first | (go_at_call 43; have hx := E2.out.below (Below.refl _ _).drew; refine (opened_any c2 y2 _ d2 m rb2 ub2 hx.disk hx.ref).mono ?_; rintro r wf ⟨v, u, rfl, hbo⟩; have HBO := Lib.hid hbo; have hp3 := open_pair hx hbo; have j1 := cell_of (i := 1) hp3 rfl; have j3 := cell_of (i := 3) hp3 rfl; simp only at j1 j3; clear hbo hp3 hx))
  have hx := E2.out.below (Below.refl _ _).drew
  obtain ⟨e3, ht, hl3, hd3, hx3, hc3, hz3, hy3⟩ := open_turned hx HBO.out
  have HT3 := Lib.hid (HT1.out.trans (Turned.before E2.out (Below.refl _ _).drew ht))
  have HFEW := Lib.hid (fun q hq => Wal.open_few hx.disk.1 hq : ∀ q, (Wal.open_ d2).1 = some q → q.rs.length ≤ 1048576 ∧ q.l.n ≤ 1048576 ∧ q.l.g ≤ 4611686018427387904)
  have HSZ := Lib.hid (show we.heap.size ≤ we.drew.heap.size from Nat.le_refl _)
  obtain ⟨pc, x3, c3, z3, y3, rb3, ub3, l3, d3⟩ := e3
  have hq7 : pc = pb := HT3.out.same
  simp only at hl3 hd3 hx3 hc3 hz3 hy3
  subst hl3 hx3 hc3 hz3 hy3 hq7
  clear hx ht
  have HSW := Lib.hid HT1.out.touch.size
  clear k1 k3 j1 j3 HT1
  obtain ⟨o, ho⟩ : ∃ o, (Wal.open_ d2).1 = o := ⟨_, rfl⟩
  rw [ho] at HBO
  have HO := Lib.hid ho
  clear ho
  cases o with
  | none =>
    obtain ⟨rfl, rfl⟩ := HBO.out.none_ rfl
    go_wp2
    go_ret
    exact ⟨rfl, _, HT3.out.mono (by omega)⟩
  | some q =>
    obtain ⟨xx, zz, rfl, rfl, hx1, hz1, hl1, hr1⟩ := HBO.out.some_ q rfl
    have HF := HFEW.out q HO.out
    obtain ⟨e4, hs4, hp4, _, _, ht4, hn4⟩ := open_set HT3.out.stands hl1 hr1 hx1 hz1 (by omega) HF.2.2
    have HT4 := Lib.hid (Turned.mk hs4 (hp4.trans HT3.out.same) (Touch.trans HT3.out.touch ht4 (fun k hk hf => (HT3.out.newer k hf).resolve_right (by omega))) (fun k hk => (hn4 k hk).elim (HT3.out.newer k) (fun h => .inr (by have := HSZ.out; have := HSW.out; omega))))
    obtain ⟨b0, _, b2, _⟩ : wf.cell? ⟨pc, 0, none⟩ = _ ∧ True ∧ wf.cell? ⟨pc, 2, none⟩ = _ ∧ True := ⟨cell_of (i := 0) HT3.out.stands.pair rfl, trivial, cell_of (i := 2) HT3.out.stands.pair rfl, trivial⟩
    have bf := free_of HT3.out.stands.pair
    have bf0 := bf 0
    have bf2 := bf 2
    simp only at b0 b2 bf0 bf2
    clear hs4 hp4 ht4 hn4 hl1 hr1 bf hx1 hz1 HF
    go_wp2
    go_ret
    exact ⟨rfl, e4, HT4.out.mono (by omega)⟩
theorem pdoes_any (w : World) (e : EntW) (m : Nat) (h : EntAt w e m) (on k a b : Int) (s : List UInt8) (hs : s.length ≤ 140737488355328) (ha : a ≤ 9223372036854775807) (hb : b ≤ 9223372036854775807) (hm : m < 4500000000000) :
    Calls Try.prog 54 #[.pointer (some ⟨e.p, 0, none⟩), .agg #[.int .i64 on, .int .i64 k, .int .i64 a, .int .i64 b, .string ⟨s.toArray⟩]] w (Done w e (m + 1)) := by
  by_cases h0 : k = 0
  · subst h0; exact pdoes_append w e m h on a b s hs hm
  by_cases h1 : k = 1
  · subst h1; exact pdoes_sync w e m h on a b s
  by_cases h2 : k = 2
  · subst h2; exact pdoes_check w e m h on a b s hs hm
  by_cases h3 : k = 3
  · subst h3; exact pdoes_arm w e m h on a b s ha hb
  by_cases h4 : k = 4
  · subst h4; exact pdoes_crash w e m h on a b s ha
  exact pdoes_other w e m h on k a b s (by simp [h0]) (by simp [h1]) (by simp [h2]) (by simp [h3]) (by simp [h4])
end
section
open Go.RowKit
set_option maxHeartbeats 1000000 in
theorem place10_any (n m : Int) (w : World) (h0 : 0 < m) (h1 : m ≤ 4611686018427387904) :
    Calls Try.prog 51 #[.int .i64 n, .int .i64 m] w fun e w' => e = .returned (.int .i64 (n % m)) ∧ w = w' := by
  obtain ⟨l1, l2⟩ := tmod_lo (n := n) h0
  go_enter Try.func51, Try.ntmps51
  go_wp2
  all_goals go_ret
  · exact ⟨ret_int (tmod_neg h0 (by assumption)), rfl⟩
  · exact ⟨ret_int (tmod_pos h0 (by assumption)), rfl⟩
theorem Try.ptrInfoP : (Try.prog.info? 90).map (fun i => (i.zero, i.size, i.bytes)) = some (some (.pointer none), 1, 8) := by kernel_rfl
def ptrP (e : EntW) : Value := .pointer (some ⟨e.p, 0, none⟩)
/-- What stands in the loops: the pairs, and the slice that leads to them. -/
structure WdoRel (w wr : World) (m n : Nat) (L : List EntW) (v : Value) : Prop where
  flock : Flock w wr L m
  row : wr.ownsRow w.heap.size 90 1 v L.length (L.map ptrP)
  pos : 0 < L.length
  len : L.length ≤ n
theorem WdoRel.below {w wr wr' : World} {m n : Nat} {L : List EntW} {v : Value} (h : WdoRel w wr m n L v) (hb : Below wr.heap.size wr wr') : WdoRel w wr' m n L v :=
  ⟨h.flock.below hb, KeepsOff.own (ts := []) (.below hb) h.row (by simp), h.pos, h.len⟩
theorem WdoRel.slice {w wr : World} {m n : Nat} {L : List EntW} {v : Value} (h : WdoRel w wr m n L v) : ∃ g cap, v = .slice (some ⟨g, 0, none⟩) L.length cap ∧ ∀ (i : Nat) (e : EntW), L[i]? = some e → wr.cell? ⟨g, i, none⟩ = some (.pointer (some ⟨e.p, 0, none⟩)) := by
  have hp := h.pos
  rcases h.row.2 with ⟨_, h0⟩ | ⟨g, cap, cur, rfl, hb, hg, _⟩
  · omega
  · refine ⟨g, cap, rfl, fun i e hi => ?_⟩
    have := h.row.cells (g := g) rfl i (ptrP e) (by rw [List.getElem?_map, hi]; rfl)
    rwa [addr_add, Nat.zero_add] at this
theorem mapp_set {L : List EntW} {i : Nat} {x e : EntW} (hi : L[i]? = some e) (hf : x.p = e.p) : (L.set i x).map ptrP = L.map ptrP := by
  have hx : ptrP x = ptrP e := by simp [ptrP, hf]
  rw [List.map_set, hx]
  obtain ⟨hl, he⟩ := List.getElem?_eq_some_iff.1 hi
  have : ptrP e = (L.map ptrP)[i]'(by simpa using hl) := by simp [he]
  rw [this]; exact List.set_getElem_self _
theorem WdoRel.turn {w wr wr' : World} {m m' n N : Nat} {L : List EntW} {v : Value} (h : WdoRel w wr m n L v) {e e' : EntW} (hi : L[N]? = some e) (ht : Turned wr wr' e e' m') (hm : m ≤ m') : WdoRel w wr' m' n (L.set N e') v := by
  have hk := KeepsOff.of_touch (h.flock.one N e hi).typed ht.touch
  refine ⟨h.flock.turn hi ht hm, ?_, by simpa using h.pos, by simpa using h.len⟩
  rw [List.length_set, mapp_set hi ht.same]
  exact hk.own h.row (by decide)
theorem WdoRel.push {w wr wq w1 : World} {m n : Nat} {L : List EntW} {v v' : Value} (h : WdoRel w wr m n L v) (hb : Below wr.heap.size wr wq) {q : EntW} (hq : EntAt wq q m) (hn : ∀ k, Foot q k → wr.heap.size ≤ k)
    (ho : w1.ownsRow w.heap.size 90 1 v' (L.length + 1) (L.map ptrP ++ [ptrP q])) (hg : wq.grownBy w1 v.ownBlock) : WdoRel w w1 m (n + 1) (L ++ [q]) v' := by
  have h2 := h.below hb
  have ht := touch_of_grown hg
  have hty : Typed [90] wq (fun k => v.ownBlock = some k) := typed_own h2.row (by simp)
  have hlo : ∀ k, v.ownBlock = some k → w.heap.size ≤ k := fun k hk => by
    rcases h2.row.2 with ⟨hv, _⟩ | ⟨g, cap, cur, hv, hb', _⟩
    · rw [hv] at hk; cases hk
    · rw [hv] at hk
      have e1 : g = k := Option.some.inj hk
      subst e1
      exact hb'
  have hne : ∀ (e : EntW), EntAt wq e m → ∀ k, Foot e k → ¬ v.ownBlock = some k := fun e he k hk hv => by
    obtain ⟨a, t, f, h1, h3⟩ := he.typed k hk
    obtain ⟨a', t', f', h4, h5⟩ := hty k hv
    rw [h1] at h4
    simp at h4 h5
    rw [← h4.2.1] at h5
    subst h5
    exact absurd h3 (by decide)
  have hf1 : Flock w w1 L m := ⟨h2.flock.old.trans (ht.below h2.flock.old.size (fun k hk e => by have := hlo k e; omega)), fun i e hi => EntAt.keep hty (by decide) ht (h2.flock.one i e hi) (hne e (h2.flock.one i e hi)), h.flock.lo, h.flock.apart⟩
  refine ⟨h.flock.push hf1 (EntAt.keep hty (by decide) ht hq (hne q hq)) hn, ?_, by simp, by simp; exact h.len⟩
  rw [List.length_append, List.map_append]
  exact ho
set_option maxHeartbeats 8000000 in
set_option maxRecDepth 100000 in
theorem walDoes_any (w : World) (ao : Option Addr) (ca : Nat) (sc : List OpV) (hS : OpsAt w ao sc) :
    Calls Try.prog 11 #[.slice ao sc.length ca] w fun e w' => e = .returned (.bool true) ∧ Below w.heap.size w w' := by
  have HS := Lib.hid hS
  have hsl := hS.len
  have E0 := Lib.hid made_two
  clear hS
  go_enter Try.func11, Try.ntmps11
  go_wp2_with fail
  have hn0 := heap_new w (.cells #[.string ⟨#[]⟩, .string ⟨#[]⟩] 9)
  obtain ⟨x0, x1, _, _⟩ := cells2 hn0
  have HT : Hid (Texts (w.alloc (.cells #[.string ⟨#[]⟩, .string ⟨#[]⟩] 9)) (some ⟨w.heap.size, 0, none⟩) [[], []]) := ⟨by decide, fun i s hi => ⟨w.heap.size, 0, rfl, by
    match i, hi with
    | 0, hi => simp at hi; subst hi; exact x0
    | 1, hi => simp at hi; subst hi; exact x1⟩⟩
  clear hn0 x0 x1
  refine (new_any _ (some ⟨w.heap.size, 0, none⟩) 2 [[], []] HT.out).mono ?_
  rw [E0.out]
  rintro e w1 ⟨hb1, ⟨h, _⟩ | ⟨d, c, hd, rfl, hc, hat⟩⟩
  · cases h
  obtain rfl := Option.some.inj hd
  have HAT := Lib.hid hat
  have HC : Hid (w.heap.size ≤ c) := Lib.hid (by have := hc; simp at this; omega)
  have HB1 := Lib.hid (bthen (balloc w _) hb1)
  clear hb1 hd hat HT hc
  go_wp2_with fail
  have hn1 := heap_new w1 (.cells #[.string ⟨#[]⟩, .string ⟨#[]⟩] 9)
  obtain ⟨x0, x1, _, _⟩ := cells2 hn1
  have HT : Hid (Texts (w1.alloc (.cells #[.string ⟨#[]⟩, .string ⟨#[]⟩] 9)) (some ⟨w1.heap.size, 0, none⟩) [[], []]) := ⟨by decide, fun i s hi => ⟨w1.heap.size, 0, rfl, by
    match i, hi with
    | 0, hi => simp at hi; subst hi; exact x0
    | 1, hi => simp at hi; subst hi; exact x1⟩⟩
  clear hn1 x0 x1
  refine (rnew_any _ (some ⟨w1.heap.size, 0, none⟩) 2 [[], []] HT.out).mono ?_
  rw [E0.out]
  rintro e w2 ⟨hb2, ⟨h, _⟩ | ⟨d, y, hd, rfl, hy, hat⟩⟩
  · cases h
  obtain rfl := Option.some.inj hd
  have HRT := Lib.hid hat
  have hb2' := bthen (balloc w1 (.cells #[.string ⟨#[]⟩, .string ⟨#[]⟩] 9)) hb2
  have HY : Hid (w1.heap.size ≤ y) := Lib.hid (by have := hy; simp at this; omega)
  have HAT2 := Lib.hid (HAT.out.below hb2')
  have HB2 := Lib.hid (bthen HB1.out hb2')
  clear hb2 hd hat HT hy hb2'
  go_wp2_with fail
  have hw := wnew_any c w2 {} 0 none HAT2.out (by decide)
  rw [Wal.new_q] at hw
  refine hw.mono ?_
  clear hw
  rintro e w3 ⟨v, rfl, h1, _, rb, hd3, hn3, ht3, _⟩
  obtain ⟨x, rfl, hx, hl⟩ := h1 _ rfl
  have HKK := Lib.hid (KeepsOff.of_touch HAT2.out.typed ht3)
  have HD3 := Lib.hid hd3
  have HL3 := Lib.hid hl
  have HX := Lib.hid hx
  have HRB : Hid (∀ k, rb = some k → w.heap.size ≤ k) := Lib.hid (fun k hk => by rcases hn3 k hk with h | h; cases h; exact Nat.le_trans HB2.out.size h)
  have HR3 := Lib.hid (HRT.out.keepsOff HKK.out (by decide) (by decide))
  have HB3 : Hid (Below w.heap.size w w3) := Lib.hid (HB2.out.trans (ht3.below HB2.out.size (fun k hk e => by
    rcases e with rfl | e
    · have := HC.out; omega
    · cases e)))
  clear h1 hd3 hn3 ht3 hx hl
  go_wp2_with fail
  have hw := rnewL_any y w3 {} none HR3.out
  rw [Wal.new_q] at hw
  refine hw.mono ?_
  clear hw
  rintro e w4 ⟨v, rfl, h1, _, ub, hd4, hn4, ht4⟩
  obtain ⟨z, rfl, hz, hl⟩ := h1 _ rfl
  have HK4 := Lib.hid (KeepsOff.of_touch HR3.out.typed ht4)
  have HD4 := Lib.hid (HD3.out.keepsOff HK4.out (by decide) (by decide))
  have HL4 := Lib.hid (HL3.out.keepsOff HK4.out (by decide))
  have HRL := Lib.hid hl
  have HRR := Lib.hid hd4
  have HZ := Lib.hid hz
  have HB4 : Hid (Below w.heap.size w w4) := Lib.hid (HB3.out.trans (ht4.below HB3.out.size (fun k hk e => by subst e; have := HY.out; have := HB1.out.size; omega)))
  clear h1 hd4 hn4 ht4 hz hl HKK HK4 HR3 HD3 HL3 HAT HAT2 HRT
  go_wp2
  obtain ⟨w5, hw5⟩ : ∃ W, (w4.alloc (pairBlock x c z y)).alloc (.cells #[.pointer (some ⟨w4.heap.size, 0, none⟩)] 90) = W := ⟨_, rfl⟩
  have hz4 : (w4.alloc (pairBlock x c z y)).heap.size = w4.heap.size + 1 := by simp
  have hnp := heap_new w4 (pairBlock x c z y)
  have hb5a := balloc w4 (pairBlock x c z y)
  have hnr := heap_new (w4.alloc (pairBlock x c z y)) (.cells #[.pointer (some ⟨w4.heap.size, 0, none⟩)] 90)
  have hb5b := balloc (w4.alloc (pairBlock x c z y)) (.cells #[.pointer (some ⟨w4.heap.size, 0, none⟩)] 90)
  have hb5 := bthen hb5a hb5b
  have hnp5 := stays hnp hb5b
  rw [hz4] at hnr
  rw [hw5] at hnr hb5 hnp5
  try rw [show ((w4.alloc (.cells #[.pointer (some ⟨x, 0, none⟩), .pointer (some ⟨c, 0, none⟩), .pointer (some ⟨z, 0, none⟩), .pointer (some ⟨y, 0, none⟩)] 92)).alloc (.cells #[.pointer (some ⟨w4.heap.size, 0, none⟩)] 90)) = w5 from hw5]
  have HST : Hid (WdoRel w w5 1 1 [⟨w4.heap.size, x, c, z, y, rb, ub, Wal.q0, Wal.e0⟩] (.slice (some ⟨w4.heap.size + 1, 0, none⟩) 1 1)) := by
    have hent : EntAt w5 ⟨w4.heap.size, x, c, z, y, rb, ub, Wal.q0, Wal.e0⟩ 1 := ⟨hnp5, HL4.out.below hb5, HD4.out.below hb5, HRL.out.below hb5, HRR.out.below hb5, (by show (0 : Nat) ≤ 2000000 + 1; omega), (by show (1 : Nat) ≤ 4611686018427387904; omega)⟩
    have hsz := HB4.out.size
    refine ⟨⟨HB4.out.trans (hb5.mono hsz), fun i e hi => ?_, fun i e hi k hk => ?_, fun i j e f hi hj hij => ?_⟩, ⟨rfl, .inr ⟨_, 1, _, rfl, by omega, hnr, Nat.le_refl _, by decide, rfl, rfl⟩⟩, by simp, by simp⟩
    · match i, hi with
      | 0, hi => simp at hi; subst hi; exact hent
    · match i, hi with
      | 0, hi =>
        simp at hi; subst hi
        rcases hk with hk | hk | (hk | hk) | hk | hk
        · have e1 : k = w4.heap.size := hk; omega
        · have e1 : k = x := hk; have := HX.out; have := HB2.out.size; omega
        · have e1 : k = c := hk; have := HC.out; omega
        · exact HRB.out k hk
        · have e1 : k = z := hk; have := HZ.out; have := HB3.out.size; omega
        · have e1 : k = y := hk; have := HY.out; have := HB1.out.size; omega
    · match i, j, hi, hj with
      | 0, 0, _, _ => exact absurd rfl hij
  clear hw5 hz4 hnp hb5a hnr hb5b hb5 hnp5 HD4 HL4 HRL HRR HX HZ HY HC HRB HB3
  go_loopw [10, 11] (fun v i wr => ∃ (j : Nat) (L : List EntW), i = .int .i64 j ∧ j ≤ sc.length ∧ WdoRel w wr (j + 1) (j + 1) L v) (fun _ i _ => sc.length - (intOf i).toNat)
  case atStart => exact ⟨0, _, rfl, Nat.zero_le _, HST.out⟩
  case round =>
    clear HST HB4 HB1 HB2
    obtain ⟨j, L, rfl, hj, hrel⟩ := hrel
    have HR := Lib.hid hrel
    have hpos := hrel.pos
    have hlenL := hrel.len
    obtain ⟨g, cap, rfl, hcells⟩ := hrel.slice
    have HCC := Lib.hid hcells
    have HOLD := Lib.hid hrel.flock.old
    clear hrel hcells
    by_cases hlt : j < sc.length
    · obtain ⟨o, ho⟩ : ∃ o, sc[j]? = some o := ⟨_, List.getElem?_eq_getElem hlt⟩
      obtain ⟨on, k, a, b, s⟩ := o
      obtain ⟨bb, off, rfl, hbl, k0, k1, k2, k3, k4⟩ := HS.out.cell j _ ho
      obtain ⟨f1, ⟨_, f3⟩, ⟨_, f5⟩, f6, f7⟩ := HS.out.fits _ (List.mem_of_getElem? ho)
      simp only at k0 k1 k2 k3 k4 f1 f3 f5 f6 f7
      have q0 := (HOLD.out.cell (p := ⟨bb, off + j * 5, none⟩) hbl).trans k0
      have q1 := (HOLD.out.cell (p := ⟨bb, off + j * 5 + 1, none⟩) hbl).trans k1
      have q2 := (HOLD.out.cell (p := ⟨bb, off + j * 5 + 2, none⟩) hbl).trans k2
      have q3 := (HOLD.out.cell (p := ⟨bb, off + j * 5 + 3, none⟩) hbl).trans k3
      have q4 := (HOLD.out.cell (p := ⟨bb, off + j * 5 + 4, none⟩) hbl).trans k4
      clear ho k0 k1 k2 k3 k4
      obtain ⟨N, hN⟩ : ∃ N : Nat, on % (L.length : Int) = (N : Int) := ⟨(on % (L.length : Int)).toNat, by have := Int.emod_nonneg on (show (L.length : Int) ≠ 0 by omega); omega⟩
      have hNL : N < L.length := by have := Int.emod_lt_of_pos on (show (0 : Int) < L.length by omega); omega
      obtain ⟨E, hE⟩ : ∃ E, L[N]? = some E := ⟨_, List.getElem?_eq_getElem hNL⟩
      have HE := Lib.hid hE
      have HN := Lib.hid hN
      clear hE hN
      go_wp2_with fail
      obtain ⟨B12, hB12⟩ : ∃ B, wr.heap.size = B := ⟨_, rfl⟩
      obtain ⟨wa, hwa⟩ : ∃ W, wr.alloc (.cells #[.int .i64 on, .int .i64 k, .int .i64 a, .int .i64 b, .string ⟨s.toArray⟩] 65) = W := ⟨_, rfl⟩
      have hop := heap_new wr (.cells #[.int .i64 on, .int .i64 k, .int .i64 a, .int .i64 b, .string ⟨s.toArray⟩] 65)
      have hba := balloc wr (.cells #[.int .i64 on, .int .i64 k, .int .i64 a, .int .i64 b, .string ⟨s.toArray⟩] 65)
      rw [hwa, hB12] at hop
      rw [hwa] at hba
      try rw [hwa]
      try rw [hB12]
      have HOP := Lib.hid hop
      have HRA := Lib.hid (HR.out.below hba)
      have HRAS := Lib.hid hba.size
      have HCA : Hid (wa.cell? ⟨g, N, none⟩ = some (.pointer (some ⟨E.p, 0, none⟩))) := Lib.hid (cell_later hba (HCC.out N E HE.out))
      clear hop hba hB12 hwa q0 q1 q2 q3 q4
      refine (place10_any on L.length wa (by omega) (by omega)).mono ?_
      rw [HN.out]
      rintro e wa' ⟨rfl, rfl⟩
      have r1 := cell_of (i := 1) HOP.out rfl
      have ge := HCA.out
      by_cases h5 : k = 5
      · subst h5
        have HEA0 := Lib.hid (HRA.out.flock.one N E HE.out)
        have p1 := cell_of (i := 1) HEA0.out.pair rfl
        have p3 := cell_of (i := 3) HEA0.out.pair rfl
        have HBB : Hid (∀ w' : World, Below wa.heap.size wa w' → (Below wa.heap.size wa w' ∧ w'.cell? ⟨E.p, 1, none⟩ = some (.pointer (some ⟨E.c, 0, none⟩)) ∧ w'.cell? ⟨E.p, 3, none⟩ = some (.pointer (some ⟨E.y, 0, none⟩)))) := fun w' hb => ⟨hb, cell_later hb p1, cell_later hb p3⟩
        clear p1 p3
        go_wp2_with fail
        go_region_held3 (fun w' => Below wa.heap.size wa w' ∧ w'.cell? ⟨E.p, 1, none⟩ = some (.pointer (some ⟨E.c, 0, none⟩)) ∧ w'.cell? ⟨E.p, 3, none⟩ = some (.pointer (some ⟨E.y, 0, none⟩)))
          (first | exact HBB.out _ (Below.refl _ _).drew | exact HBB.out _ (bthen (by assumption : Below wa.heap.size wa _ ∧ _).1 (by assumption)))
          (first
            | (go_at_call 25; refine (clone_any E.c _ E.d (j + 1) E.rb (HEA0.out.disk.below (by assumption : Below wa.heap.size wa _ ∧ _).1) (by omega)).mono ?_; rintro e wb ⟨c', rb', rfl, hc', da, hrb, hb⟩; have DA := Lib.hid da; have HCN : Hid (wa.heap.size ≤ c' ∧ ∀ k, rb' = some k → wa.heap.size ≤ k) := Lib.hid ⟨hc', hrb⟩; have HSB : Hid (wa.heap.size ≤ wb.heap.size) := Lib.hid hb.size; clear da hc' hrb)
            | (go_at_call 26; refine (rcopy_any E.y _ E.d E.ub (HEA0.out.ref.below (by assumption : Below wa.heap.size wa _ ∧ _).1)).mono ?_; rintro e wc ⟨y', rfl, hy', ra, hb⟩; have RA := Lib.hid ra; have DA2 := Lib.hid (DA.out.below hb); have HYN : Hid (wa.heap.size ≤ y') := Lib.hid (Nat.le_trans HSB.out hy'); clear ra hy'))
        rename_i hheld
        have HBC := Lib.hid hheld.1
        clear hheld
        have HEC := Lib.hid (HEA0.out.below HBC.out)
        have p0 := cell_of (i := 0) HEC.out.pair rfl
        have p2 := cell_of (i := 2) HEC.out.pair rfl
        have HB2 : Hid (∀ w' : World, Below wc.heap.size wc w' → (Below wc.heap.size wc w' ∧ w'.cell? ⟨E.p, 0, none⟩ = some (.pointer (some ⟨E.x, 0, none⟩)) ∧ w'.cell? ⟨E.p, 2, none⟩ = some (.pointer (some ⟨E.z, 0, none⟩)))) := fun w' hb => ⟨hb, cell_later hb p0, cell_later hb p2⟩
        clear p0 p2
        go_wp2_with fail
        go_region_held3 (fun w' => Below wc.heap.size wc w' ∧ w'.cell? ⟨E.p, 0, none⟩ = some (.pointer (some ⟨E.x, 0, none⟩)) ∧ w'.cell? ⟨E.p, 2, none⟩ = some (.pointer (some ⟨E.z, 0, none⟩)))
          (first | exact HB2.out _ (Below.refl _ _).drew | exact HB2.out _ (bthen (by assumption : Below wc.heap.size wc _ ∧ _).1 (by assumption)) | exact HB2.out _ (bthen (by assumption : Below wc.heap.size wc _ ∧ _).1 (balloc _ _)))
          (first
            | (go_at_call 52; refine (wclone_any E.x E.c c' _ E.l (HEC.out.log.below (by assumption : Below wc.heap.size wc _ ∧ _).1)).mono ?_; rintro e wd ⟨x', rfl, hx', la, hb⟩; have LA := Lib.hid la; have HXN : Hid (wc.heap.size ≤ x') := Lib.hid hx'; have HSD : Hid (wc.heap.size ≤ wd.heap.size) := Lib.hid hb.size; have HBD : Hid (Below wc.heap.size wc wd) := Lib.hid (bthen (Below.refl _ _).drew hb); clear la hx')
            | (go_at_call 53; refine (rcopyL_any E.z E.y y' _ E.l (HEC.out.rlog.below (by assumption : Below wc.heap.size wc _ ∧ _).1)).mono ?_; rintro e we ⟨z', rfl, hz', ra, hb⟩; have RLA := Lib.hid ra; have LA2 := Lib.hid (LA.out.below hb); have HZN : Hid (wc.heap.size ≤ z') := Lib.hid (Nat.le_trans HSD.out hz'); have HBE : Hid (Below wc.heap.size wc we) := Lib.hid (bthen HBD.out hb); clear ra hz'))
        rename_i hheld
        clear hheld
        obtain ⟨Q0, hQ0⟩ : ∃ q, we.heap.size = q := ⟨_, rfl⟩
        obtain ⟨wf, hwf⟩ : ∃ W, we.alloc (pairBlock x' c' z' y') = W := ⟨_, rfl⟩
        have hnq := heap_new we (pairBlock x' c' z' y')
        have hbf := balloc we (pairBlock x' c' z' y')
        rw [hwf, hQ0] at hnq
        rw [hwf] at hbf
        try rw [show we.alloc (.cells #[.pointer (some ⟨x', 0, none⟩), .pointer (some ⟨c', 0, none⟩), .pointer (some ⟨z', 0, none⟩), .pointer (some ⟨y', 0, none⟩)] 92) = wf from hwf]
        try rw [hQ0]
        have HBF := Lib.hid (bthen HBE.out hbf)
        have HQ : Hid (EntAt wf ⟨Q0, x', c', z', y', rb', E.ub, E.l, E.d⟩ (j + 1)) := Lib.hid ⟨hnq, LA2.out.below hbf, DA2.out.below HBF.out, RLA.out.below hbf, RA.out.below HBF.out, HEA0.out.n, HEA0.out.g⟩
        have HFT : Hid (∀ k, Foot ⟨Q0, x', c', z', y', rb', E.ub, E.l, E.d⟩ k → wa.heap.size ≤ k) := Lib.hid (fun k hk => by
          have n1 := HBC.out.size
          have n2 := HBE.out.size
          rcases hk with hk | hk | (hk | hk) | hk | hk
          · have e1 : k = Q0 := hk; omega
          · have e1 : k = x' := hk; have := HXN.out; omega
          · have e1 : k = c' := hk; have := HCN.out.1; omega
          · exact HCN.out.2 k hk
          · have e1 : k = z' := hk; have := HZN.out; omega
          · have e1 : k = y' := hk; have := HYN.out; omega)
        have HBAF := Lib.hid (bthen HBC.out HBF.out)
        have z0 := cell_of (i := 0) hnq rfl
        have HOPF := Lib.hid (stays HOP.out HBAF.out)
        clear hQ0 hwf hnq hbf r1 ge
        go_wp2_with (first | (at_builtin; go_must (refine wpList_append_own2 _ rfl (.tmp 123) (.tmp 125) 93 rfl w.heap.size 90 1 8 _ Try.ptrInfoP Try.underlying93 rfl (by decide) (.slice (some ⟨g, 0, none⟩) L.length cap) L.length (L.map ptrP) rfl ((HRA.out.below HBAF.out).below (balloc wf _)).row ⟨wf.heap.size, 0, none⟩ 1 1 [.pointer (some ⟨Q0, 0, none⟩)] rfl rfl (fun i u hi => by rw [addr_add, Nat.zero_add]; exact cell_of (heap_new wf _) (by simpa using hi)) (by intro u hu; simp at hu; subst hu; rfl) (by unfold maxLen; omega) (by omega) (Nat.le_trans HOLD.out.size (Nat.le_trans HRAS.out (Nat.le_trans HBAF.out.size (balloc wf _).size))) ?_; intro vm' wg ho hgr _; have HOW := Lib.hid ho; have HGR := Lib.hid hgr; have HOPG := Lib.hid ((KeepsOff.of_touch (typed_own (ts := [90]) ((HRA.out.below HBAF.out).below (balloc wf (.cells #[.pointer (some ⟨Q0, 0, none⟩)] 90))).row (by simp)) (touch_of_grown hgr)).cells (stays HOPF.out (balloc wf _)) (by decide)); obtain ⟨o0, o1, o2, o3, o4⟩ : _ ∧ _ ∧ _ ∧ _ ∧ _ := ⟨cell_of (i := 0) HOPG.out rfl, cell_of (i := 1) HOPG.out rfl, cell_of (i := 2) HOPG.out rfl, cell_of (i := 3) HOPG.out rfl, cell_of (i := 4) HOPG.out rfl⟩; clear ho hgr)))
        have HP := Lib.hid (HRA.out.push (bthen HBAF.out (balloc wf (.cells #[.pointer (some ⟨Q0, 0, none⟩)] 90))) (HQ.out.below (balloc wf _)) HFT.out HOW.out HGR.out)
        have HE2 : Hid ((L ++ [(⟨Q0, x', c', z', y', rb', E.ub, E.l, E.d⟩ : EntW)])[N]? = some E) := Lib.hid (by rw [List.getElem?_append_left hNL]; exact HE.out)
        clear z0
        have HEA := Lib.hid (HP.out.flock.one N E HE2.out)
        refine (pdoes_any wg E (j + 1) HEA.out on 5 a b s f1 f3 f5 (by omega)).mono ?_
        rintro e wd ⟨rfl, e', ht⟩
        have HRD := Lib.hid (HP.out.turn HE2.out ht (by omega))
        have hep := ht.same
        have HED := Lib.hid ht.stands
        clear o0 o1 o2 o3 o4 ht
        go_wp2_with fail
        rw [← hep]
        refine (psame_any wd e' _ HED.out).mono ?_
        rintro e we ⟨rfl, hbe⟩
        have HRE := Lib.hid (HRD.out.below hbe)
        clear hbe hep
        go_wp2
        go_roundw
        case rel => exact ⟨j + 1, _, by go_num, by omega, { HRE.out with len := Nat.le_trans HRE.out.len (by omega) }⟩
        case measure => simp [intOf]; omega
      · have h5' : (k == 5) = false := by simp [h5]
        have HEA := Lib.hid (HRA.out.flock.one N E HE.out)
        obtain ⟨o0, o1, o2, o3, o4⟩ : _ ∧ _ ∧ _ ∧ _ ∧ _ := ⟨cell_of (i := 0) HOP.out rfl, cell_of (i := 1) HOP.out rfl, cell_of (i := 2) HOP.out rfl, cell_of (i := 3) HOP.out rfl, cell_of (i := 4) HOP.out rfl⟩
        go_wp2_with fail
        refine (pdoes_any wa E (j + 1) HEA.out on k a b s f1 f3 f5 (by omega)).mono ?_
        rintro e wd ⟨rfl, e', ht⟩
        have HRD := Lib.hid (HRA.out.turn HE.out ht (by omega))
        have hep := ht.same
        have HED := Lib.hid ht.stands
        clear o0 o1 o2 o3 o4 ht
        go_wp2_with fail
        rw [← hep]
        refine (psame_any wd e' _ HED.out).mono ?_
        rintro e we ⟨rfl, hbe⟩
        have HRE := Lib.hid (HRD.out.below hbe)
        clear hbe hep
        go_wp2
        go_roundw
        case rel => exact ⟨j + 1, _, by go_num, by omega, { HRE.out with len := Nat.le_trans HRE.out.len (by omega) }⟩
        case measure => simp [intOf]; omega
    · obtain rfl : j = sc.length := by omega
      go_wp2
      obtain ⟨wo, hwo⟩ : ∃ wo : World, wo = wr := ⟨_, rfl⟩
      rw [← hwo] at HR HCC HOLD ⊢
      clear hwo
      go_loopw [19] (fun jv wr => ∃ i : Nat, jv = .int .i64 i ∧ i ≤ L.length ∧ Below wo.heap.size wo wr) (fun jv _ => L.length - (intOf jv).toNat)
      case atStart => exact ⟨0, rfl, by omega, Below.refl _ _⟩
      case round =>
        obtain ⟨i, rfl, hi, hb⟩ := hrel
        have HB := Lib.hid hb
        clear hb
        by_cases hil : i < L.length
        · obtain ⟨E, hE⟩ : ∃ E, L[i]? = some E := ⟨_, List.getElem?_eq_getElem hil⟩
          have HEA := Lib.hid ((HR.out.flock.one i E hE).below HB.out)
          have ge := cell_later HB.out (HCC.out i E hE)
          clear hE
          go_wp2_with fail
          refine (psame_any wr E _ HEA.out).mono ?_
          rintro e wt ⟨rfl, bt⟩
          have BT := Lib.hid (bthen HB.out bt)
          clear bt ge
          go_wp2
          go_roundw
          case rel => exact ⟨i + 1, by go_num, by omega, BT.out⟩
          case measure => simp [intOf]; omega
        · obtain rfl : i = L.length := by omega
          go_wp2_with fail
          refine (fixed10_any _).mono ?_
          rintro e wf ⟨rfl, bf⟩
          have BF := Lib.hid (bthen HOLD.out (bthen HB.out bf))
          clear bf
          go_wp2
          go_ret
          exact ⟨rfl, BF.out⟩
end
section
open Go.ChangeShapes Go.WideShapes Go.ChangeAt Go.RowKit Go.Deep
set_option maxRecDepth 100000 in
theorem walDoes_lifted (os : Os) (started : os.Started) (H : Type) (enc : TypeId × Value → H) :
    ReturnsInHanded {} Try.checked os 11 .any (Rows.walDoesSpec.pre6 enc Try.prog Try.f11 Rows.walDoesRow.domain false) (Rows.walDoesSpec.post enc Try.prog Try.f11 false true false false) := by
  refine returnsInHanded_of_change_sized (C := Try.checked) Try.own started (by kernel_rfl) Try.func11
    (ChangeSpec.witness6 (enc := enc) (C := Try.checked) false ⟨#[], #[.slice none 0 0], []⟩ 8 (by kernel_rfl) (by kernel_rfl) (by kernel_rfl) (by kernel_rfl)) ?_
  intro W base args ds gs before hval0 hW _ hsz0 _
  have hsz : (DataW.weightsEach Try.prog (Try.f11.params.toList ++ Rows.walDoesSpec.plain.varTypes Try.prog) (ds ++ gs)).all (· ≤ reachBytes) = true := hsz0
  clear hsz0
  have hval : ∀ (j : Nat) t v, Try.f11.params[j]? = some t → args[j]? = some v → Value.okWide Try.prog W .any base t v := hval0
  have hW' := hW
  obtain ⟨p, q, hA0, hV, rfl, _, _⟩ := hW
  have hA : DataW.TrodAll enc Try.prog W 0 (fun _ => true) true Try.f11.params.toList args.toList ds p := hA0
  rw [Try.params11] at hA hval hsz
  obtain ⟨v0, d0, rfl, rfl, h0⟩ := trodAll_one hA
  obtain ⟨rfl, rfl⟩ := trodVars_none hV
  obtain ⟨a0, len, cap, rfl⟩ := okWide_slice Try.underlying80 (hval 0 80 v0 rfl rfl)
  have g0 := h0
  obtain ⟨fuel, hf⟩ := h0
  obtain ⟨ao, ln, cp, l, hcs, hl, hT⟩ := open_ops (weights_of hsz (j := 0) rfl rfl) hf
  simp [Value.cells] at hcs
  obtain ⟨rfl, rfl, rfl⟩ := hcs
  subst hl
  clear hA0 hval0 hf
  simp only [List.append_nil] at hW'
  have hlt0 : ∀ x ∈ p, x.block < W.heap.size := fun x hx => hW'.lt x (by simp [hx])
  refine (walDoes_any W a0 cap l hT).mono fun e W' ⟨he, hnx⟩ => ?_
  subst he
  refine ⟨_, rfl, _, _, _, [], p, [], hW', ?_, ?_, rfl, ?_⟩
  · exact trodAll_mk1 (shut_bool Try.underlying4 true)
  · exact trodAll_mk1 (Below.trod Try.laidOut (by kernel_rfl) (of_decide_eq_true (by kernel_rfl)) g0 hnx hlt0)
  · exact ⟨hnx.frame _, fun h => by cases h⟩
theorem walDoes_holds : Rows.WalDoesSaid :=
  OpenClaim.holds_of_wide 11 Try.f11 rfl rfl rfl rfl rfl rfl rfl ⟨rfl, rfl, rfl, rfl, rfl⟩ rfl rfl rfl rfl rfl (by kernel_rfl) Try.func11 (by kernel_rfl)
    (of_decide_eq_true (by kernel_rfl)) (by unfold Func.isWrapper; first | (rw [if_pos (by decide +kernel)]; kernel_rfl) | (rw [if_neg (by decide +kernel)]; exact ⟨rfl, rfl⟩))
    (fun os started H enc _ => walDoes_lifted os started H enc)
end
end Go.Proofs.Ytpjpknndfhablaa
