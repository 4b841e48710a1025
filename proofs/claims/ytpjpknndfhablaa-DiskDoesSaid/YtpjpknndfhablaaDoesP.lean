/- Walk of plays: a call on both disks. -/
import Derived.Test.YtpjpknndfhablaaDoesT
namespace Go.Proofs.Ytpjpknndfhablaa
open Go.RowKit

/-- What a call of a script makes of a disk. -/
def DS.does (d : DS) (o : OpV) : DS :=
  if o.kind = 1 then (d.append o.a o.s).1 else if o.kind = 2 then d.sync.1 else if o.kind = 3 then (d.cut o.a o.b).1 else if o.kind = 4 then (d.arm o.a o.b).1 else if o.kind = 5 then (d.crash o.a).1 else if o.kind = 6 then d.revive else d
theorem OpIs.keepsX {w w' : World} {g : Nat} {k a b : Int} {s : List UInt8} (h : OpIs w g k a b s) (hk : KeepsX w w') : OpIs w' g k a b s := by
  obtain ⟨cur, hg, h0⟩ := h
  exact ⟨cur, hk.cells hg (by decide) (by decide) (by decide), h0⟩
theorem OpIs.below {w w' : World} {g : Nat} {k a b : Int} {s : List UInt8} (h : OpIs w g k a b s) (hb : Below w.heap.size w w') : OpIs w' g k a b s := h.keepsX (.below hb)
structure OpFits (o : OpV) : Prop where
  s : o.s.length ≤ 140737488355328
  a0 : -9223372036854775808 ≤ o.a
  a1 : o.a ≤ 9223372036854775807
  b0 : -9223372036854775808 ≤ o.b
  b1 : o.b ≤ 9223372036854775807
section
variable {w0 : World} (w : World) {L : List Ent} {i c y : Nat} {d : DS} {m : Nat} (o : OpV) (h : HerdAt w0 w L i c y d d m) (ho : OpFits o)
include h ho

set_option maxHeartbeats 2000000 in
set_option maxRecDepth 100000 in
theorem plays_append (hm : m < 5000000000000) (hk : o.kind = 1) :
    Calls Try.prog 27 #[.pointer (some ⟨c, 0, none⟩), .pointer (some ⟨y, 0, none⟩), .agg #[.int .i64 o.on, .int .i64 o.kind, .int .i64 o.a, .int .i64 o.b, .string ⟨o.s.toArray⟩]] w fun e w' =>
      e = .returned (.bool true) ∧ HerdAt w0 w' L i c y (d.append o.a o.s).1 (d.append o.a o.s).1 (m + 1) ∧ KeepsX w w' := by
  obtain ⟨hs, ha0, ha1, hb0, hb1⟩ := ho
  rw [hk]
  clear hk
  have HX := Lib.hid (h.below (balloc w (.cells #[.int .i64 o.on, .int .i64 1, .int .i64 o.a, .int .i64 o.b, .string ⟨o.s.toArray⟩] 47)))
  have HO : Hid (OpIs (w.alloc (.cells #[.int .i64 o.on, .int .i64 1, .int .i64 o.a, .int .i64 o.b, .string ⟨o.s.toArray⟩] 47)) w.heap.size 1 o.a o.b o.s) := ⟨_, heap_new w _, rfl, rfl, rfl, rfl⟩
  have HK : Hid (KeepsX w (w.alloc (.cells #[.int .i64 o.on, .int .i64 1, .int .i64 o.a, .int .i64 o.b, .string ⟨o.s.toArray⟩] 47))) := .below (balloc _ _)
  clear h
  go_enter Try.func27, Try.ntmps27
  go_wp2_with fail
  generalize w.alloc (.cells #[.int .i64 o.on, .int .i64 1, .int .i64 o.a, .int .i64 o.b, .string ⟨o.s.toArray⟩] 47) = wx at HO HX HK ⊢
  generalize w.heap.size = g at HO ⊢
  obtain ⟨x1, x2, x3, x4⟩ := HO.out.cells
  go_wp2_with fail
  go_region_held3 (fun w' => w'.cell? ⟨g, 2, none⟩ = some (.int .i64 o.a) ∧ w'.cell? ⟨g, 4, none⟩ = some (.string ⟨o.s.toArray⟩))
    (first | exact ⟨x2, x4⟩ | exact ⟨by assumption, by assumption⟩)
    (first
      | (go_at_call 31; have hx := HX.out.below (Below.refl _ _).drew; clear HX; refine (append_herd hx o.a o.s (by omega) hm).mono ?_; rintro e1 wa ⟨rfl, pa, ka⟩; have PA := Lib.hid pa; have ka' := KeepsX.trans (KeepsX.below (Below.refl _ _).drew) ka; have HA := Lib.hid (HO.out.keepsX ka'); have KA := Lib.hid (HK.out.trans ka'); obtain ⟨_, y2, _, y4⟩ := HA.out.cells; clear pa ka ka' hx)
      | (go_at_call 68; have pa := PA.out; clear PA; refine (rappend_herd pa o.a o.s (by omega)).mono ?_; rintro e2 wb ⟨rfl, pb, kb⟩; have PB := Lib.hid pb; have HB := Lib.hid (HA.out.keepsX kb); have KB := Lib.hid (KA.out.trans kb); obtain ⟨_, z2, _, z4⟩ := HB.out.cells; clear pb kb pa))
  go_wp2
  go_ret
  exact ⟨ret_bool (by simp), PB.out.mono (by omega), KB.out⟩

set_option maxHeartbeats 2000000 in
set_option maxRecDepth 100000 in
theorem plays_sync (hk : o.kind = 2) :
    Calls Try.prog 27 #[.pointer (some ⟨c, 0, none⟩), .pointer (some ⟨y, 0, none⟩), .agg #[.int .i64 o.on, .int .i64 o.kind, .int .i64 o.a, .int .i64 o.b, .string ⟨o.s.toArray⟩]] w fun e w' =>
      e = .returned (.bool true) ∧ HerdAt w0 w' L i c y (d.sync.1) (d.sync.1) (m + 1) ∧ KeepsX w w' := by
  obtain ⟨hs, ha0, ha1, hb0, hb1⟩ := ho
  rw [hk]
  clear hk
  have HX := Lib.hid (h.below (balloc w (.cells #[.int .i64 o.on, .int .i64 2, .int .i64 o.a, .int .i64 o.b, .string ⟨o.s.toArray⟩] 47)))
  have HO : Hid (OpIs (w.alloc (.cells #[.int .i64 o.on, .int .i64 2, .int .i64 o.a, .int .i64 o.b, .string ⟨o.s.toArray⟩] 47)) w.heap.size 2 o.a o.b o.s) := ⟨_, heap_new w _, rfl, rfl, rfl, rfl⟩
  have HK : Hid (KeepsX w (w.alloc (.cells #[.int .i64 o.on, .int .i64 2, .int .i64 o.a, .int .i64 o.b, .string ⟨o.s.toArray⟩] 47))) := .below (balloc _ _)
  clear h
  go_enter Try.func27, Try.ntmps27
  go_wp2_with fail
  generalize w.alloc (.cells #[.int .i64 o.on, .int .i64 2, .int .i64 o.a, .int .i64 o.b, .string ⟨o.s.toArray⟩] 47) = wx at HO HX HK ⊢
  generalize w.heap.size = g at HO ⊢
  obtain ⟨x1, x2, x3, x4⟩ := HO.out.cells
  go_wp2_with fail
  refine (sync_herd HX.out).mono ?_
  rintro e1 wa ⟨rfl, pa, ka⟩
  have PA := Lib.hid pa
  have KA := Lib.hid (HK.out.trans ka)
  clear pa ka
  go_wp2_with fail
  refine (rsync_herd PA.out).mono ?_
  rintro e2 wb ⟨rfl, pb, kb⟩
  have PB := Lib.hid pb
  have KB := Lib.hid (KA.out.trans kb)
  clear pb kb
  go_wp2
  go_ret
  exact ⟨ret_bool (by simp), PB.out.mono (by omega), KB.out⟩

set_option maxHeartbeats 2000000 in
set_option maxRecDepth 100000 in
theorem plays_cut (hk : o.kind = 3) :
    Calls Try.prog 27 #[.pointer (some ⟨c, 0, none⟩), .pointer (some ⟨y, 0, none⟩), .agg #[.int .i64 o.on, .int .i64 o.kind, .int .i64 o.a, .int .i64 o.b, .string ⟨o.s.toArray⟩]] w fun e w' =>
      e = .returned (.bool true) ∧ HerdAt w0 w' L i c y ((d.cut o.a o.b).1) ((d.cut o.a o.b).1) (m + 1) ∧ KeepsX w w' := by
  obtain ⟨hs, ha0, ha1, hb0, hb1⟩ := ho
  rw [hk]
  clear hk
  have HX := Lib.hid (h.below (balloc w (.cells #[.int .i64 o.on, .int .i64 3, .int .i64 o.a, .int .i64 o.b, .string ⟨o.s.toArray⟩] 47)))
  have HO : Hid (OpIs (w.alloc (.cells #[.int .i64 o.on, .int .i64 3, .int .i64 o.a, .int .i64 o.b, .string ⟨o.s.toArray⟩] 47)) w.heap.size 3 o.a o.b o.s) := ⟨_, heap_new w _, rfl, rfl, rfl, rfl⟩
  have HK : Hid (KeepsX w (w.alloc (.cells #[.int .i64 o.on, .int .i64 3, .int .i64 o.a, .int .i64 o.b, .string ⟨o.s.toArray⟩] 47))) := .below (balloc _ _)
  clear h
  go_enter Try.func27, Try.ntmps27
  go_wp2_with fail
  generalize w.alloc (.cells #[.int .i64 o.on, .int .i64 3, .int .i64 o.a, .int .i64 o.b, .string ⟨o.s.toArray⟩] 47) = wx at HO HX HK ⊢
  generalize w.heap.size = g at HO ⊢
  obtain ⟨x1, x2, x3, x4⟩ := HO.out.cells
  go_wp2_with fail
  go_region_held3 (fun w' => w'.cell? ⟨g, 2, none⟩ = some (.int .i64 o.a) ∧ w'.cell? ⟨g, 3, none⟩ = some (.int .i64 o.b))
    (first | exact ⟨x2, x3⟩ | exact ⟨by assumption, by assumption⟩)
    (first
      | (go_at_call 21; have hx := HX.out.below (Below.refl _ _).drew; clear HX; refine (cut_herd hx o.a o.b).mono ?_; rintro e1 wa ⟨rfl, pa, ka⟩; have PA := Lib.hid pa; have ka' := KeepsX.trans (KeepsX.below (Below.refl _ _).drew) ka; have HA := Lib.hid (HO.out.keepsX ka'); have KA := Lib.hid (HK.out.trans ka'); obtain ⟨_, y2, y3, _⟩ := HA.out.cells; clear pa ka ka' hx)
      | (go_at_call 70; have pa := PA.out; clear PA; refine (rcut_herd pa o.a o.b).mono ?_; rintro e2 wb ⟨rfl, pb, kb⟩; have PB := Lib.hid pb; have HB := Lib.hid (HA.out.keepsX kb); have KB := Lib.hid (KA.out.trans kb); obtain ⟨_, z2, z3, _⟩ := HB.out.cells; clear pb kb pa))
  go_wp2
  go_ret
  exact ⟨ret_bool (by simp), PB.out.mono (by omega), KB.out⟩

set_option maxHeartbeats 2000000 in
set_option maxRecDepth 100000 in
theorem plays_arm (hk : o.kind = 4) :
    Calls Try.prog 27 #[.pointer (some ⟨c, 0, none⟩), .pointer (some ⟨y, 0, none⟩), .agg #[.int .i64 o.on, .int .i64 o.kind, .int .i64 o.a, .int .i64 o.b, .string ⟨o.s.toArray⟩]] w fun e w' =>
      e = .returned (.bool true) ∧ HerdAt w0 w' L i c y ((d.arm o.a o.b).1) ((d.arm o.a o.b).1) (m + 1) ∧ KeepsX w w' := by
  obtain ⟨hs, ha0, ha1, hb0, hb1⟩ := ho
  rw [hk]
  clear hk
  have HX := Lib.hid (h.below (balloc w (.cells #[.int .i64 o.on, .int .i64 4, .int .i64 o.a, .int .i64 o.b, .string ⟨o.s.toArray⟩] 47)))
  have HO : Hid (OpIs (w.alloc (.cells #[.int .i64 o.on, .int .i64 4, .int .i64 o.a, .int .i64 o.b, .string ⟨o.s.toArray⟩] 47)) w.heap.size 4 o.a o.b o.s) := ⟨_, heap_new w _, rfl, rfl, rfl, rfl⟩
  have HK : Hid (KeepsX w (w.alloc (.cells #[.int .i64 o.on, .int .i64 4, .int .i64 o.a, .int .i64 o.b, .string ⟨o.s.toArray⟩] 47))) := .below (balloc _ _)
  clear h
  go_enter Try.func27, Try.ntmps27
  go_wp2_with fail
  generalize w.alloc (.cells #[.int .i64 o.on, .int .i64 4, .int .i64 o.a, .int .i64 o.b, .string ⟨o.s.toArray⟩] 47) = wx at HO HX HK ⊢
  generalize w.heap.size = g at HO ⊢
  obtain ⟨x1, x2, x3, x4⟩ := HO.out.cells
  go_wp2_with fail
  go_region_held3 (fun w' => w'.cell? ⟨g, 2, none⟩ = some (.int .i64 o.a) ∧ w'.cell? ⟨g, 3, none⟩ = some (.int .i64 o.b))
    (first | exact ⟨x2, x3⟩ | exact ⟨by assumption, by assumption⟩)
    (first
      | (go_at_call 30; have hx := HX.out.below (Below.refl _ _).drew; clear HX; refine (arm_herd hx o.a o.b (by omega) (by omega)).mono ?_; rintro e1 wa ⟨rfl, pa, ka⟩; have PA := Lib.hid pa; have ka' := KeepsX.trans (KeepsX.below (Below.refl _ _).drew) ka; have HA := Lib.hid (HO.out.keepsX ka'); have KA := Lib.hid (HK.out.trans ka'); obtain ⟨_, y2, y3, _⟩ := HA.out.cells; clear pa ka ka' hx)
      | (go_at_call 42; have pa := PA.out; clear PA; refine (rarm_herd pa o.a o.b (by omega) (by omega)).mono ?_; rintro e2 wb ⟨rfl, pb, kb⟩; have PB := Lib.hid pb; have HB := Lib.hid (HA.out.keepsX kb); have KB := Lib.hid (KA.out.trans kb); obtain ⟨_, z2, z3, _⟩ := HB.out.cells; clear pb kb pa))
  go_wp2
  go_ret
  exact ⟨ret_bool (by simp), PB.out.mono (by omega), KB.out⟩

set_option maxHeartbeats 2000000 in
set_option maxRecDepth 100000 in
theorem plays_crash (hk : o.kind = 5) :
    Calls Try.prog 27 #[.pointer (some ⟨c, 0, none⟩), .pointer (some ⟨y, 0, none⟩), .agg #[.int .i64 o.on, .int .i64 o.kind, .int .i64 o.a, .int .i64 o.b, .string ⟨o.s.toArray⟩]] w fun e w' =>
      e = .returned (.bool true) ∧ HerdAt w0 w' L i c y ((d.crash o.a).1) ((d.crash o.a).1) (m + 1) ∧ KeepsX w w' := by
  obtain ⟨hs, ha0, ha1, hb0, hb1⟩ := ho
  rw [hk]
  clear hk
  have HX := Lib.hid (h.below (balloc w (.cells #[.int .i64 o.on, .int .i64 5, .int .i64 o.a, .int .i64 o.b, .string ⟨o.s.toArray⟩] 47)))
  have HO : Hid (OpIs (w.alloc (.cells #[.int .i64 o.on, .int .i64 5, .int .i64 o.a, .int .i64 o.b, .string ⟨o.s.toArray⟩] 47)) w.heap.size 5 o.a o.b o.s) := ⟨_, heap_new w _, rfl, rfl, rfl, rfl⟩
  have HK : Hid (KeepsX w (w.alloc (.cells #[.int .i64 o.on, .int .i64 5, .int .i64 o.a, .int .i64 o.b, .string ⟨o.s.toArray⟩] 47))) := .below (balloc _ _)
  clear h
  go_enter Try.func27, Try.ntmps27
  go_wp2_with fail
  generalize w.alloc (.cells #[.int .i64 o.on, .int .i64 5, .int .i64 o.a, .int .i64 o.b, .string ⟨o.s.toArray⟩] 47) = wx at HO HX HK ⊢
  generalize w.heap.size = g at HO ⊢
  obtain ⟨x1, x2, x3, x4⟩ := HO.out.cells
  go_wp2_with fail
  go_region_held3 (fun w' => w'.cell? ⟨g, 2, none⟩ = some (.int .i64 o.a))
    (first | exact x2 | assumption)
    (first
      | (go_at_call 29; have hx := HX.out.below (Below.refl _ _).drew; clear HX; refine (crash_herd hx o.a (by omega)).mono ?_; rintro e1 wa ⟨rfl, pa, ka⟩; have PA := Lib.hid pa; have ka' := KeepsX.trans (KeepsX.below (Below.refl _ _).drew) ka; have HA := Lib.hid (HO.out.keepsX ka'); have KA := Lib.hid (HK.out.trans ka'); obtain ⟨_, y2, _, _⟩ := HA.out.cells; clear pa ka ka' hx)
      | (go_at_call 71; have pa := PA.out; clear PA; refine (rcrash_herd pa o.a (by omega)).mono ?_; rintro e2 wb ⟨rfl, pb, kb⟩; have PB := Lib.hid pb; have HB := Lib.hid (HA.out.keepsX kb); have KB := Lib.hid (KA.out.trans kb); obtain ⟨_, z2, _, _⟩ := HB.out.cells; clear pb kb pa))
  go_wp2
  go_ret
  exact ⟨ret_bool (by simp), PB.out.mono (by omega), KB.out⟩

set_option maxHeartbeats 2000000 in
set_option maxRecDepth 100000 in
theorem plays_revive (hk : o.kind = 6) :
    Calls Try.prog 27 #[.pointer (some ⟨c, 0, none⟩), .pointer (some ⟨y, 0, none⟩), .agg #[.int .i64 o.on, .int .i64 o.kind, .int .i64 o.a, .int .i64 o.b, .string ⟨o.s.toArray⟩]] w fun e w' =>
      e = .returned (.bool true) ∧ HerdAt w0 w' L i c y (d.revive) (d.revive) (m + 1) ∧ KeepsX w w' := by
  obtain ⟨hs, ha0, ha1, hb0, hb1⟩ := ho
  rw [hk]
  clear hk
  have HX := Lib.hid (h.below (balloc w (.cells #[.int .i64 o.on, .int .i64 6, .int .i64 o.a, .int .i64 o.b, .string ⟨o.s.toArray⟩] 47)))
  have HO : Hid (OpIs (w.alloc (.cells #[.int .i64 o.on, .int .i64 6, .int .i64 o.a, .int .i64 o.b, .string ⟨o.s.toArray⟩] 47)) w.heap.size 6 o.a o.b o.s) := ⟨_, heap_new w _, rfl, rfl, rfl, rfl⟩
  have HK : Hid (KeepsX w (w.alloc (.cells #[.int .i64 o.on, .int .i64 6, .int .i64 o.a, .int .i64 o.b, .string ⟨o.s.toArray⟩] 47))) := .below (balloc _ _)
  clear h
  go_enter Try.func27, Try.ntmps27
  go_wp2_with fail
  generalize w.alloc (.cells #[.int .i64 o.on, .int .i64 6, .int .i64 o.a, .int .i64 o.b, .string ⟨o.s.toArray⟩] 47) = wx at HO HX HK ⊢
  generalize w.heap.size = g at HO ⊢
  obtain ⟨x1, x2, x3, x4⟩ := HO.out.cells
  go_wp2_with fail
  refine (revive_herd HX.out).mono ?_
  rintro e1 wa ⟨rfl, pa, ka⟩
  have PA := Lib.hid pa
  have KA := Lib.hid (HK.out.trans ka)
  clear pa ka
  go_wp2_with fail
  refine (rrevive_herd PA.out).mono ?_
  rintro e2 wb ⟨rfl, pb, kb⟩
  have PB := Lib.hid pb
  have KB := Lib.hid (KA.out.trans kb)
  clear pb kb
  go_wp2
  go_ret
  exact ⟨rfl, PB.out.mono (by omega), KB.out⟩

set_option maxHeartbeats 2000000 in
set_option maxRecDepth 100000 in
theorem plays_other (n0 : (o.kind == 0) = false) (n1 : (o.kind == 1) = false) (n2 : (o.kind == 2) = false) (n3 : (o.kind == 3) = false) (n4 : (o.kind == 4) = false) (n5 : (o.kind == 5) = false) (n6 : (o.kind == 6) = false) (n8 : (o.kind == 8) = false) :
    Calls Try.prog 27 #[.pointer (some ⟨c, 0, none⟩), .pointer (some ⟨y, 0, none⟩), .agg #[.int .i64 o.on, .int .i64 o.kind, .int .i64 o.a, .int .i64 o.b, .string ⟨o.s.toArray⟩]] w fun e w' =>
      e = .returned (.bool true) ∧ HerdAt w0 w' L i c y (d) (d) (m + 1) ∧ KeepsX w w' := by
  obtain ⟨hs, ha0, ha1, hb0, hb1⟩ := ho
  have HX := Lib.hid (h.below (balloc w (.cells #[.int .i64 o.on, .int .i64 o.kind, .int .i64 o.a, .int .i64 o.b, .string ⟨o.s.toArray⟩] 47)))
  have HO : Hid (OpIs (w.alloc (.cells #[.int .i64 o.on, .int .i64 o.kind, .int .i64 o.a, .int .i64 o.b, .string ⟨o.s.toArray⟩] 47)) w.heap.size o.kind o.a o.b o.s) := ⟨_, heap_new w _, rfl, rfl, rfl, rfl⟩
  have HK : Hid (KeepsX w (w.alloc (.cells #[.int .i64 o.on, .int .i64 o.kind, .int .i64 o.a, .int .i64 o.b, .string ⟨o.s.toArray⟩] 47))) := .below (balloc _ _)
  clear h
  go_enter Try.func27, Try.ntmps27
  go_wp2_with fail
  generalize w.alloc (.cells #[.int .i64 o.on, .int .i64 o.kind, .int .i64 o.a, .int .i64 o.b, .string ⟨o.s.toArray⟩] 47) = wx at HO HX HK ⊢
  generalize w.heap.size = g at HO ⊢
  obtain ⟨x1, x2, x3, x4⟩ := HO.out.cells
  go_wp2
  go_ret
  exact ⟨rfl, HX.out.mono (by omega), HK.out⟩

set_option maxHeartbeats 2000000 in
set_option maxRecDepth 100000 in
theorem plays_read (hk : o.kind = 0) :
    Calls Try.prog 27 #[.pointer (some ⟨c, 0, none⟩), .pointer (some ⟨y, 0, none⟩), .agg #[.int .i64 o.on, .int .i64 o.kind, .int .i64 o.a, .int .i64 o.b, .string ⟨o.s.toArray⟩]] w fun e w' =>
      e = .returned (.bool true) ∧ HerdAt w0 w' L i c y (d) (d) (m + 1) ∧ KeepsX w w' := by
  obtain ⟨hs, ha0, ha1, hb0, hb1⟩ := ho
  rw [hk]
  clear hk
  have HX := Lib.hid (h.below (balloc w (.cells #[.int .i64 o.on, .int .i64 0, .int .i64 o.a, .int .i64 o.b, .string ⟨o.s.toArray⟩] 47)))
  have HO : Hid (OpIs (w.alloc (.cells #[.int .i64 o.on, .int .i64 0, .int .i64 o.a, .int .i64 o.b, .string ⟨o.s.toArray⟩] 47)) w.heap.size 0 o.a o.b o.s) := ⟨_, heap_new w _, rfl, rfl, rfl, rfl⟩
  have HK : Hid (KeepsX w (w.alloc (.cells #[.int .i64 o.on, .int .i64 0, .int .i64 o.a, .int .i64 o.b, .string ⟨o.s.toArray⟩] 47))) := .below (balloc _ _)
  clear h
  go_enter Try.func27, Try.ntmps27
  go_wp2_with fail
  generalize w.alloc (.cells #[.int .i64 o.on, .int .i64 0, .int .i64 o.a, .int .i64 o.b, .string ⟨o.s.toArray⟩] 47) = wx at HO HX HK ⊢
  generalize w.heap.size = g at HO ⊢
  obtain ⟨x1, x2, x3, x4⟩ := HO.out.cells
  go_wp2_with fail
  refine (read_herd HX.out o.a).mono ?_
  rintro e1 wa ⟨rfl, pa, ba⟩
  have PA := Lib.hid pa
  have KA := Lib.hid (HK.out.trans (.below ba))
  have HA := Lib.hid (HO.out.below ba)
  obtain ⟨y1, y2, y3, y4⟩ := HA.out.cells
  clear pa ba x1 x2 x3 x4
  go_wp2_with fail
  refine (rread_herd PA.out o.a).mono ?_
  rintro e2 wb ⟨rfl, pb, bb⟩
  have PB := Lib.hid pb
  have KB := Lib.hid (KA.out.trans (.below bb))
  have HB := Lib.hid (HA.out.below bb)
  obtain ⟨z1, z2, z3, z4⟩ := HB.out.cells
  clear pb bb y1 y2 y3 y4
  go_wp2_with fail
  go_region_held3 (fun w' => w'.cell? ⟨g, 2, none⟩ = some (.int .i64 o.a))
    (first | exact z2 | assumption)
    (first
      | (go_at_call 22; have hx := PB.out.below (Below.refl _ _).drew; clear PB; refine (size_herd hx o.a).mono ?_; rintro e3 wc ⟨rfl, pc, bc⟩; have PC := Lib.hid pc; have bc' := bthen (Below.refl _ _).drew bc; have KC := Lib.hid (KB.out.trans (.below bc')); have HC := Lib.hid (HB.out.below bc'); obtain ⟨_, c2, _, _⟩ := HC.out.cells; clear pc bc bc' hx)
      | (go_at_call 67; refine (rsize_herd PC.out o.a).mono ?_; rintro e4 wd ⟨rfl, rfl⟩))
  go_wp2
  go_ret
  exact ⟨ret_bool (by simp), PC.out.mono (by omega), KC.out⟩
end
end Go.Proofs.Ytpjpknndfhablaa
