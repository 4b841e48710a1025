/- Walks of the law's own functions of chapter 09: fixed, made. -/
import Derived.Test.YtpjpknndfhablaaLawA
namespace Go.Proofs.Ytpjpknndfhablaa
open Go.RowKit

def f0 : DS := { a := [97] }
def f1 : DS := { a := [97], u := [(false, 98), (false, 99)] }
def f2 : DS := { a := [97], u := [(false, 98), (false, 99), (true, 120)] }
def f3 : DS := { a := [97], u := [(false, 98), (false, 99), (true, 120)], armed := 1, keep := 3 }
def f4 : DS := { a := [97, 98, 99], b := [120], keep := 3, dead := true }
def f5 : DS := { a := [97, 98, 99], b := [120], keep := 3 }

set_option maxHeartbeats 2000000 in
set_option maxRecDepth 100000 in
theorem fixed9_any (w : World) : Calls Try.prog 14 #[] w fun e w' => e = .returned (.bool true) ∧ Below w.heap.size w w' := by
  have E0 : Hid (DS.made [[97], []] = (some f0, 0)) := by simp [DS.made, f0, Hid]
  have E1 : Hid (f0.append 0 [98, 99] = (f1, 0)) := rfl
  have E2 : Hid (f1.append 1 [120] = (f2, 0)) := rfl
  have E3 : Hid (f2.cut 0 1 = (f2, 92)) := by unfold DS.cut; rw [if_neg (by decide)]; simp only [DS.fileNo_zero]; rw [if_pos (by right; right; decide)]; exact rfl
  have E4 : Hid (f2.arm 1 3 = (f3, 0)) := rfl
  have E5 : Hid (f3.append 0 [100] = (f4, 2)) := rfl
  have E6 : Hid (f4.revive = f5) := rfl
  have E7 : Hid (f5.read 0 = ([97, 98, 99], 0)) := rfl
  have E8 : Hid (f5.sizeI 1 = 1 ∧ f5.sizeI 2 = -1) := ⟨rfl, rfl⟩
  have E9 : Hid (f2.u.length = 3 ∧ f2.left (1 : Int).toNat false = [97, 98] ∧ f2.left (1 : Int).toNat true = []) := ⟨rfl, rfl, rfl⟩
  go_enter Try.func14, Try.ntmps14
  go_wp2_with fail
  have hn0 := heap_new w (.cells #[.string ⟨#[97]⟩, .string ⟨#[]⟩] 9)
  obtain ⟨x0, x1, _, _⟩ := cells2 hn0
  have HT : Hid (Texts (w.alloc (.cells #[.string ⟨#[97]⟩, .string ⟨#[]⟩] 9)) (some ⟨w.heap.size, 0, none⟩) [[97], []]) := ⟨by decide, fun i s hi => ⟨w.heap.size, 0, rfl, by
    match i, hi with
    | 0, hi => simp at hi; subst hi; exact x0
    | 1, hi => simp at hi; subst hi; exact x1⟩⟩
  clear hn0 x0 x1
  refine (new_any _ (some ⟨w.heap.size, 0, none⟩) 2 [[97], []] HT.out).mono ?_
  rw [E0.out]
  rintro e w1 ⟨hb1, ⟨h, _⟩ | ⟨d, c, hd, rfl, hc, hat⟩⟩
  · cases h
  obtain rfl : f0 = d := Option.some.inj hd
  have H1 : Hid (DiskNew w w1 c f0 0) := ⟨by have := hc; simp at this; omega, bthen (balloc w _) hb1, none, hat, fun k hk => by cases hk⟩
  clear hb1 hd hc hat HT
  have hsz := H1.out.size
  go_wp2_with fail
  refine (append_new H1.out 0 [98, 99] (by decide) (by decide)).mono ?_
  simp only [E1.out]
  rintro e w2 ⟨rfl, h2⟩
  have H2 := Lib.hid h2
  clear h2
  go_wp2_with fail
  refine (append_new H2.out 1 [120] (by decide) (by decide)).mono ?_
  simp only [E2.out]
  rintro e w3 ⟨rfl, h3⟩
  have H3 := Lib.hid h3
  clear h3
  go_wp2_with fail
  refine (waiting_new H3.out).mono ?_
  simp only [E9.out.1]
  rintro e w4 ⟨rfl, h4, _⟩
  have H4 := Lib.hid h4
  clear h4
  go_wp2_with fail
  refine (cut_new H4.out 0 1).mono ?_
  simp only [E3.out]
  rintro e w5 ⟨rfl, h5⟩
  have H5 := Lib.hid h5
  clear h5
  go_wp2_with fail
  refine (after_new H5.out 1 (by decide) (by decide)).mono ?_
  rw [E9.out.2.1, E9.out.2.2]
  rintro e w6 ⟨g, rfl, hg, ht, h6, hb6⟩
  obtain ⟨y0, y1, yl⟩ := ht.cells
  have H6 := Lib.hid h6
  clear h6 ht hb6
  go_wp2_with fail
  refine (arm_new H6.out 1 3 (by decide) (by decide)).mono ?_
  simp only [E4.out]
  rintro e w7 ⟨rfl, h7⟩
  have H7 := Lib.hid h7
  clear h7 y0 y1 yl
  go_wp2_with fail
  refine (append_new H7.out 0 [100] (by decide) (by decide)).mono ?_
  simp only [E5.out]
  rintro e w8 ⟨rfl, h8⟩
  have H8 := Lib.hid h8
  clear h8
  go_wp2_with fail
  refine (dead_new H8.out).mono ?_
  rintro e w9 ⟨rfl, rfl⟩
  go_wp2_with fail
  go_goals
  refine (revive_new H8.out).mono ?_
  simp only [E6.out]
  rintro e w9 ⟨rfl, h9⟩
  have H9 := Lib.hid h9
  clear h9
  go_wp2_with fail
  refine (read_new H9.out 0).mono ?_
  simp only [E7.out]
  rintro e w10 ⟨rfl, h10, _⟩
  have H10 := Lib.hid h10
  clear h10
  go_wp2_with fail
  refine (size_new H10.out 1).mono ?_
  rw [E8.out.1]
  rintro e w11 ⟨rfl, h11, _⟩
  have H11 := Lib.hid h11
  clear h11
  go_wp2_with fail
  refine (size_new H11.out 2).mono ?_
  rw [E8.out.2]
  rintro e w12 ⟨rfl, h12, _⟩
  have H12 := Lib.hid h12
  clear h12
  go_wp2
  go_ret
  exact ⟨rfl, H12.out.2.1⟩
end Go.Proofs.Ytpjpknndfhablaa
