/- Walks of the law's small functions on states: next, sameState, among. -/
import Derived.Test.YtpjpknndfhablaaFixW
namespace Go.Proofs.Ytpjpknndfhablaa
open Go.RowKit
/-- Texts in a slice that has a block. -/
def Row (w : World) (v : Value) (rs : List (List UInt8)) : Prop :=
  ∃ g cap cur, v = .slice (some ⟨g, 0, none⟩) rs.length cap ∧ w.heap[g]? = some (.cells cur 9 (0, 0)) ∧ ∀ (j : Nat) (s : List UInt8), rs[j]? = some s → cur[j]? = some (.string ⟨s.toArray⟩)
theorem Row.keepsOff {ts : List TypeId} {w w' : World} (hk : KeepsOff ts w w') (h1 : 9 ∉ ts) {v : Value} {rs : List (List UInt8)} (h : Row w v rs) : Row w' v rs := by
  obtain ⟨g, cap, cur, hv, hg, hc⟩ := h
  exact ⟨g, cap, cur, hv, hk.cells hg h1, hc⟩
theorem Row.below {w w' : World} (hb : Below w.heap.size w w') {v : Value} {rs : List (List UInt8)} (h : Row w v rs) : Row w' v rs := h.keepsOff (ts := []) (.below hb) (by simp)
theorem RecsAt.row {w : World} {base : Nat} {v : Value} {rs : List (List UInt8)} (h : RecsAt w base v rs) : Row w v rs := by
  obtain ⟨g, cur, hv, _, hg, _, hc⟩ := h
  exact ⟨g, _, cur, hv, hg, hc⟩
theorem Row.texts {w : World} {rs : List (List UInt8)} {g cap : Nat} (h : Row w (.slice (some ⟨g, 0, none⟩) rs.length cap) rs) (hl : rs.length ≤ 9223372036854775807) : Texts w (some ⟨g, 0, none⟩) rs := by
  obtain ⟨g', cap', cur, hv, hg, hc⟩ := h
  cases hv
  exact ⟨hl, fun i s hi => ⟨g, 0, rfl, by rw [Nat.zero_add]; exact cell_of hg (hc i s hi)⟩⟩
theorem row_own {w : World} {base : Nat} {g cap : Nat} {n : Nat} {rs : List (List UInt8)} (h : w.ownsRow base 9 1 (.slice (some ⟨g, 0, none⟩) n cap) n (strs rs)) : Row w (.slice (some ⟨g, 0, none⟩) n cap) rs := by
  have hl := h.1
  rw [strs_length, Nat.mul_one] at hl
  subst hl
  rcases h.2 with ⟨h0, _⟩ | ⟨g', cap', cur, hv, _, hg, h1, h2, h3, h4⟩
  · cases h0
  · cases hv
    refine ⟨g, cap, cur, rfl, hg, fun j s hs => ?_⟩
    have h5 : (strs rs)[j]? = some (.string ⟨s.toArray⟩) := by simp [strs, hs]
    rw [← h4, List.getElem?_take] at h5
    split at h5
    · simpa using h5
    · cases h5
theorem row_empty (w : World) : Row (w.alloc (.cells #[] 9)) (.slice (some ⟨w.heap.size, 0, none⟩) 0 0) [] := ⟨_, _, _, rfl, heap_new w _, by simp⟩
abbrev StV := List UInt8 × List (List UInt8)
/-- States in a slice. -/
def States (w : World) (v : Value) (l : List StV) : Prop :=
  ∃ g cap cur, v = .slice (some ⟨g, 0, none⟩) l.length cap ∧ w.heap[g]? = some (.cells cur 79 (0, 0)) ∧ ∀ (i : Nat) (x : StV), l[i]? = some x → cur[i * 2]? = some (.string ⟨x.1.toArray⟩) ∧ ∃ rv, cur[i * 2 + 1]? = some rv ∧ Row w rv x.2
theorem States.keepsOff {ts : List TypeId} {w w' : World} (hk : KeepsOff ts w w') (h1 : 9 ∉ ts) (h2 : 79 ∉ ts) {v : Value} {l : List StV} (h : States w v l) : States w' v l := by
  obtain ⟨g, cap, cur, hv, hg, hc⟩ := h
  exact ⟨g, cap, cur, hv, hk.cells hg h2, fun i x hi => by
    obtain ⟨h3, rv, h4, h5⟩ := hc i x hi
    exact ⟨h3, rv, h4, h5.keepsOff hk h1⟩⟩
theorem States.below {w w' : World} (hb : Below w.heap.size w w') {v : Value} {l : List StV} (h : States w v l) : States w' v l := h.keepsOff (ts := []) (.below hb) (by simp) (by simp)
set_option maxHeartbeats 2000000 in
set_option maxRecDepth 100000 in
theorem sameState_any (w : World) (x y : StV) (v u : Value) (hv : Row w v x.2) (hu : Row w u y.2) (h1 : x.2.length ≤ 9223372036854775807) (h2 : y.2.length ≤ 9223372036854775807) :
    Calls Try.prog 90 #[.agg #[.string ⟨x.1.toArray⟩, v], .agg #[.string ⟨y.1.toArray⟩, u]] w fun e w' => e = .returned (.bool (decide (x = y))) ∧ Below w.heap.size w w' := by
  obtain ⟨a, l⟩ := x
  obtain ⟨b, k⟩ := y
  simp only at hv hu h1 h2 ⊢
  have HV := Lib.hid hv
  have HU := Lib.hid hu
  obtain ⟨g, cap, _, rfl, _⟩ := hv
  obtain ⟨g', cap', _, rfl, _⟩ := hu
  by_cases hab : a = b
  · subst hab
    go_enter Try.func90, Try.ntmps90
    go_wp2_with fail
    have b0 := bthen (balloc w (.cells #[.string ⟨a.toArray⟩, .slice (some ⟨g, 0, none⟩) l.length cap] 79)) (balloc _ (.cells #[.string ⟨a.toArray⟩, .slice (some ⟨g', 0, none⟩) k.length cap'] 79))
    refine (same_any _ _ _ cap cap' l k ((HV.out.below b0).texts h1) ((HU.out.below b0).texts h2)).mono ?_
    have B0 := Lib.hid b0
    clear b0
    rintro e w1 ⟨rfl, b1⟩
    have B1 := Lib.hid (bthen B0.out b1)
    clear b1
    go_wp2
    go_ret
    exact ⟨ret_bool (by simp), B1.out⟩
  · go_enter Try.func90, Try.ntmps90
    go_wp2
    go_ret
    exact ⟨ret_bool (by simp [hab]), bthen (balloc _ _) (balloc _ _)⟩
theorem StV.few {l : List StV} {i : Nat} {x : StV} (h : ∀ x ∈ l, x.2.length ≤ 9223372036854775807) (hi : l[i]? = some x) : x.2.length ≤ 9223372036854775807 := h x (List.mem_of_getElem? hi)
set_option maxHeartbeats 2000000 in
set_option maxRecDepth 100000 in
theorem among_any (w : World) (x : StV) (v u : Value) (l : List StV) (hv : Row w v x.2) (hu : States w u l) (h1 : x.2.length ≤ 9223372036854775807) (h2 : ∀ x ∈ l, x.2.length ≤ 9223372036854775807) (hl : l.length ≤ 4611686018427387904) (hmem : x ∈ l) :
    Calls Try.prog 50 #[.agg #[.string ⟨x.1.toArray⟩, v], u] w fun e w' => e = .returned (.bool true) ∧ Below w.heap.size w w' := by
  have HV := Lib.hid hv
  have HU := Lib.hid hu
  have HX := Lib.hid h2
  obtain ⟨gv, cv, _, rfl, _⟩ := hv
  obtain ⟨g, cap, cur, rfl, hg, hc⟩ := hu
  have HG := Lib.hid hg
  have HC := Lib.hid hc
  clear hg hc h2
  go_enter Try.func50, Try.ntmps50
  go_wp2
  obtain ⟨wo, hwo⟩ : ∃ wo, w.alloc (.cells #[.string ⟨x.1.toArray⟩, .slice (some ⟨gv, 0, none⟩) x.2.length cv] 79) = wo := ⟨_, rfl⟩
  have hn0 := heap_new w (.cells #[.string ⟨x.1.toArray⟩, .slice (some ⟨gv, 0, none⟩) x.2.length cv] 79)
  have hb0 := balloc w (.cells #[.string ⟨x.1.toArray⟩, .slice (some ⟨gv, 0, none⟩) x.2.length cv] 79)
  rw [hwo] at hn0 hb0 ⊢
  have N0 := Lib.hid hn0
  have B0 := Lib.hid hb0
  clear hwo hn0 hb0
  go_loopw [5] (fun i wr => ∃ j : Nat, i = .int .i64 j ∧ j ≤ l.length ∧ x ∉ l.take j ∧ Below wo.heap.size wo wr) (fun i _ => l.length - (intOf i).toNat)
  case atStart => exact ⟨0, rfl, Nat.zero_le _, by simp, Below.refl _ _⟩
  case round =>
    obtain ⟨j, rfl, hj, hno, hb⟩ := hrel
    have HB := Lib.hid (bthen B0.out hb)
    have HBO := Lib.hid hb
    have HNO := Lib.hid hno
    have n0 := stays N0.out hb
    obtain ⟨c0, c1, _, _⟩ := cells2 n0
    clear hb hno n0
    by_cases hlt : j < l.length
    · obtain ⟨y, hy⟩ : ∃ y, l[j]? = some y := ⟨_, List.getElem?_eq_getElem hlt⟩
      obtain ⟨d0, rv, d1, hrow⟩ := HC.out j y hy
      have hcur := stays HG.out HB.out
      have e0 := cell_of hcur d0
      have e1 := cell_of hcur d1
      have HRW := Lib.hid (hrow.below HB.out)
      have HY := Lib.hid hy
      have HYL := Lib.hid (StV.few HX.out hy)
      have HXW := Lib.hid (HV.out.below HB.out)
      obtain ⟨xs, xr⟩ := x
      obtain ⟨ys, yr⟩ := y
      simp only at c0 c1 e0 e1 HRW HYL HXW h1
      have HBB : Hid (∀ w' : World, Below wr.heap.size wr w' → (Below wr.heap.size wr w' ∧ w'.cell? ⟨w.heap.size, 0, none⟩ = some (.string ⟨xs.toArray⟩) ∧ w'.cell? ⟨w.heap.size, 1, none⟩ = some (.slice (some ⟨gv, 0, none⟩) xr.length cv) ∧ w'.cell? ⟨g, j * 2, none⟩ = some (.string ⟨ys.toArray⟩) ∧ w'.cell? ⟨g, j * 2 + 1, none⟩ = some rv)) :=
        fun w' hb => ⟨hb, cell_later hb c0, cell_later hb c1, cell_later hb e0, cell_later hb e1⟩
      obtain ⟨bb, hbb⟩ : ∃ bb, decide ((xs, xr) = (ys, yr)) = bb := ⟨_, rfl⟩
      have HQ := Lib.hid hbb
      clear hcur d0 d1 hrow hy hbb
      go_wp2_with fail
      go_region_held3 (fun w' => Below wr.heap.size wr w' ∧ w'.cell? ⟨w.heap.size, 0, none⟩ = some (.string ⟨xs.toArray⟩) ∧ w'.cell? ⟨w.heap.size, 1, none⟩ = some (.slice (some ⟨gv, 0, none⟩) xr.length cv) ∧ w'.cell? ⟨g, j * 2, none⟩ = some (.string ⟨ys.toArray⟩) ∧ w'.cell? ⟨g, j * 2 + 1, none⟩ = some rv)
        (first | exact HBB.out _ (Below.refl _ _).drew | exact HBB.out _ (bthen (by assumption : Below wr.heap.size wr _ ∧ _).1 (by assumption)))
        (first | (go_at_call 90; have hb' := (by assumption : Below wr.heap.size wr _ ∧ _).1; refine (sameState_any _ (xs, xr) (ys, yr) _ rv (HXW.out.below hb') (HRW.out.below hb') h1 HYL.out).mono ?_; rw [HQ.out]; clear hb'; rintro e w2 ⟨rfl, hb⟩))
      rename_i hheld
      have HB2 := Lib.hid (bthen HB.out hheld.1)
      have HB3 := Lib.hid (bthen HBO.out hheld.1)
      clear hheld c0 c1 e0 e1
      cases bb with
      | true =>
        go_wp2
        go_ret
        exact ⟨rfl, HB2.out⟩
      | false =>
        go_wp2
        go_roundw
        case rel =>
          refine ⟨j + 1, by go_num, by omega, ?_, HB3.out⟩
          rw [List.take_add_one, HY.out]
          simp only [Option.toList_some, List.mem_append, List.mem_singleton, not_or]
          exact ⟨HNO.out, of_decide_eq_false HQ.out⟩
        case measure => simp [intOf]; omega
    · exfalso
      have : j = l.length := by omega
      subst this
      have := HNO.out
      rw [List.take_length] at this
      exact this hmem
end Go.Proofs.Ytpjpknndfhablaa
