/- The walk of (*Disk).left: what is left of the files behind k unsafe bytes. -/
import Derived.Test.YtpjpknndfhablaaDiskA
import Derived.Handy
import Derived.RegionTactic
import Derived.BigRegion
namespace Go.Proofs.Ytpjpknndfhablaa
open Go.RowKit

set_option maxHeartbeats 1000000 in
theorem left_any (b : Nat) (w : World) (d : DS) (rs : Value) (r : List (Bool × List UInt8)) (k : Int) (h : DiskRows w b d rs r) (hok : d.Ok) (h0 : -9223372036854775808 ≤ k) (h1 : k ≤ 9223372036854775807) :
    Calls Try.prog 61 #[.pointer (some ⟨b, 0, none⟩), .int .i64 k] w fun e w' =>
      e = .returned (.agg #[.string ⟨(d.left k.toNat false).toArray⟩, .string ⟨(d.left k.toNat true).toArray⟩]) ∧ Below w.heap.size w w' := by
  obtain ⟨c0, c1, c2, c3, c4, c5, cf, hlt⟩ := h.cells
  obtain ⟨ao, cap, rfl, hr, hcell⟩ := h.slice
  have HC := Lib.hid hcell
  have HU := Lib.hid h.u
  clear hcell h c3 c4 c5
  go_enter Try.func61, Try.ntmps61
  go_wp2
  go_loopw [1, 18] (fun kk i wr => ∃ (j : Nat) (k' : Int) (t0 t1 : List UInt8), kk = .int .i64 k' ∧ i = .int .i64 j ∧ j ≤ r.length ∧ -9223372036854775808 ≤ k' ∧ k' ≤ 9223372036854775807 ∧ DS.LeftRel d r k j k' t0 t1 ∧
      wr.heap[w.heap.size + 1]? = some (.cells #[.string ⟨t0.toArray⟩, .string ⟨t1.toArray⟩] 98 (0, 0)) ∧ 
      wr.heap[w.heap.size]? = some (.cells #[.string ⟨#[]⟩, .string ⟨#[]⟩] 98 (0, 0)) ∧ Below w.heap.size w wr) (fun _ i _ => r.length - (intOf i).toNat)
  case atStart =>
    refine ⟨0, k, _, _, rfl, rfl, by omega, h0, h1, DS.LeftRel.zero d r k, ?_, ?_, ?_⟩
    · have := heap_new (w.alloc (.cells #[.string ⟨#[]⟩, .string ⟨#[]⟩] 98)) (.cells #[.string ⟨d.a.toArray⟩, .string ⟨d.b.toArray⟩] 98)
      rwa [World.size_alloc] at this
    · rw [heap_alloc _ (by simp)]; exact heap_new _ _
    · go_grown
  case round =>
    obtain ⟨j, k', t0, t1, rfl, rfl, hj, hk0, hk1, hrel, hn1, hn0, hbl⟩ := hrel
    obtain ⟨b0, b1⟩ := hrel.len HU.out hok
    have d0 := cell_of hn1 (i := 0) rfl
    have d1 := cell_of hn1 (i := 1) rfl
    have e0 := free_of hn1
    have d2 := cell_of hn0 (i := 0) rfl
    have d3 := cell_of hn0 (i := 1) rfl
    have e2 := free_of hn0
    have l1 := heap_lt hn1
    have l0 := heap_lt hn0
    have HR := Lib.hid hrel
    have HN := Lib.hid hn1
    have HN0 := Lib.hid hn0
    have HB := Lib.hid hbl
    clear hrel hn1 hn0 hbl
    by_cases hlt : j < r.length
    · obtain ⟨⟨f, s⟩, hs⟩ : ∃ x, r[j]? = some x := ⟨_, List.getElem?_eq_getElem hlt⟩
      have b2 := DS.row_len HU.out hok hs
      obtain ⟨g, rfl, hg, ca, cb⟩ := HC.out j f s hs
      have HS := Lib.hid hs
      have ca' := (HB.out.cell (p := ⟨g, j * 2, none⟩) hg).trans ca
      have cb' := (HB.out.cell (p := ⟨g, j * 2 + 1, none⟩) hg).trans cb
      have hg' : g < wr.heap.size := Nat.lt_of_lt_of_le hg HB.out.size
      clear ca cb hs
      obtain ⟨m, hm, hm'⟩ : ∃ m : Nat, (m : Int) = min (max 0 k') s.length ∧ ((k' ≤ 0 ∧ m = 0) ∨ (0 < k' ∧ k' ≤ s.length ∧ m = k'.toNat) ∨ (0 < k' ∧ (s.length : Int) < k' ∧ m = s.length)) := ⟨(min (max 0 k') s.length).toNat, by omega, by omega⟩
      have HX := Lib.hid (HR.out.step HS.out hm)
      clear hm
      rcases hm' with ⟨hk, rfl⟩ | ⟨hk, hk', rfl⟩ | ⟨hk, hk', rfl⟩
      all_goals cases f
      all_goals simp only [DS.fi, Bool.false_eq_true, if_true, if_false] at ca'
      all_goals go_wp2
      all_goals go_region
      all_goals go_wp2
      all_goals go_roundw
      all_goals first
        | (simp [intOf]; omega)
        | (refine ⟨j + 1, _, _, _, ?_, by go_num, by omega, ?_, ?_, HX.out, ?_, ?_, ?_⟩
           · go_num
           · omega
           · omega
           · rw [heap_drew, heap_alloc _ (by simpa using l1), heap_set _ HN.out]; simp [bytes_extract, bytes_append, -List.append_toArray]
           · rw [heap_drew, heap_alloc _ (by simpa using l0), heap_set_ne _ (by omega)]; exact HN0.out
           · have hb := HB.out
             go_grown)
    · obtain rfl : j = r.length := by omega
      have HX := Lib.hid (HR.out.done HU.out)
      go_wp2
      have hx := heap_set (i := 1) (.string ⟨t1.toArray⟩) (heap_set (i := 0) (.string ⟨t0.toArray⟩) HN0.out)
      have x0 := cell_of hx (i := 0) rfl
      have x1 := cell_of hx (i := 1) rfl
      refine bodyPost_ret (v := .agg #[.string ⟨t0.toArray⟩, .string ⟨t1.toArray⟩]) (by simp [results, Try.results61, go_sem, x0, x1]) rfl ⟨?_, ?_⟩
      · rw [HX.out.1, HX.out.2]
      · have hb := HB.out
        go_grown
end Go.Proofs.Ytpjpknndfhablaa
