/- Walks of the disk's methods that hand back slices: Files, After, Clone; New; Read. -/
import Derived.Test.YtpjpknndfhablaaDiskD
namespace Go.Proofs.Ytpjpknndfhablaa
open Go.RowKit

def strs (l : List (List UInt8)) : List Value := l.map fun s => .string ⟨s.toArray⟩
theorem strs_length (l : List (List UInt8)) : (strs l).length = l.length := by simp [strs]
theorem Try.stringInfo : (Try.prog.info? 9).map (fun i => (i.zero, i.size, i.bytes)) = some (some (.string ⟨#[]⟩), 1, 16) := by kernel_rfl

set_option maxHeartbeats 1000000 in
theorem cloneS_any (w : World) (g n cap : Nat) (xs : List Value) (hl : xs.length = n * 1) (hcells : ∀ j u, xs[j]? = some u → w.cell? ⟨g, j, none⟩ = some u) (h1 : ∀ u ∈ xs, u.oneCell' = true) (hn : n * 16 ≤ 140737488355328) :
    Calls Try.prog 58 #[.slice (some ⟨g, 0, none⟩) n cap] w fun e w' => ∃ v', e = .returned v' ∧ w'.ownsRow w.heap.size 9 1 v' n xs ∧ Below w.heap.size w w' := by
  have HN := Lib.hid hn
  have hmk := World.ownsRow_made (base := w.heap.size) (e := 9) (size := 1) w #[] 0 (Nat.le_refl _) (by decide) rfl
  have HM := Lib.hid hmk
  have HS := Lib.hid hcells
  have HL := Lib.hid hl
  have H1 := Lib.hid h1
  clear hmk hcells hl h1 hn
  have hnil := @Lib.run_eql_slice_nil
  go_enter Try.func58, Try.ntmps58
  go_wp2_with (first
    | (at_builtin; go_must (refine wpList_append_own2 _ rfl (.tmp 5) (.tmp 6) 22 rfl w.heap.size 9 1 16 _ Try.stringInfo Try.underlying22 rfl (by decide) _ 0 [] rfl HM.out ⟨g, 0, none⟩ n cap xs rfl HL.out (fun j u hj => by
        have hc := HS.out j u hj
        rw [addr_add, Nat.zero_add]
        exact cell_later (balloc w _) hc) H1.out (by have := HN.out; unfold maxLen; omega) (by have := HN.out; omega) (by simp) ?_; intro v' w' ho hgr hb; have HO := Lib.hid ho; have HGR := Lib.hid hgr; clear ho hgr hb)))
  go_ret
  refine ⟨v', rfl, by simpa using HO.out, ?_⟩
  exact (Touch.trans (Touch.of_below (S := fun _ => False) (balloc w _)) (touch_of_grown HGR.out) (fun k hk h => by have : w.heap.size = k := Option.some.inj h; omega)).below (Nat.le_refl _) (fun _ _ h => h)

set_option maxHeartbeats 1000000 in
theorem cloneS_nil (w : World) : Calls Try.prog 58 #[.slice none 0 0] w fun e w' => e = .returned (.slice none 0 0) ∧ w = w' := by
  have hnil := @Lib.run_eql_slice_nil
  go_enter Try.func58, Try.ntmps58
  go_wp2
  go_ret
  exact ⟨rfl, rfl⟩

set_option maxHeartbeats 1000000 in
theorem cloneL_any (w : World) (g n cap : Nat) (xs : List Value) (hl : xs.length = n * 2) (hcells : ∀ j u, xs[j]? = some u → w.cell? ⟨g, j, none⟩ = some u) (h1 : ∀ u ∈ xs, u.oneCell' = true) (hn : n * 24 ≤ 140737488355328) :
    Calls Try.prog 65 #[.slice (some ⟨g, 0, none⟩) n cap] w fun e w' => ∃ v', e = .returned v' ∧ w'.ownsRow w.heap.size 106 2 v' n xs ∧ Below w.heap.size w w' := by
  have HN := Lib.hid hn
  have hmk := World.ownsRow_made (base := w.heap.size) (e := 106) (size := 2) w #[] 0 (Nat.le_refl _) (by decide) rfl
  have HM := Lib.hid hmk
  have HS := Lib.hid hcells
  have HL := Lib.hid hl
  have H1 := Lib.hid h1
  clear hmk hcells hl h1 hn
  have hnil := @Lib.run_eql_slice_nil
  go_enter Try.func65, Try.ntmps65
  go_wp2_with (first
    | (at_builtin; go_must (refine wpList_append_own2 _ rfl (.tmp 5) (.tmp 6) 101 rfl w.heap.size 106 2 24 _ Try.laidInfo Try.underlying101 rfl (by decide) _ 0 [] rfl HM.out ⟨g, 0, none⟩ n cap xs rfl HL.out (fun j u hj => by
        have hc := HS.out j u hj
        rw [addr_add, Nat.zero_add]
        exact cell_later (balloc w _) hc) H1.out (by have := HN.out; unfold maxLen; omega) (by have := HN.out; omega) (by simp) ?_; intro v' w' ho hgr hb; have HO := Lib.hid ho; have HGR := Lib.hid hgr; clear ho hgr hb)))
  go_ret
  refine ⟨v', rfl, by simpa using HO.out, ?_⟩
  exact (Touch.trans (Touch.of_below (S := fun _ => False) (balloc w _)) (touch_of_grown HGR.out) (fun k hk h => by have : w.heap.size = k := Option.some.inj h; omega)).below (Nat.le_refl _) (fun _ _ h => h)

set_option maxHeartbeats 1000000 in
theorem cloneL_nil (w : World) : Calls Try.prog 65 #[.slice none 0 0] w fun e w' => e = .returned (.slice none 0 0) ∧ w = w' := by
  have hnil := @Lib.run_eql_slice_nil
  go_enter Try.func65, Try.ntmps65
  go_wp2
  go_ret
  exact ⟨rfl, rfl⟩

set_option maxHeartbeats 1000000 in
theorem clip_any (w : World) (g n cap : Nat) (hn : n ≤ cap) (_hc : cap ≤ 9223372036854775807) :
    Calls Try.prog 57 #[.slice (some ⟨g, 0, none⟩) n cap] w fun e w' => e = .returned (.slice (some ⟨g, 0, none⟩) n n) ∧ w = w' := by
  go_enter Try.func57, Try.ntmps57
  go_wp2
  go_ret
  exact ⟨rfl, rfl⟩

/-- Block g begins with these two texts. -/
def Two (w : World) (g : Nat) (s t : List UInt8) : Prop := ∃ cur : Array Value, w.heap[g]? = some (.cells cur 9 (0, 0)) ∧ cur[0]? = some (.string ⟨s.toArray⟩) ∧ cur[1]? = some (.string ⟨t.toArray⟩)

set_option maxHeartbeats 1000000 in
theorem files_any (b : Nat) (w : World) (d : DS) (m : Nat) (rb : Option Nat) (h : DiskAt w b d m rb) :
    Calls Try.prog 15 #[.pointer (some ⟨b, 0, none⟩)] w fun e w' => ∃ g, e = .returned (.slice (some ⟨g, 0, none⟩) 2 2) ∧ w.heap.size ≤ g ∧ Two w' g (d.file false) (d.file true) ∧ Below w.heap.size w w' := by
  obtain ⟨hok, rs, r, h, hm, rfl⟩ := h
  have H := Lib.hid h
  clear h
  go_enter Try.func15, Try.ntmps15
  go_wp2_with fail
  refine (all_any b w d rs r H.out hok).mono ?_
  rintro e w1 ⟨rfl, hb1⟩
  have n1 := heap_new w1 (.cells #[.string ⟨(d.file false).toArray⟩, .string ⟨(d.file true).toArray⟩] 98)
  have HB1 := Lib.hid hb1
  have N1 := Lib.hid n1
  clear hb1 n1
  go_wp2_with fail
  obtain ⟨x0, x1, _, _⟩ := cells2 N1.out
  refine (cloneS_any _ w1.heap.size 2 2 [.string ⟨(d.file false).toArray⟩, .string ⟨(d.file true).toArray⟩] rfl (fun j u hj => ?_) (by intro u hu; simp at hu; rcases hu with rfl | rfl <;> rfl) (by decide)).mono ?_
  · match j, hj with
    | 0, hj => simp at hj; subst hj; exact x0
    | 1, hj => simp at hj; subst hj; exact x1
  rintro e w2 ⟨v', rfl, ho, hb2⟩
  clear x0 x1
  have HO := Lib.hid ho
  have HB2 := Lib.hid hb2
  obtain ⟨g, cap, cur, rfl, hgs, hgg, hnc, hcm, hcs, ht⟩ := ho.2.resolve_left (by simp)
  have hcm' : cap ≤ 9223372036854775807 := by unfold maxLen at hcm; omega
  have HX : Hid (Two w2 g (d.file false) (d.file true)) := ⟨cur, hgg, by
    have := congrArg (fun l => l[0]?) ht; simpa using this, by
    have := congrArg (fun l => l[1]?) ht; simpa using this⟩
  have HG := Lib.hid hgs
  clear ho hb2 hgg ht hcs hcm hgs
  go_wp2_with fail
  refine (clip_any w2 g 2 cap hnc hcm').mono ?_
  rintro e w3 ⟨rfl, rfl⟩
  go_wp2
  go_ret
  have hb := bthen (bthen HB1.out (balloc w1 _)) HB2.out
  exact ⟨g, rfl, Nat.le_trans (Nat.le_trans HB1.out.size (by simp)) HG.out, HX.out, hb⟩

set_option maxHeartbeats 1000000 in
theorem after_any (b : Nat) (w : World) (d : DS) (m : Nat) (rb : Option Nat) (k : Int) (h : DiskAt w b d m rb) (h0 : -9223372036854775808 ≤ k) (h1 : k ≤ 9223372036854775807) :
    Calls Try.prog 19 #[.pointer (some ⟨b, 0, none⟩), .int .i64 k] w fun e w' => ∃ g, e = .returned (.slice (some ⟨g, 0, none⟩) 2 2) ∧ w.heap.size ≤ g ∧ Two w' g (d.left k.toNat false) (d.left k.toNat true) ∧ Below w.heap.size w w' := by
  obtain ⟨hok, rs, r, h, hm, rfl⟩ := h
  have H := Lib.hid h
  clear h
  go_enter Try.func19, Try.ntmps19
  go_wp2_with fail
  refine (left_any b w d rs r k H.out hok h0 h1).mono ?_
  rintro e w1 ⟨rfl, hb1⟩
  have n1 := heap_new w1 (.cells #[.string ⟨(d.left k.toNat false).toArray⟩, .string ⟨(d.left k.toNat true).toArray⟩] 98)
  have HB1 := Lib.hid hb1
  have N1 := Lib.hid n1
  clear hb1 n1
  go_wp2_with fail
  obtain ⟨x0, x1, _, _⟩ := cells2 N1.out
  refine (cloneS_any _ w1.heap.size 2 2 [.string ⟨(d.left k.toNat false).toArray⟩, .string ⟨(d.left k.toNat true).toArray⟩] rfl (fun j u hj => ?_) (by intro u hu; simp at hu; rcases hu with rfl | rfl <;> rfl) (by decide)).mono ?_
  · match j, hj with
    | 0, hj => simp at hj; subst hj; exact x0
    | 1, hj => simp at hj; subst hj; exact x1
  rintro e w2 ⟨v', rfl, ho, hb2⟩
  clear x0 x1
  have HO := Lib.hid ho
  have HB2 := Lib.hid hb2
  obtain ⟨g, cap, cur, rfl, hgs, hgg, hnc, hcm, hcs, ht⟩ := ho.2.resolve_left (by simp)
  have hcm' : cap ≤ 9223372036854775807 := by unfold maxLen at hcm; omega
  have HX : Hid (Two w2 g (d.left k.toNat false) (d.left k.toNat true)) := ⟨cur, hgg, by
    have := congrArg (fun l => l[0]?) ht; simpa using this, by
    have := congrArg (fun l => l[1]?) ht; simpa using this⟩
  have HG := Lib.hid hgs
  clear ho hb2 hgg ht hcs hcm hgs
  go_wp2_with fail
  refine (clip_any w2 g 2 cap hnc hcm').mono ?_
  rintro e w3 ⟨rfl, rfl⟩
  go_wp2
  go_ret
  have hb := bthen (bthen HB1.out (balloc w1 _)) HB2.out
  exact ⟨g, rfl, Nat.le_trans (Nat.le_trans HB1.out.size (by simp)) HG.out, HX.out, hb⟩
end Go.Proofs.Ytpjpknndfhablaa
