/- Walks of the disk's Clone, New, Read. -/
import Derived.Test.YtpjpknndfhablaaDiskF
import Derived.LoopN
namespace Go.Proofs.Ytpjpknndfhablaa
open Go.RowKit

theorem rowCells_one (r : List (Bool × List UInt8)) : ∀ u ∈ rowCells r, u.oneCell' = true := by
  induction r with
  | nil => intro u hu; cases hu
  | cons x r ih =>
    obtain ⟨f, s⟩ := x
    intro u hu
    simp only [rowCells, List.mem_cons] at hu
    rcases hu with rfl | rfl | hu
    · rfl
    · rfl
    · exact ih u hu

set_option maxHeartbeats 1000000 in
theorem clone_any (b : Nat) (w : World) (d : DS) (m : Nat) (rb : Option Nat) (h : DiskAt w b d m rb) (hm5 : m < 5000000000000) :
    Calls Try.prog 25 #[.pointer (some ⟨b, 0, none⟩)] w fun e w' => ∃ c rb', e = .returned (.pointer (some ⟨c, 0, none⟩)) ∧ w.heap.size ≤ c ∧ DiskAt w' c d m rb' ∧ (∀ k, rb' = some k → w.heap.size ≤ k) ∧ Below w.heap.size w w' := by
  obtain ⟨hok, rs, r, h, hm, rfl⟩ := h
  obtain ⟨c0, c1, c2, c3, c4, c5, cf, hlt⟩ := h.cells
  have H := Lib.hid h
  rcases h.own.2 with ⟨rfl, h0⟩ | ⟨g, cap, cur, rfl, _, hgg, hnc, hcm, hcs, ht⟩
  · clear h
    go_enter Try.func25, Try.ntmps25
    go_wp2_with (first | (go_at_call 65; go_must (refine (cloneL_nil _).mono ?_; rintro e w' ⟨rfl, rfl⟩)))
    go_ret
    refine ⟨_, none, rfl, Nat.le_refl _, ⟨hok, .slice none 0 0, r, ⟨heap_new w _, ?_, H.out.u⟩, hm, rfl⟩, (fun k hk => by cases hk), balloc w _⟩
    have : r = [] := List.eq_nil_of_length_eq_zero h0
    subst this
    exact World.ownsRow_nil _ _ _ _
  · have hn0 := heap_new w (diskBlock d (.slice (some ⟨g, 0, none⟩) r.length cap))
    have N0 := Lib.hid hn0
    have hcells : ∀ j u, (rowCells r)[j]? = some u → (w.alloc (diskBlock d (.slice (some ⟨g, 0, none⟩) r.length cap))).cell? ⟨g, j, none⟩ = some u := fun j u hj => by
      have h1 := h.own.cells (g := g) rfl j u hj
      rw [addr_add, Nat.zero_add] at h1
      exact cell_later (balloc w _) h1
    have HC := Lib.hid hcells
    clear hn0 hcells h hgg hnc hcm hcs ht
    go_enter Try.func25, Try.ntmps25
    go_wp2_with fail
    refine (cloneL_any _ g r.length cap (rowCells r) (rowCells_length r) HC.out (rowCells_one r) (by omega)).mono ?_
    rintro e w2 ⟨v', rfl, ho, hb2⟩
    have hn2 := stays N0.out hb2
    have cf2 := free_of hn2
    have l2 := heap_lt hn2
    have x2 := cell_of hn2 (i := 2) rfl
    have N2 := Lib.hid hn2
    have HO := Lib.hid ho
    have HB := Lib.hid hb2
    have hs2 := hb2.size
    clear hn2 hb2
    have fin : ∀ v : Value, w2.ownsRow (w.alloc (diskBlock d (.slice (some ⟨g, 0, none⟩) r.length cap))).heap.size 106 2 v r.length (rowCells r) → 
        DiskAt (w2.setCell ⟨w.heap.size, 2, none⟩ v) w.heap.size d m v.ownBlock ∧ (∀ k, v.ownBlock = some k → w.heap.size ≤ k) ∧ Below w.heap.size w (w2.setCell ⟨w.heap.size, 2, none⟩ v) := fun v hv => by
      have hvb : ∀ k, v.ownBlock = some k → w.heap.size + 1 ≤ k := fun k hk => by have := (hv.lt k hk).1; simpa using this
      refine ⟨⟨hok, v, r, ⟨?_, ?_, H.out.u⟩, hm, rfl⟩, fun k hk => by have := hvb k hk; omega, ?_⟩
      · rw [heap_set _ N2.out]; simp [diskBlock]
      · have := own_touch hv ((Touch.refl (· = w.heap.size) w2).setCell (a := ⟨w.heap.size, 2, none⟩) v (fun _ => rfl)) (fun k hk => by have := hvb k hk; omega)
        refine ⟨this.1, ?_⟩
        rcases this.2 with h | ⟨g', c', cu', e1, _, e3⟩
        · exact .inl h
        · exact .inr ⟨g', c', cu', e1, Nat.zero_le _, e3⟩
      · exact (bthen (balloc w _) HB.out).setCell (Nat.le_refl _) v
    have HF := Lib.hid fin
    clear fin
    rcases ho.2 with ⟨rfl, h0⟩ | ⟨g', cap', cur', rfl, _⟩
    all_goals clear ho
    all_goals go_wp2
    all_goals go_ret
    all_goals obtain ⟨f1, f2, f3⟩ := HF.out _ HO.out
    all_goals exact ⟨_, _, rfl, Nat.le_refl _, f1, f2, f3⟩

/-- What New makes of files; none: refused, with this number. -/
def DS.made (l : List (List UInt8)) : Option DS × Int :=
  match l with
  | [s, t] => if s.length ≤ 1048576 ∧ t.length ≤ 1048576 then (some { a := s, b := t }, 0) else (none, 91)
  | _ => (none, 90)

/-- A slice of texts that is read: whose it is is not said. -/
structure Texts (w : World) (ao : Option Addr) (l : List (List UInt8)) : Prop where
  len : l.length ≤ 9223372036854775807
  cell : ∀ i s, l[i]? = some s → ∃ b off, ao = some ⟨b, off, none⟩ ∧ w.cell? ⟨b, off + i, none⟩ = some (.string ⟨s.toArray⟩)
theorem Texts.below {w w' : World} {ao : Option Addr} {l : List (List UInt8)} (h : Texts w ao l) (hb : Below w.heap.size w w') : Texts w' ao l :=
  ⟨h.len, fun i s hi => by obtain ⟨b, off, e, hc⟩ := h.cell i s hi; exact ⟨b, off, e, cell_later hb hc⟩⟩

set_option maxHeartbeats 1000000 in
theorem new_any (w : World) (ao : Option Addr) (cap : Nat) (l : List (List UInt8)) (h : Texts w ao l) :
    Calls Try.prog 24 #[.slice ao l.length cap] w fun e w' => Below w.heap.size w w' ∧ 
      ((DS.made l).1 = none ∧ e = .returned (.tuple #[.pointer none, .int .i64 (DS.made l).2]) ∨
      ∃ d c, (DS.made l).1 = some d ∧ e = .returned (.tuple #[.pointer (some ⟨c, 0, none⟩), .int .i64 0]) ∧ w.heap.size ≤ c ∧ DiskAt w' c d 0 none) := by
  have hlen := h.len
  by_cases h2 : l.length = 2
  · obtain ⟨s, t, rfl⟩ : ∃ s t, l = [s, t] := by
      match l, h2 with
      | [s, t], _ => exact ⟨s, t, rfl⟩
    obtain ⟨b, off, rfl, cs⟩ := h.cell 0 s rfl
    obtain ⟨b', off', hbo, ct⟩ := h.cell 1 t rfl
    simp only [Option.some.injEq, Addr.mk.injEq, and_true] at hbo
    obtain ⟨rfl, rfl⟩ := hbo
    have hlt := World.block_lt_of_cell? _ _ cs
    have hlt' : b < w.heap.size := hlt
    clear h hlen h2 hlt
    simp only [Nat.add_zero] at cs
    by_cases hs : s.length ≤ 1048576
    · by_cases ht : t.length ≤ 1048576
      · have HX : Hid (DS.made [s, t] = (some { a := s, b := t }, 0)) := by simp [DS.made, hs, ht, Hid]
        have hok : DS.Ok { a := s, b := t } := ⟨by simpa [DS.size, DS.file, DS.base, DS.of] using hs, by simpa [DS.size, DS.file, DS.base, DS.of] using ht, by simp, by simp⟩
        go_enter Try.func24, Try.ntmps24
        go_wp2
        go_rounds 3
        go_ret2
        refine ⟨by go_grown, .inr ⟨{ a := s, b := t }, w.heap.size, by rw [HX.out], rfl, Nat.le_refl _, hok, .slice none 0 0, [], ⟨?_, World.ownsRow_nil _ _ _ _, rfl⟩, Nat.le_refl _, rfl⟩⟩
        first
          | exact heap_new w _
          | (rw [heap_set _ (heap_set _ (heap_new w _))]; rfl)
      · have HX : Hid (DS.made [s, t] = (none, 91)) := by simp [DS.made, ht, Hid]
        go_enter Try.func24, Try.ntmps24
        go_wp2
        go_rounds 3
        go_ret2
        exact ⟨by go_grown, .inl ⟨congrArg Prod.fst HX.out, ret_two rfl (val_int (congrArg Prod.snd HX.out).symm)⟩⟩
    · have HX : Hid (DS.made [s, t] = (none, 91)) := by simp [DS.made, hs, Hid]
      go_enter Try.func24, Try.ntmps24
      go_wp2
      go_rounds 3
      go_ret2
      exact ⟨by go_grown, .inl ⟨congrArg Prod.fst HX.out, ret_two rfl (val_int (congrArg Prod.snd HX.out).symm)⟩⟩
  · have HX : Hid (DS.made l = (none, 90)) := by
      unfold DS.made
      match l, h2 with
      | [], _ => exact rfl
      | [_], _ => exact rfl
      | [_, _], h2 => exact absurd rfl h2
      | _ :: _ :: _ :: _, _ => exact rfl
    have hb : ((l.length : Int) == 2) = false := by simp; omega
    have hb' : ((l.length : Int) != 2) = true := by simp; omega
    clear h
    go_enter Try.func24, Try.ntmps24
    go_wp2
    go_ret2
    exact ⟨Below.refl _ _, .inl ⟨congrArg Prod.fst HX.out, ret_two rfl (val_int (congrArg Prod.snd HX.out).symm)⟩⟩

set_option maxHeartbeats 1000000 in
theorem read_any (b : Nat) (w : World) (d : DS) (m : Nat) (rb : Option Nat) (f : Int) (h : DiskAt w b d m rb) :
    Calls Try.prog 23 #[.pointer (some ⟨b, 0, none⟩), .int .i64 f] w fun e w' => e = .returned (.tuple #[.string ⟨(d.read f).1.toArray⟩, .int .i64 (d.read f).2]) ∧ Below w.heap.size w w' := by
  obtain ⟨hok, rs, r, h, hm, rfl⟩ := h
  obtain ⟨c0, c1, c2, c3, c4, c5, cf, hlt⟩ := h.cells
  have H := Lib.hid h
  clear h c0 c1 c2 c3 c4
  cases hd : d.dead
  · rw [hd] at c5
    by_cases hf : f = 0 ∨ f = 1
    · obtain ⟨q, rfl⟩ := DS.fi_of hf
      have HX : Hid (d.read (DS.fi q) = (d.file q, 0)) := by unfold DS.read; rw [if_neg (by simp [hd]), DS.fileNo_of]; exact rfl
      clear hf hd
      cases q
      all_goals simp only [DS.fi, Bool.false_eq_true, if_true, if_false] at HX ⊢
      all_goals have HX' := Lib.hid HX
      all_goals clear HX
      all_goals have i0 : ∀ (x y : Value) (w : World), (Instr.index 98 (.agg #[x, y]) (.int .i64 0)).run Try.prog w = .ok x w := fun _ _ _ => by kernel_rfl
      all_goals have i1 : ∀ (x y : Value) (w : World), (Instr.index 98 (.agg #[x, y]) (.int .i64 1)).run Try.prog w = .ok y w := fun _ _ _ => by kernel_rfl
      all_goals go_enter Try.func23, Try.ntmps23
      all_goals go_wp2_with (first | (go_at_call 56; go_must (refine (all_any b _ d rs r H.out hok).mono ?_; rintro e w1 ⟨rfl, hb1⟩; have HB := Lib.hid hb1; clear hb1)) | go_in)
      all_goals go_ret2
      all_goals exact ⟨ret_two (by rw [HX'.out]; rfl) (by rw [HX'.out]; rfl), HB.out⟩
    · have hf' : f < 0 ∨ 2 ≤ f := by omega
      have HX : Hid (d.read f = ([], 90)) := by unfold DS.read; rw [if_neg (by simp [hd]), DS.fileNo_none hf]; exact rfl
      clear hf hd
      rcases hf' with hf | hf
      all_goals go_enter Try.func23, Try.ntmps23
      all_goals go_wp2_with go_in
      all_goals go_ret2
      all_goals exact ⟨ret_two (by rw [HX.out]; rfl) (by rw [HX.out]; rfl), Below.refl _ _⟩
  · rw [hd] at c5
    have HX : Hid (d.read f = ([], 2)) := by unfold DS.read; rw [if_pos hd]; exact rfl
    clear hd
    go_enter Try.func23, Try.ntmps23
    go_wp2_with go_in
    go_ret2
    exact ⟨ret_two (by rw [HX.out]; rfl) (by rw [HX.out]; rfl), Below.refl _ _⟩
end Go.Proofs.Ytpjpknndfhablaa
