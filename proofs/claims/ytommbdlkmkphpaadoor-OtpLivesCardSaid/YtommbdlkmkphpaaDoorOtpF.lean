/- Walk of otp.Find: a range over its iterator. -/
import Derived.Test.YtommbdlkmkphpaaDoorOtpE
import Derived.Test.YtommbdlkmkphpaaDoorHshE
namespace Go.Proofs.YtommbdlkmkphpaaDoor
open Go.RowKit Go.Shelf
attribute [local go_sem] Oper.semAt_some
namespace Otp
theorem look_hit {p : Int → Bool} : ∀ {n k : Nat} {s : Int}, k < n → (∀ i : Nat, i < k → p (s - i) = false) → p (s - k) = true → look p n s = some (s - k)
  | 0, k, s, h, _, _ => by omega
  | n + 1, 0, s, _, _, h1 => by
    rw [look]
    have : s - ((0 : Nat) : Int) = s := by omega
    rw [this] at h1 ⊢
    rw [if_pos h1]
  | n + 1, k + 1, s, h, h0, h1 => by
    have a := h0 0 (by omega)
    rw [show s - ((0 : Nat) : Int) = s by omega] at a
    rw [look, if_neg (by simp [a]), look_hit (n := n) (k := k) (s := s - 1) (by omega) (fun i hi => by rw [show s - 1 - (i : Int) = s - ((i + 1 : Nat) : Int) by omega]; exact h0 (i + 1) (by omega)) (by rw [show s - 1 - (k : Int) = s - ((k + 1 : Nat) : Int) by omega]; exact h1)]
    rw [show s - 1 - (k : Int) = s - ((k + 1 : Nat) : Int) by omega]
theorem look_miss {p : Int → Bool} : ∀ {n : Nat} {s : Int}, (∀ i : Nat, i < n → p (s - i) = false) → look p n s = none
  | 0, s, _ => rfl
  | n + 1, s, h0 => by
    have a := h0 0 (by omega)
    rw [show s - ((0 : Nat) : Int) = s by omega] at a
    rw [look, if_neg (by simp [a]), look_miss (n := n) (s := s - 1) (fun i hi => by rw [show s - 1 - (i : Int) = s - ((i + 1 : Nat) : Int) by omega]; exact h0 (i + 1) (by omega))]
end Otp
theorem winList_at {step win : Int} {k i : Nat} (h : i < k) : (winList step win k)[i]? = some (step + win - i) := by simp [winList, h]
theorem find_hit {secret c : List UInt8} {step win : Int} (hg : Otp.good step win) {k : Nat} (hk : k < Otp.span step win) {q : List Tick} {y : Tick} (hpre : (q ++ [y]).map (·.1) = winList step win (k + 1)) (hq : ∀ z ∈ q, Otp.code secret z.1 ≠ c) (hy : Otp.code secret y.1 = c) : Otp.find secret c step win = some y.1 := by
  have hl : q.length = k := by have := congrArg List.length hpre; simp [winList_length] at this; exact this
  have hat : ∀ i : Nat, i < k → ∃ z ∈ q, z.1 = step + win - i := fun i hi => by
    have h1 := winList_at (step := step) (win := win) (k := k + 1) (i := i) (by omega)
    rw [← hpre, List.getElem?_map, List.getElem?_append_left (by omega)] at h1
    obtain ⟨z, hz, he⟩ := Option.map_eq_some_iff.1 h1
    exact ⟨z, List.mem_of_getElem? hz, he⟩
  have hyk : y.1 = step + win - k := by
    have h1 := winList_at (step := step) (win := win) (k := k + 1) (i := k) (by omega)
    rw [← hpre, List.getElem?_map, List.getElem?_append_right (by omega), hl, Nat.sub_self] at h1
    simpa using h1
  unfold Otp.find
  rw [if_pos hg, hyk]
  refine Otp.look_hit hk (fun i hi => ?_) (by rw [← hyk]; simp [hy])
  obtain ⟨z, hz, he⟩ := hat i hi
  rw [← he]; simpa using hq z hz
theorem find_miss {secret c : List UInt8} {step win : Int} {xs : List Tick} (hx : xs.map (·.1) = winAll step win) (hq : ∀ z ∈ xs, Otp.code secret z.1 ≠ c) : Otp.find secret c step win = none := by
  unfold Otp.find
  unfold winAll at hx
  by_cases hg : Otp.good step win
  · rw [if_pos hg] at hx ⊢
    refine Otp.look_miss fun i hi => ?_
    have h1 := winList_at (step := step) (win := win) hi
    rw [← hx, List.getElem?_map] at h1
    obtain ⟨z, hz, he⟩ := Option.map_eq_some_iff.1 h1
    rw [← he]; simpa using hq z (List.mem_of_getElem? hz)
  · rw [if_neg hg]
theorem keepsOthers_below {W W' : World} (h : Below W.heap.size W W') : KeepsOthers W W' :=
  ⟨h.size, fun k _ hk _ => (h.block k (Array.getElem?_eq_some_iff.1 hk).1).trans hk⟩
/-- What lies in the four blocks of otp.Find. -/
structure FindAt (W : World) (N : Nat) (secret c : List UInt8) (r : Int) (b : Bool) : Prop where
  c0 : W.cell? ⟨N, 0, none⟩ = some (.string ⟨secret.toArray⟩)
  c1 : W.cell? ⟨N + 1, 0, none⟩ = some (.string ⟨c.toArray⟩)
  c2 : W.cell? ⟨N + 1 + 1, 0, none⟩ = some (.int .i64 r)
  c3 : W.cell? ⟨N + 1 + 1 + 1, 0, none⟩ = some (.bool b)
  f2 : W.frozen? ⟨N + 1 + 1, 0, none⟩ = false
  f3 : W.frozen? ⟨N + 1 + 1 + 1, 0, none⟩ = false
  sz : N + 6 ≤ W.heap.size
theorem FindAt.kept {W W' : World} {row : Option Nat} {N : Nat} {secret c : List UInt8} {r : Int} {b : Bool} (h : FindAt W N secret c r b) (hg : W.grownBy W' row) (hr : ∀ r, row = some r → ∃ o : Obj, W.heap[r]? = some o ∧ o.isCells = false) : FindAt W' N secret c r b :=
  ⟨cell_kept h.c0 hg hr, cell_kept h.c1 hg hr, cell_kept h.c2 hg hr, cell_kept h.c3 hg hr, (frozen_kept h.c2 hg hr).trans h.f2, (frozen_kept h.c3 hg hr).trans h.f3, Nat.le_trans h.sz hg.size⟩
theorem cell_at_lt {W : World} {b i : Nat} {v : Value} (h : W.cell? ⟨b, i, none⟩ = some v) : b < W.heap.size := by
  unfold World.cell? at h
  rcases Nat.lt_or_ge b W.heap.size with h' | h'
  · exact h'
  · rw [Array.getElem?_eq_none h'] at h; cases h
theorem FindAt.below {W W' : World} {N : Nat} {secret c : List UInt8} {r : Int} {b : Bool} (h : FindAt W N secret c r b) (hb : Below W.heap.size W W') : FindAt W' N secret c r b :=
  ⟨(hb.cell (p := ⟨N, 0, none⟩) (cell_at_lt h.c0)).trans h.c0, (hb.cell (p := ⟨N + 1, 0, none⟩) (cell_at_lt h.c1)).trans h.c1, (hb.cell (p := ⟨N + 1 + 1, 0, none⟩) (cell_at_lt h.c2)).trans h.c2, (hb.cell (p := ⟨N + 1 + 1 + 1, 0, none⟩) (cell_at_lt h.c3)).trans h.c3,
    (hb.frozen (p := ⟨N + 1 + 1, 0, none⟩) (cell_at_lt h.c2)).trans h.f2, (hb.frozen (p := ⟨N + 1 + 1 + 1, 0, none⟩) (cell_at_lt h.c3)).trans h.f3, Nat.le_trans h.sz hb.size⟩
theorem FindAt.set {W : World} {N : Nat} {secret c : List UInt8} {r : Int} {b : Bool} (h : FindAt W N secret c r b) (r' : Int) (b' : Bool) : FindAt ((W.setCell ⟨N + 1 + 1, 0, none⟩ (.int .i64 r')).setCell ⟨N + 1 + 1 + 1, 0, none⟩ (.bool b')) N secret c r' b' := by
  refine ⟨?_, ?_, ?_, ?_, ?_, ?_, by simpa using h.sz⟩
  · rw [World.cell?_setCell_other _ _ _ _ (by intro h; simp only [Addr.mk.injEq] at h; omega), World.cell?_setCell_other _ _ _ _ (by intro h; simp only [Addr.mk.injEq] at h; omega)]; exact h.c0
  · rw [World.cell?_setCell_other _ _ _ _ (by intro h; simp only [Addr.mk.injEq] at h; omega), World.cell?_setCell_other _ _ _ _ (by intro h; simp only [Addr.mk.injEq] at h; omega)]; exact h.c1
  · rw [World.cell?_setCell_other _ _ _ _ (by intro h; simp only [Addr.mk.injEq] at h; omega)]; exact World.cell?_setCell_same' _ _ _ (by rw [h.c2]; rfl)
  · refine World.cell?_setCell_same' _ _ _ ?_
    rw [World.cell?_setCell_other _ _ _ _ (by intro h; simp only [Addr.mk.injEq] at h; omega), h.c3]; rfl
  · rw [World.frozen?_setCell, World.frozen?_setCell]; exact h.f2
  · rw [World.frozen?_setCell, World.frozen?_setCell]; exact h.f3
theorem find_start (w : World) (secret c : List UInt8) (step win : Int) {W : World} (hW : W = ((((((w.alloc (.cells #[.string ⟨secret.toArray⟩] 9)).alloc (.cells #[.string ⟨c.toArray⟩] 9)).alloc (.cells #[.int .i64 0] 3)).alloc (.cells #[.bool false] 4)).alloc (.cells #[.int .i64 step] 3)).alloc (.cells #[.int .i64 win] 3))) :
    FindAt W w.heap.size secret c 0 false ∧ W.cell? ⟨w.heap.size + 1 + 1 + 1 + 1, 0, none⟩ = some (.int .i64 step) ∧ W.cell? ⟨w.heap.size + 1 + 1 + 1 + 1 + 1, 0, none⟩ = some (.int .i64 win) ∧ W.heap.size = w.heap.size + 6 ∧ Below w.heap.size w W := by
  subst hW
  have b1 := balloc w (.cells #[.string ⟨secret.toArray⟩] 9)
  have n1 := heap_new w (.cells #[.string ⟨secret.toArray⟩] 9)
  generalize h1 : w.alloc (.cells #[.string ⟨secret.toArray⟩] 9) = w1 at *
  have s1 : w1.heap.size = w.heap.size + 1 := by rw [← h1]; simp
  clear h1
  have b2 := balloc w1 (.cells #[.string ⟨c.toArray⟩] 9)
  have n2 := heap_new w1 (.cells #[.string ⟨c.toArray⟩] 9)
  generalize h2 : w1.alloc (.cells #[.string ⟨c.toArray⟩] 9) = w2 at *
  have s2 : w2.heap.size = w.heap.size + 1 + 1 := by rw [← h2]; simp [s1]
  clear h2
  have b3 := balloc w2 (.cells #[.int .i64 0] 3)
  have n3 := heap_new w2 (.cells #[.int .i64 0] 3)
  generalize h3 : w2.alloc (.cells #[.int .i64 0] 3) = w3 at *
  have s3 : w3.heap.size = w.heap.size + 1 + 1 + 1 := by rw [← h3]; simp [s2]
  clear h3
  have b4 := balloc w3 (.cells #[.bool false] 4)
  have n4 := heap_new w3 (.cells #[.bool false] 4)
  generalize h4 : w3.alloc (.cells #[.bool false] 4) = w4 at *
  have s4 : w4.heap.size = w.heap.size + 1 + 1 + 1 + 1 := by rw [← h4]; simp [s3]
  clear h4
  have b5 := balloc w4 (.cells #[.int .i64 step] 3)
  have n5 := heap_new w4 (.cells #[.int .i64 step] 3)
  generalize h5 : w4.alloc (.cells #[.int .i64 step] 3) = w5 at *
  have s5 : w5.heap.size = w.heap.size + 1 + 1 + 1 + 1 + 1 := by rw [← h5]; simp [s4]
  clear h5
  have b6 := balloc w5 (.cells #[.int .i64 win] 3)
  have n6 := heap_new w5 (.cells #[.int .i64 win] 3)
  generalize h6 : w5.alloc (.cells #[.int .i64 win] 3) = w6 at *
  have s6 : w6.heap.size = w.heap.size + 6 := by rw [← h6]; simp [s5]
  clear h6
  rw [s1] at n2
  rw [s2] at n3
  rw [s3] at n4
  rw [s4] at n5
  rw [s5] at n6
  have m1 := stays n1 (bthen b2 (bthen b3 (bthen b4 (bthen b5 b6))))
  have m2 := stays n2 (bthen b3 (bthen b4 (bthen b5 b6)))
  have m3 := stays n3 (bthen b4 (bthen b5 b6))
  have m4 := stays n4 (bthen b5 b6)
  have m5 := stays n5 b6
  exact ⟨⟨(cells1 m1).1, (cells1 m2).1, (cells1 m3).1, (cells1 m4).1, (cells1 m3).2.1 0, (cells1 m4).2.1 0, by omega⟩, (cells1 m5).1, (cells1 n6).1, s6, bthen b1 (bthen b2 (bthen b3 (bthen b4 (bthen b5 b6))))⟩
set_option maxHeartbeats 4000000 in
set_option maxRecDepth 100000 in
theorem find_any (secret c : List UInt8) (step win : Int) (w : World) (ht : Tab w) (hs : secret.length ≤ 140737488355200) (hc : c.length ≤ 140737488355328) (_hst : -9223372036854775808 ≤ step ∧ step ≤ 9223372036854775807) (_hwi : -9223372036854775808 ≤ win ∧ win ≤ 9223372036854775807) :
    Calls Tryd.prog 11 #[.string ⟨secret.toArray⟩, .string ⟨c.toArray⟩, .int .i64 step, .int .i64 win] w fun e w' => e = .returned (.tuple #[.int .i64 ((Otp.find secret c step win).getD 0), .bool (Otp.find secret c step win).isSome]) ∧ Below w.heap.size w w' := by
  refine (callsIn_wide (n := 3)).1 ?_
  refine callsIn_of_wp_marks Tryd.func11 rfl trivial ?_ rfl
  simp only [Tryd.ntmps11, List.size_toArray, List.length_cons, List.length_nil, Nat.reduceAdd, Nat.reduceSub, Array.replicate_succ, Array.replicate_zero, List.push_toArray, List.append_toArray, List.nil_append, List.cons_append]
  gi_wp2_with (refine ⟨trivial, ?_⟩; gi_at_call 18; refine (callsIn_wide.2 (steps_any step win _)).mono ?_; rintro e w' ⟨rfl, rfl⟩)
  obtain ⟨W0, hW0⟩ : ∃ W0, ((((((w.alloc (.cells #[.string ⟨secret.toArray⟩] 9)).alloc (.cells #[.string ⟨c.toArray⟩] 9)).alloc (.cells #[.int .i64 0] 3)).alloc (.cells #[.bool false] 4)).alloc (.cells #[.int .i64 step] 3)).alloc (.cells #[.int .i64 win] 3)) = W0 := ⟨_, rfl⟩
  obtain ⟨hA0, hs0, hs1, hsz, hB0⟩ := find_start w secret c step win hW0.symm
  rw [hW0]
  clear hW0
  refine wpIn_rangeFunc_ownF rfl (by omega) (gf := 25) (lb := #[.pointer (some ⟨w.heap.size + 1 + 1 + 1 + 1, 0, none⟩), .pointer (some ⟨w.heap.size + 1 + 1 + 1 + 1 + 1, 0, none⟩)]) rfl trivial (enters_of Tryd.func25 (by kernel_rfl) rfl)
    (steps_stops Fence.wide _ trivial rfl (by omega) (w.heap.size + 1 + 1 + 1 + 1) (w.heap.size + 1 + 1 + 1 + 1 + 1) (w.heap.size + 6) step win W0 (by omega) (by omega) (by omega) hs0 hs1) belowK_t (belowK_b (by omega)) (Below.refl _ _) (fun _ => rfl)
    (fun pre W => ((∀ y ∈ pre, Otp.code secret y.1 ≠ c) ∧ FindAt W w.heap.size secret c 0 false) ∧ Below w.heap.size w W)
    (fun q pre W => (q = .ret ∧ ∃ p y, pre = p ++ [y] ∧ (∀ z ∈ p, Otp.code secret z.1 ≠ c) ∧ Otp.code secret y.1 = c ∧ FindAt W w.heap.size secret c y.1 true) ∧ Below w.heap.size w W)
    (OwnFrom.and (Own.from (fun s A B row hs hg hr => ⟨hs.1, hs.2.kept hg hr⟩) _) (ownFrom_below (Nat.le_refl _) (by omega)))
    (fun q => OwnFrom.and (Own.from (fun s A B row hs hg hr => ⟨hs.1, by obtain ⟨p, y, e1, e2, e3, e4⟩ := hs.2; exact ⟨p, y, e1, e2, e3, e4.kept hg hr⟩⟩) _) (ownFrom_below (Nat.le_refl _) (by omega)))
    ⟨⟨by simp, hA0⟩, hB0⟩
    (fun x => { tmps := #[.string ⟨secret.toArray⟩, .string ⟨c.toArray⟩, .int .i64 step, .int .i64 win, .pointer (some ⟨w.heap.size, 0, none⟩), .pointer (some ⟨w.heap.size + 1, 0, none⟩), undef, undef, .pointer (some ⟨w.heap.size + 1 + 1, 0, none⟩), .pointer (some ⟨w.heap.size + 1 + 1 + 1, 0, none⟩), .int .i64 x.1, .int .i64 step, .int .i64 win, .func (.func 25) #[] #[.pointer (some ⟨w.heap.size + 1 + 1 + 1 + 1, 0, none⟩), .pointer (some ⟨w.heap.size + 1 + 1 + 1 + 1 + 1, 0, none⟩)], .int .i64 x.1, undef, undef, undef, undef, undef, undef], defers := [] }) ?assign ?body ?done ?stop
  case assign =>
    intro l x W K hK
    gi_wp2
    exact hK
  case body =>
    rintro l pre x W ⟨⟨hp, hA⟩, hB⟩ _
    have hmx : Tryd.prog.follows .mixedOrders = true := by kernel_rfl
    obtain ⟨D, hD⟩ : ∃ D, Otp.code secret x.1 = D := ⟨_, rfl⟩
    obtain ⟨t, hT⟩ : ∃ t, decide (D = c) = t := ⟨_, rfl⟩
    have hx1 := x.2.1
    have hx2 := x.2.2
    have HCODE : Hid (∀ W', Below w.heap.size w W' → Calls Tryd.prog 9 #[.string ⟨secret.toArray⟩, .int .i64 x.1] W' fun e w' => e = .returned (.string ⟨D.toArray⟩) ∧ Below W'.heap.size W' w') := Lib.hid fun W' hb => by
      have := code_any secret x.1 W' (ht.below hb) hs (by omega) (by omega)
      rwa [hD] at this
    have HSAME : Hid (∀ W', Calls Tryd.prog 19 #[.string ⟨D.toArray⟩, .string ⟨c.toArray⟩] W' fun e w' => e = .returned (.bool t) ∧ W' = w') := Lib.hid fun W' => by
      have := same_any D c W' (by rw [← hD, Otp.code_length]; decide) hc
      rwa [hT] at this
    have HA := Lib.hid hA
    have HB := Lib.hid hB
    have HD := Lib.hid hD
    have HT := Lib.hid hT
    have HP := Lib.hid hp
    have c0 := hA.c0
    have c1 := hA.c1
    clear hD hT hA hB hp hs0 hs1 hA0 hB0 hx1 hx2 ht
    have hd : 1 ≤ 3 - 1 - 1 := by omega
    gi_wp2
    gi_region_with_o (first
      | (refine ⟨trivial, ?_⟩; gi_at_call 9; refine (CallsIn.inRound l (callsIn_wide.2 (HCODE.out _ (by first | exact HB.out.drew | exact HB.out)))).mono ?_; rintro e w2 ⟨rfl, b2⟩; have HB2 : Hid (Below W.heap.size W w2) := Lib.hid (bthen ((Below.refl _ W).drew) b2); clear b2; have HA2 := Lib.hid (HA.out.below HB2.out); have c1' := HA2.out.c1; have c2' := HA2.out.c2; have c3' := HA2.out.c3; have f2' := HA2.out.f2; have f3' := HA2.out.f3)
      | (refine ⟨trivial, ?_⟩; gi_at_call 19; refine (CallsIn.inRound l (callsIn_wide.2 (HSAME.out _))).mono ?_; rintro e w3 ⟨rfl, rfl⟩))
    all_goals cases t
    all_goals gi_wp2
    all_goals first
      | exact ⟨((keepsOthers_below HB2.out).trans (KeepsOthers.setCell _ _ _)).trans (KeepsOthers.setCell _ _ _), ⟨rfl, _, _, rfl, HP.out, HD.out.trans (of_decide_eq_true HT.out), HA2.out.set _ _⟩, ((HB.out.trans (HB2.out.mono HB.out.size)).setCell (p := ⟨w.heap.size + 1 + 1, 0, none⟩) (by simp; omega) _).setCell (p := ⟨w.heap.size + 1 + 1 + 1, 0, none⟩) (by simp; omega) _⟩
      | exact ⟨keepsOthers_below HB2.out, HB2.out.mono HA.out.sz, ⟨fun y hy => by rcases List.mem_append.1 hy with hy | hy; exact HP.out y hy; simp at hy; subst hy; rw [HD.out]; exact of_decide_eq_false HT.out, HA2.out⟩, HB.out.trans (HB2.out.mono HB.out.size)⟩
  case done =>
    rintro D xs W hD hx ⟨⟨hp, hA⟩, hB⟩ hK
    have c2 := hA.c2
    have c3 := hA.c3
    have f2 := hA.f2
    have f3 := hA.f3
    have HA := Lib.hid hA
    have HB := Lib.hid hB
    have HF := Lib.hid (find_miss hx hp)
    clear hA hB hp hx hs0 hs1 hA0 hB0 ht
    gi_wp2
    have HA3 := Lib.hid (HA.out.set 0 false)
    have hK' := ((KeepsOthers.setCell W ⟨w.heap.size + 1 + 1, 0, none⟩ (.int .i64 0)).trans (KeepsOthers.setCell _ ⟨w.heap.size + 1 + 1 + 1, 0, none⟩ (.bool false))).same D _ hK rfl
    refine ⟨by simp, .inl ⟨_, _, rfl, run_takeDeferred hK', ?_⟩⟩
    have g2 := cell_kept HA3.out.c2 (grownBy_putObj' _ D (.deferred none)) (fun r e => by cases e; exact ⟨_, hK', rfl⟩)
    have g3 := cell_kept HA3.out.c3 (grownBy_putObj' _ D (.deferred none)) (fun r e => by cases e; exact ⟨_, hK', rfl⟩)
    refine ⟨.tuple #[.int .i64 0, .bool false], ?_, by rw [HF.out]; rfl, ((HB.out.setCell (p := ⟨w.heap.size + 1 + 1, 0, none⟩) (by simp; omega) _).setCell (p := ⟨w.heap.size + 1 + 1 + 1, 0, none⟩) (by simp; omega) _).trans (belowK_b (w := w) (Nat.le_refl _) _ D _ _ (by omega) hK' rfl rfl)⟩
    simp [results, Tryd.f11, go_sem, g2, g3]
  case stop =>
    rintro D q pre W hD ⟨hg, k, hk, hpk⟩ ⟨⟨rfl, p, y, rfl, hp, hy, hA⟩, hB⟩ hK
    have HF := Lib.hid (find_hit hg hk hpk hp hy)
    have HA := Lib.hid hA
    have HB := Lib.hid hB
    clear hg hk hpk hp hy hA hB hs0 hs1 hA0 hB0 ht
    gi_wp2
    refine ⟨by simp, .inl ⟨_, _, rfl, run_takeDeferred hK, ?_⟩⟩
    have g2 := cell_kept HA.out.c2 (grownBy_putObj' _ D (.deferred none)) (fun r e => by cases e; exact ⟨_, hK, rfl⟩)
    have g3 := cell_kept HA.out.c3 (grownBy_putObj' _ D (.deferred none)) (fun r e => by cases e; exact ⟨_, hK, rfl⟩)
    refine ⟨.tuple #[.int .i64 y.1, .bool true], ?_, by rw [HF.out]; rfl, HB.out.trans (belowK_b (w := w) (Nat.le_refl _) _ D _ _ (by omega) hK rfl rfl)⟩
    simp [results, Tryd.f11, go_sem, g2, g3]
end Go.Proofs.YtommbdlkmkphpaaDoor
