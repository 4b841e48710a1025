/- The log in memory; walks of must and lays. -/
import Derived.Test.YtpjpknndfhablaaWalB
import Derived.Test.YtpjpknndfhablaaDiskC
import Derived.Defers
import Derived.Recover
namespace Go.Proofs.Ytpjpknndfhablaa
open Go.RowKit
def logBlock (c : Nat) (l : Wal.LS) : Obj :=
  .cells #[.pointer (some ⟨c, 0, none⟩), .int .i64 (DS.fi l.f), .int .u64 l.g, .int .i64 l.n, .bool l.dead] 113 (0, 0)
/-- A log lies in block x, over the disk in block c. -/
def LogAt (w : World) (x c : Nat) (l : Wal.LS) : Prop := w.heap[x]? = some (logBlock c l)
theorem LogAt.cells {w : World} {x c : Nat} {l : Wal.LS} (h : LogAt w x c l) : w.cell? ⟨x, 0, none⟩ = some (.pointer (some ⟨c, 0, none⟩)) ∧ w.cell? ⟨x, 1, none⟩ = some (.int .i64 (DS.fi l.f)) ∧ w.cell? ⟨x, 2, none⟩ = some (.int .u64 l.g) ∧ w.cell? ⟨x, 3, none⟩ = some (.int .i64 l.n) ∧ w.cell? ⟨x, 4, none⟩ = some (.bool l.dead) ∧ (∀ i, w.frozen? ⟨x, i, none⟩ = false) ∧ x < w.heap.size :=
  ⟨cell_of h rfl, cell_of h rfl, cell_of h rfl, cell_of h rfl, cell_of h rfl, free_of h, heap_lt h⟩
theorem LogAt.touch {S : Nat → Prop} {w w' : World} {x c : Nat} {l : Wal.LS} (h : LogAt w x c l) (ht : Touch S w w') (hS : ¬ S x) : LogAt w' x c l := (ht.block x (heap_lt h) hS).trans h
theorem LogAt.below {w w' : World} {x c : Nat} {l : Wal.LS} (h : LogAt w x c l) (hb : Below w.heap.size w w') : LogAt w' x c l := stays h hb
/-- A log's block is no disk's. -/
theorem LogAt.apart {w : World} {x c : Nat} {l : Wal.LS} (h : LogAt w x c l) {c' : Nat} {d : DS} {m : Nat} {rb : Option Nat} (hd : DiskAt w c' d m rb) : ¬ own2 c' rb x := by
  obtain ⟨_, rs, r, hr, _, hrb⟩ := hd
  rintro (rfl | ho)
  · have := hr.blk; rw [h] at this; simp [diskBlock, logBlock] at this
  · rw [← hrb] at ho
    rcases hr.own.2 with ⟨hv, _⟩ | ⟨g, cap, cur, hv, _, hg, _⟩
    · rw [hv] at ho; cases ho
    · rw [hv] at ho
      have e1 : g = x := Option.some.inj ho
      subst e1
      rw [h] at hg; simp [logBlock] at hg
def goneV : Value := .iface 133 (.agg #[])
/-- How a piece of work ends: well, or it is thrown that the power went. -/
def Ends (r : Int) (e : Ending) : Prop := (r = 0 ∧ e = .returned (.tuple #[])) ∨ (r ≠ 0 ∧ e = .panicked [{ v := goneV, recovered := false }])
set_option maxHeartbeats 1000000 in
theorem must_ok (v : Value) (w : World) : Calls Try.prog 78 #[v, .int .i64 0] w fun e w' => e = .returned (.tuple #[]) ∧ w = w' := by
  go_enter Try.func78, Try.ntmps78
  go_wp2
  go_end0
  exact ⟨rfl, rfl⟩
set_option maxHeartbeats 1000000 in
theorem must_bad (v : Value) (n : Int) (hn : n ≠ 0) (w : World) : Calls Try.prog 78 #[v, .int .i64 n] w fun e w' => e = .panicked [{ v := goneV, recovered := false }] ∧ w = w' := by
  go_enter Try.func78, Try.ntmps78
  go_wp2
  exact ⟨rfl, rfl, rfl⟩
/-- What a call on a disk leaves. -/
structure Left1 (w w' : World) (c : Nat) (d d' : DS) (m : Nat) (rb : Option Nat) : Prop where
  ex : ∃ rb', DiskAt w' c d' m rb' ∧ Newer w rb rb' ∧ (d'.dead = true → d.dead = false → rb' = none)
  touch : Touch (own2 c rb) w w'
theorem append_cases (d : DS) (f : Bool) (s : List UInt8) (n : Int) (h : (d.append (DS.fi f) s).2 = n) (hn : n ≠ 0) : n = 2 ∨ n = 91 := by
  subst h
  unfold DS.append at hn ⊢
  rw [DS.fileNo_of] at hn ⊢
  split at hn
  · rename_i h1; rw [if_pos h1]; exact .inl rfl
  · rename_i h1
    rw [if_neg h1]
    simp only at hn ⊢
    split at hn
    · rename_i h2; rw [if_pos h2]; exact .inr rfl
    · rename_i h2
      rw [if_neg h2]
      split at hn
      · rename_i h3; rw [if_pos h3]; exact .inl rfl
      · exact absurd rfl hn
theorem own2_trans {w w1 w2 : World} {c : Nat} {rb rb1 : Option Nat} (h : Touch (own2 c rb) w w1) (hn : Newer w rb rb1) (h' : Touch (own2 c rb1) w1 w2) : Touch (own2 c rb) w w2 :=
  h.trans h' fun k hk ho => by
    rcases ho with rfl | ho
    · exact .inl rfl
    · rcases hn k ho with h1 | h1
      · exact .inr h1
      · omega
set_option maxHeartbeats 4000000 in
set_option maxRecDepth 100000 in
theorem lays_any (x c : Nat) (w : World) (l : Wal.LS) (d : DS) (m : Nat) (rb : Option Nat) (f : Bool) (g : Nat) (snap : List UInt8) (hl : LogAt w x c l) (h : DiskAt w c d m rb) (hm : m < 5000000000000) (hg : g < 18446744073709551616) (hs : snap.length ≤ 524288) :
    Calls Try.prog 81 #[.pointer (some ⟨x, 0, none⟩), .int .i64 (DS.fi f), .int .u64 g, .string ⟨snap.toArray⟩] w fun e w' => Ends (Wal.lays d f g snap).2 e ∧
      ∃ rb', DiskAt w' c (Wal.lays d f g snap).1 (m + 1) rb' ∧ Newer w rb rb' ∧ Touch (own2 c rb) w w' ∧ ((Wal.lays d f g snap).1.dead = true → d.dead = false → rb' = none) := by
  obtain ⟨A, hA⟩ : ∃ A, Sha.big g 8 = A := ⟨_, rfl⟩
  have hAl : A.length = 8 := by rw [← hA]; exact Sha.big_length _ _
  obtain ⟨B, hB⟩ : ∃ B, Wal.frame snap = B := ⟨_, rfl⟩
  have hBl : B.length = 8 + snap.length := by rw [← hB]; exact Wal.frame_length _
  have hH : Wal.head g snap = 83 :: 78 :: 76 :: 49 :: (A ++ B) := by unfold Wal.head; rw [hA, hB]; rfl
  obtain ⟨H, hHH⟩ : ∃ H, Wal.head g snap = H := ⟨_, rfl⟩
  have hHl : H.length ≤ 524308 := by rw [← hHH, Wal.head_length]; omega
  obtain ⟨n, hn⟩ : ∃ n, (d.append (DS.fi f) H).2 = n := ⟨_, rfl⟩
  obtain ⟨c0, _⟩ := hl.cells
  have HA := Lib.hid hA
  have HB := Lib.hid hB
  have HL := Lib.hid hl
  have HD := Lib.hid h
  have HN := Lib.hid hn
  have HAP := Lib.hid (hl.apart h)
  have HHH : Hid (83 :: 78 :: 76 :: 49 :: (A ++ B) = H) := Lib.hid (hH.symm.trans hHH)
  have hap1 := bytes_append [83, 78, 76, 49] A
  have hap2 := bytes_append (83 :: 78 :: 76 :: 49 :: A) B
  clear hA hB hH h hn hl
  go_enter Try.func81, Try.ntmps81
  go_wp2
  have hS0 : w.drew.cell? ⟨x, 0, none⟩ = some (.pointer (some ⟨c, 0, none⟩)) := c0
  refine wp_region_heldL (S := fun w' => w'.cell? ⟨x, 0, none⟩ = some (.pointer (some ⟨c, 0, none⟩))) (by kernel_rfl) ?_
  refine wpAnyH_takeL (i := 0) (v := ?_) rfl (by kernel_rfl) (by kernel_rfl) (by kernel_rfl) (fun _ _ _ h => h) ?_ (by assumption) ?_; rotate_left; focus (first | (refine Or.inr ⟨by rfl, ?_⟩; with_reducible rfl) | (refine Or.inl ⟨by rfl, ?_⟩; (intro w hSw; (try dsimp only at hSw); go_simp); try with_reducible rfl))
  try simp only [Act.put, List.setIfInBounds_toArray, List.set_cons_zero, List.set_cons_succ]
  refine wpAnyH_takeL (i := 1) (v := ?_) rfl (by kernel_rfl) (by kernel_rfl) (by kernel_rfl) (fun _ _ _ h => h) ?_ (by assumption) ?_; rotate_left; focus (first | (refine Or.inr ⟨by rfl, ?_⟩; with_reducible rfl) | (refine Or.inl ⟨by rfl, ?_⟩; (intro w hSw; (try dsimp only at hSw); go_simp); try with_reducible rfl))
  try simp only [Act.put, List.setIfInBounds_toArray, List.set_cons_zero, List.set_cons_succ]
  refine wpAnyH_takeL (i := 2) (v := ?_) rfl (by kernel_rfl) (by kernel_rfl) (by kernel_rfl) (fun _ _ _ h => h) ?_ (by assumption) ?_; rotate_left; focus (first | (refine Or.inr ⟨by rfl, ?_⟩; with_reducible rfl) | (refine Or.inl ⟨by rfl, ?_⟩; (intro w hSw; (try dsimp only at hSw); go_simp); try with_reducible rfl))
  try simp only [Act.put, List.setIfInBounds_toArray, List.set_cons_zero, List.set_cons_succ]
  refine wpAnyH_takeL (i := 3) (v := ?_) rfl (by kernel_rfl) (by kernel_rfl) (by kernel_rfl) (fun _ _ _ h => h) ?_ (by assumption) ?_; rotate_left; focus (first | (refine Or.inr ⟨by rfl, ?_⟩; with_reducible rfl) | (refine Or.inl ⟨by rfl, ?_⟩; (intro w hSw; (try dsimp only at hSw); go_simp); try with_reducible rfl))
  try simp only [Act.put, List.setIfInBounds_toArray, List.set_cons_zero, List.set_cons_succ]
  refine wpAnyH_takeL (i := 4) (v := ?_) rfl (by kernel_rfl) (by kernel_rfl) (by kernel_rfl) (fun _ _ _ h => h) ?_ (by assumption) ?_; rotate_left; focus (first | (refine Or.inr ⟨by rfl, ?_⟩; with_reducible rfl) | (refine Or.inl ⟨by rfl, ?_⟩; (intro w hSw; (try dsimp only at hSw); go_simp); try with_reducible rfl))
  try simp only [Act.put, List.setIfInBounds_toArray, List.set_cons_zero, List.set_cons_succ]
  refine wpAnyH_takeL (i := 5) (v := ?_) rfl (by kernel_rfl) (by kernel_rfl) (by kernel_rfl) (fun _ _ _ h => h) ?_ (by assumption) ?_; rotate_left; focus (first | (refine Or.inr ⟨by rfl, ?_⟩; with_reducible rfl) | (refine Or.inl ⟨by rfl, ?_⟩; (intro w hSw; (try dsimp only at hSw); go_simp); try with_reducible rfl))
  try simp only [Act.put, List.setIfInBounds_toArray, List.set_cons_zero, List.set_cons_succ]
  refine wpAnyH_takeL (i := 6) (v := ?_) rfl (by kernel_rfl) (by kernel_rfl) (by kernel_rfl) (fun _ _ _ h => h) ?_ (by assumption) ?_; rotate_left; focus (first | (refine Or.inr ⟨by rfl, ?_⟩; with_reducible rfl) | (refine Or.inl ⟨by rfl, ?_⟩; (intro w hSw; (try dsimp only at hSw); go_simp); try with_reducible rfl))
  try simp only [Act.put, List.setIfInBounds_toArray, List.set_cons_zero, List.set_cons_succ]
  refine wpAnyH_takeL (i := 9) (v := ?_) rfl (by kernel_rfl) (by kernel_rfl) (by kernel_rfl) (fun _ _ _ h => h) ?_ (by assumption) ?_; rotate_left; focus (first | (refine Or.inr ⟨by rfl, ?_⟩; with_reducible rfl) | (refine Or.inl ⟨by rfl, ?_⟩; (intro w hSw; (try dsimp only at hSw); go_simp); try with_reducible rfl))
  try simp only [Act.put, List.setIfInBounds_toArray, List.set_cons_zero, List.set_cons_succ]
  refine wpAnyH_oneL (i := 7) rfl (by kernel_rfl) ?_
  intro K hK
  rw [if_pos (by rfl)]
  go_simp
  go_at_call 100
  refine (put_any g 8 _ (by decide) hg).mono ?_
  rw [HA.out]
  rintro e w1 ⟨rfl, b1⟩
  have B1 := Lib.hid b1
  have hS1 := cell_later b1 hS0
  clear b1
  refine hK _ _ hS1 ?_
  clear hK K
  try simp only [Act.put, List.setIfInBounds_toArray, List.set_cons_zero, List.set_cons_succ]
  refine wpAnyH_takeL (i := 8) (v := ?_) rfl (by kernel_rfl) (by kernel_rfl) (by kernel_rfl) (fun _ _ _ h => h) ?_ (by assumption) ?_; rotate_left; focus (first | (refine Or.inr ⟨by rfl, ?_⟩; with_reducible rfl) | (refine Or.inl ⟨by rfl, ?_⟩; (intro w hSw; (try dsimp only at hSw); go_simp); try with_reducible rfl))
  try simp only [Act.put, List.setIfInBounds_toArray, List.set_cons_zero, List.set_cons_succ]
  refine wpAnyH_oneL (i := 10) rfl (by kernel_rfl) ?_
  intro K hK
  rw [if_pos (by rfl)]
  go_simp
  go_at_call 79
  refine (framed_any snap _ (by omega)).mono ?_
  rw [HB.out]
  rintro e w2 ⟨rfl, b2⟩
  have B2 := Lib.hid (bthen B1.out b2)
  have hS2 := cell_later b2 hS1
  clear b2
  refine hK _ _ hS2 ?_
  clear hK K
  try simp only [Act.put, List.setIfInBounds_toArray, List.set_cons_zero, List.set_cons_succ]
  have hlen : ¬ (9223372036854775807 < 12 + (8 + snap.length)) := by omega
  refine wpAnyH_takeL (i := 11) (v := ?_) rfl (by kernel_rfl) (by kernel_rfl) (by kernel_rfl) (fun _ _ _ h => h) ?_ (by assumption) ?_; rotate_left; focus (first | (refine Or.inr ⟨by rfl, ?_⟩; with_reducible rfl) | (refine Or.inl ⟨by rfl, ?_⟩; (intro w hSw; (try dsimp only at hSw); go_simp); try with_reducible rfl))
  try simp only [Act.put, List.setIfInBounds_toArray, List.set_cons_zero, List.set_cons_succ]
  refine wpAnyH_oneL (i := 12) rfl (by kernel_rfl) ?_
  intro K hK
  rw [if_pos (by rfl)]
  go_simp
  go_at_call 31
  try rw [HHH.out]
  refine (append_anyN c _ d m rb (DS.fi f) H (HD.out.below (bthen ((Below.refl _ _).drew) B2.out)) (by omega) hm).mono ?_
  rw [HN.out]
  rintro e w3 ⟨rfl, rb', hd3, hn3, ht3, hf3⟩
  have hS3 := (World.cell?_of_block (a := ⟨x, 0, none⟩) (ht3.block x (World.block_lt_of_cell? _ _ hS2) HAP.out)).trans hS2
  have HD3 := Lib.hid hd3
  have HN3 : Hid (Newer w rb rb') := Lib.hid (fun k hk => (hn3 k hk).imp id (fun h => Nat.le_trans B2.out.size h))
  have HT3 : Hid (Touch (own2 c rb) w w3) := Lib.hid (Touch.trans (Touch.of_below (bthen ((Below.refl _ _).drew) B2.out)) ht3 (fun _ _ h => h))
  have HF3 := Lib.hid hf3
  clear hd3 hn3 ht3 hf3
  refine hK _ _ hS3 ?_
  clear hK K
  try simp only [Act.put, List.setIfInBounds_toArray, List.set_cons_zero, List.set_cons_succ]
  refine wpAnyH_oneL (i := 13) rfl (by kernel_rfl) ?_
  intro K hK
  rw [if_pos (by rfl)]
  go_simp
  go_at_call 78
  by_cases hn0 : n = 0
  · subst hn0
    refine (must_ok _ _).mono ?_
    rintro e w4 ⟨rfl, rfl⟩
    refine hK _ _ hS3 ?_
    clear hK K
    try simp only [Act.put, List.setIfInBounds_toArray, List.set_cons_zero, List.set_cons_succ]
    refine wpAnyH_done (by kernel_rfl) ?_ _
    obtain ⟨E, hE⟩ : ∃ E, (d.append (DS.fi f) H).1 = E := ⟨_, rfl⟩
    rw [hE] at HD3 HF3
    obtain ⟨q, hq⟩ : ∃ q, E.sync.2 = q := ⟨_, rfl⟩
    have HW : Hid (Wal.lays d f g snap = E.sync) := Lib.hid (by unfold Wal.lays; rw [hHH, if_neg (by rw [HN.out]; decide), hE])
    have HQ := Lib.hid hq
    have HE : Hid (d.dead = false → E.dead = false) := Lib.hid (fun h0 => by
      have h1 := HN.out
      rw [← hE]
      unfold DS.append at h1 ⊢
      rw [if_neg (by simp [h0]), DS.fileNo_of] at h1 ⊢
      simp only at h1 ⊢
      split
      · exact h0
      · rename_i h2
        rw [if_neg h2] at h1
        split
        · rename_i h3; rw [if_pos h3] at h1; cases h1
        · exact h0)
    clear hHH hq hE hap1 hap2 hlen
    go_wp2_with fail
    refine (sync_anyN c _ E (m + 1) rb' HD3.out).mono ?_
    rw [HQ.out]
    rintro e w4 ⟨rfl, rb2, hd4, hn4, ht4, hf4⟩
    have HP : Hid (∃ rb', DiskAt w4 c E.sync.1 (m + 1) rb' ∧ Newer w rb rb' ∧ Touch (own2 c rb) w w4 ∧ (E.sync.1.dead = true → d.dead = false → rb' = none)) :=
      Lib.hid ⟨rb2, hd4, HN3.out.trans hn4 HT3.out.size, own2_trans HT3.out HN3.out ht4, fun _ h0 => hf4 (HE.out h0)⟩
    clear hd4 hn4 ht4 hf4 HD3 HF3
    go_wp2_with fail
    by_cases hq0 : q = 0
    · subst hq0
      refine (must_ok _ _).mono ?_
      rintro e w5 ⟨rfl, rfl⟩
      go_wp2
      go_end0
      rw [HW.out, HQ.out]
      exact ⟨.inl ⟨rfl, rfl⟩, HP.out⟩
    · refine (must_bad _ q hq0 _).mono ?_
      rintro e w5 ⟨rfl, rfl⟩
      refine ⟨rfl, ?_⟩
      rw [HW.out, HQ.out]
      exact ⟨.inr ⟨hq0, rfl⟩, HP.out⟩
  · have HW : Hid (Wal.lays d f g snap = d.append (DS.fi f) H) := Lib.hid (by unfold Wal.lays; rw [hHH, if_pos (by rw [HN.out]; exact hn0)])
    refine (must_bad _ n hn0 _).mono ?_
    rintro e w4 ⟨rfl, rfl⟩
    refine ⟨rfl, ?_⟩
    rw [HW.out, HN.out]
    exact ⟨.inr ⟨hn0, rfl⟩, rb', HD3.out, HN3.out, HT3.out, HF3.out⟩
end Go.Proofs.Ytpjpknndfhablaa
