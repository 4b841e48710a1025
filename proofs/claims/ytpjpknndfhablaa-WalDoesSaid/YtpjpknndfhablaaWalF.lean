/- The closures of the log: New$1, Append$1, Sync$1, Checkpoint$1. -/
import Derived.Test.YtpjpknndfhablaaWalE
namespace Go.Proofs.Ytpjpknndfhablaa
open Go.RowKit
def own3 (c : Nat) (rb : Option Nat) (x : Nat) : Nat → Prop := fun k => own2 c rb k ∨ k = x
/-- What a piece of work on a log leaves. -/
structure Worked (x c : Nat) (l' : Wal.LS) (d d' : DS) (m : Nat) (rb : Option Nat) (w w' : World) : Prop where
  log : LogAt w' x c l'
  disk : ∃ rb', DiskAt w' c d' m rb' ∧ Newer w rb rb' ∧ (d'.dead = true → d.dead = false → rb' = none)
  touch : Touch (own3 c rb x) w w'
theorem own3_of {c : Nat} {rb : Option Nat} {x : Nat} {w w' : World} (h : Touch (own2 c rb) w w') : Touch (own3 c rb x) w w' := h.mono fun _ _ h => .inl h
theorem Worked.drew {x c : Nat} {l' : Wal.LS} {d d' : DS} {m : Nat} {rb : Option Nat} {w w' : World} (h : Worked x c l' d d' m rb w w') : Worked x c l' d d' m rb w w'.drew :=
  ⟨h.log, by obtain ⟨rb', h1, h2⟩ := h.disk; exact ⟨rb', h1.below ((Below.refl _ _).drew), h2⟩, h.touch.drew⟩
theorem DiskAt.setLog {w : World} {c : Nat} {d : DS} {m : Nat} {rb : Option Nat} (h : DiskAt w c d m rb) {x : Nat} {l : Wal.LS} (hl : LogAt w x c l) (i : Nat) (v : Value) : DiskAt (w.setCell ⟨x, i, none⟩ v) c d m rb :=
  h.touch ((Touch.refl (· = x) w).setCell _ (fun _ => rfl)) (fun _ hk e => hl.apart h (e ▸ hk))
theorem LogAt.setN {w : World} {x c : Nat} {l : Wal.LS} (h : LogAt w x c l) (n : Nat) : LogAt (w.setCell ⟨x, 3, none⟩ (.int .i64 n)) x c { l with n := n } := by
  have := heap_set (i := 3) (.int .i64 n) h
  simpa [LogAt, logBlock] using this
theorem LogAt.setDead {w : World} {x c : Nat} {l : Wal.LS} (h : LogAt w x c l) : LogAt (w.setCell ⟨x, 4, none⟩ (.bool true)) x c { l with dead := true } := by
  have := heap_set (i := 4) (.bool true) h
  simpa [LogAt, logBlock] using this
theorem LogAt.setAll {w : World} {x c : Nat} {l : Wal.LS} (h : LogAt w x c l) (f : Bool) (g n : Nat) : LogAt (((w.setCell ⟨x, 1, none⟩ (.int .i64 (DS.fi f))).setCell ⟨x, 2, none⟩ (.int .u64 g)).setCell ⟨x, 3, none⟩ (.int .i64 n)) x c { l with f := f, g := g, n := n } := by
  have := heap_set (i := 3) (.int .i64 n) (heap_set (i := 2) (.int .u64 g) (heap_set (i := 1) (.int .i64 (DS.fi f)) h))
  simpa [LogAt, logBlock] using this
theorem cell_touch {S : Nat → Prop} {w w' : World} {b i : Nat} {v : Value} (h : w.cell? ⟨b, i, none⟩ = some v) (ht : Touch S w w') (hS : ¬ S b) : w'.cell? ⟨b, i, none⟩ = some v :=
  (World.cell?_of_block (a := ⟨b, i, none⟩) (ht.block b (World.block_lt_of_cell? _ _ h) hS)).trans h
set_option maxHeartbeats 4000000 in
set_option maxRecDepth 100000 in
theorem new1_any (x c bl : Nat) (w : World) (l : Wal.LS) (d : DS) (m : Nat) (rb : Option Nat) (hl : LogAt w x c l) (h : DiskAt w c d m rb) (hm : m < 5000000000000) (hb : w.cell? ⟨bl, 0, none⟩ = some (.pointer (some ⟨x, 0, none⟩))) :
    Calls Try.prog 82 #[.pointer (some ⟨bl, 0, none⟩)] w fun e w' => Ends (Wal.lays d false 1 []).2 e ∧ Worked x c l d (Wal.lays d false 1 []).1 (m + 1) rb w w' := by
  have HL := Lib.hid hl
  have HD := Lib.hid h
  have HAP := Lib.hid (hl.apart h)
  clear hl h
  go_enter Try.func82, Try.ntmps82
  go_wp2_with fail
  refine (lays_any x c w l d m rb false 1 [] HL.out HD.out hm (by decide) (by decide)).mono ?_
  rintro e w1 ⟨he, rb', hd1, hn1, ht1, hf1⟩
  have HW : Hid (Worked x c l d (Wal.lays d false 1 []).1 (m + 1) rb w w1) := Lib.hid ⟨HL.out.touch ht1 HAP.out, ⟨rb', hd1, hn1, hf1⟩, own3_of ht1⟩
  clear hd1 hn1 ht1 hf1
  rcases he with ⟨h0, rfl⟩ | ⟨h0, rfl⟩
  · have H0 := Lib.hid h0
    clear h0
    go_wp2
    go_end0
    exact ⟨.inl ⟨H0.out, rfl⟩, HW.out⟩
  · exact ⟨rfl, .inr ⟨h0, rfl⟩, HW.out⟩
set_option maxHeartbeats 4000000 in
set_option maxRecDepth 100000 in
theorem sync1_any (x c bl : Nat) (w : World) (l : Wal.LS) (d : DS) (m : Nat) (rb : Option Nat) (hl : LogAt w x c l) (h : DiskAt w c d m rb) (hb : w.cell? ⟨bl, 0, none⟩ = some (.pointer (some ⟨x, 0, none⟩))) (hbl : ¬ own2 c rb bl) :
    Calls Try.prog 98 #[.pointer (some ⟨bl, 0, none⟩)] w fun e w' => Ends d.sync.2 e ∧ Worked x c l d d.sync.1 m rb w w' := by
  obtain ⟨c0, _⟩ := hl.cells
  obtain ⟨n, hn⟩ : ∃ n, d.sync.2 = n := ⟨_, rfl⟩
  have HN := Lib.hid hn
  have HL := Lib.hid hl
  have HD := Lib.hid h
  have HAP := Lib.hid (hl.apart h)
  clear hl h hn
  go_enter Try.func98, Try.ntmps98
  go_wp2
  have hS0 : w.drew.cell? ⟨bl, 0, none⟩ = some (.pointer (some ⟨x, 0, none⟩)) ∧ w.drew.cell? ⟨x, 0, none⟩ = some (.pointer (some ⟨c, 0, none⟩)) := ⟨hb, c0⟩
  refine wp_region_heldL (S := fun w' => w'.cell? ⟨bl, 0, none⟩ = some (.pointer (some ⟨x, 0, none⟩)) ∧ w'.cell? ⟨x, 0, none⟩ = some (.pointer (some ⟨c, 0, none⟩))) (by kernel_rfl) ?_
  refine wpAnyH_takeL (i := 0) (v := ?_) rfl (by kernel_rfl) (by kernel_rfl) (by kernel_rfl) (fun _ _ _ h => h) ?_ (by assumption) ?_; rotate_left; focus (first | (refine Or.inr ⟨by rfl, ?_⟩; with_reducible rfl) | (refine Or.inl ⟨by rfl, ?_⟩; (intro w hSw; (try dsimp only at hSw); go_simp); try with_reducible rfl))
  try simp only [Act.put, List.setIfInBounds_toArray, List.set_cons_zero, List.set_cons_succ]
  refine wpAnyH_takeL (i := 1) (v := ?_) rfl (by kernel_rfl) (by kernel_rfl) (by kernel_rfl) (fun _ _ _ h => h) ?_ (by assumption) ?_; rotate_left; focus (first | (refine Or.inr ⟨by rfl, ?_⟩; with_reducible rfl) | (refine Or.inl ⟨by rfl, ?_⟩; (intro w hSw; (try dsimp only at hSw); go_simp); try with_reducible rfl))
  try simp only [Act.put, List.setIfInBounds_toArray, List.set_cons_zero, List.set_cons_succ]
  refine wpAnyH_takeL (i := 2) (v := ?_) rfl (by kernel_rfl) (by kernel_rfl) (by kernel_rfl) (fun _ _ _ h => h) ?_ (by assumption) ?_; rotate_left; focus (first | (refine Or.inr ⟨by rfl, ?_⟩; with_reducible rfl) | (refine Or.inl ⟨by rfl, ?_⟩; (intro w hSw; (try dsimp only at hSw); go_simp); try with_reducible rfl))
  try simp only [Act.put, List.setIfInBounds_toArray, List.set_cons_zero, List.set_cons_succ]
  refine wpAnyH_takeL (i := 3) (v := ?_) rfl (by kernel_rfl) (by kernel_rfl) (by kernel_rfl) (fun _ _ _ h => h) ?_ (by assumption) ?_; rotate_left; focus (first | (refine Or.inr ⟨by rfl, ?_⟩; with_reducible rfl) | (refine Or.inl ⟨by rfl, ?_⟩; (intro w hSw; (try dsimp only at hSw); go_simp); try with_reducible rfl))
  try simp only [Act.put, List.setIfInBounds_toArray, List.set_cons_zero, List.set_cons_succ]
  refine wpAnyH_takeL (i := 4) (v := ?_) rfl (by kernel_rfl) (by kernel_rfl) (by kernel_rfl) (fun _ _ _ h => h) ?_ (by assumption) ?_; rotate_left; focus (first | (refine Or.inr ⟨by rfl, ?_⟩; with_reducible rfl) | (refine Or.inl ⟨by rfl, ?_⟩; (intro w hSw; (try dsimp only at hSw); go_simp); try with_reducible rfl))
  try simp only [Act.put, List.setIfInBounds_toArray, List.set_cons_zero, List.set_cons_succ]
  refine wpAnyH_oneL (i := 5) rfl (by kernel_rfl) ?_
  intro K hK
  rw [if_pos (by rfl)]
  go_simp
  go_at_call 16
  refine (sync_anyN c _ d m rb (HD.out.below ((Below.refl _ _).drew))).mono ?_
  rw [HN.out]
  rintro e w3 ⟨rfl, rb', hd3, hn3, ht3, hf3⟩
  have hS3 : w3.cell? ⟨bl, 0, none⟩ = some (.pointer (some ⟨x, 0, none⟩)) ∧ w3.cell? ⟨x, 0, none⟩ = some (.pointer (some ⟨c, 0, none⟩)) := ⟨cell_touch hS0.1 ht3 hbl, cell_touch hS0.2 ht3 HAP.out⟩
  have HW : Hid (Worked x c l d d.sync.1 m rb w w3) := Lib.hid ⟨(HL.out.below ((Below.refl _ _).drew)).touch ht3 HAP.out, ⟨rb', hd3, hn3, fun _ h => hf3 h⟩, own3_of (Touch.trans (Touch.of_below ((Below.refl _ _).drew)) ht3 (fun _ _ h => h))⟩
  clear hd3 hn3 ht3 hf3
  refine hK _ _ hS3 ?_
  clear hK K
  try simp only [Act.put, List.setIfInBounds_toArray, List.set_cons_zero, List.set_cons_succ]
  refine wpAnyH_oneL (i := 6) rfl (by kernel_rfl) ?_
  intro K hK
  rw [if_pos (by rfl)]
  go_simp
  go_at_call 78
  by_cases hn0 : n = 0
  · subst hn0
    refine (must_ok _ _).mono ?_
    rintro e w4 ⟨rfl, rfl⟩
    refine hK _ _ hS3 ?_
    clear hK K
    try simp only [Act.put, List.setIfInBounds_toArray, List.set_cons_zero, List.set_cons_succ]
    refine wpAnyH_done (by kernel_rfl) ?_ _
    go_wp2
    go_end0
    exact ⟨.inl ⟨HN.out, rfl⟩, HW.out⟩
  · refine (must_bad _ n hn0 _).mono ?_
    rintro e w4 ⟨rfl, rfl⟩
    exact ⟨rfl, .inr ⟨by rw [HN.out]; exact hn0, rfl⟩, HW.out⟩
set_option maxHeartbeats 4000000 in
set_option maxRecDepth 100000 in
theorem wappend1_any (x c bl br : Nat) (w : World) (l : Wal.LS) (d : DS) (m : Nat) (rb : Option Nat) (s : List UInt8) (hl : LogAt w x c l) (h : DiskAt w c d m rb) (hm : m < 5000000000000) (hs : s.length ≤ 65536) (hln : l.n ≤ 4611686018427387904)
    (hb : w.cell? ⟨bl, 0, none⟩ = some (.pointer (some ⟨x, 0, none⟩))) (hbs : w.cell? ⟨br, 0, none⟩ = some (.string ⟨s.toArray⟩)) (hbl : ¬ own2 c rb bl) (hbr : ¬ own2 c rb br) (_hblx : bl ≠ x) :
    Calls Try.prog 77 #[.pointer (some ⟨bl, 0, none⟩), .pointer (some ⟨br, 0, none⟩)] w fun e w' => Ends (d.append (DS.fi l.f) (Wal.frame s)).2 e ∧
      Worked x c (if (d.append (DS.fi l.f) (Wal.frame s)).2 = 0 then { l with n := l.n + 1 } else l) d (d.append (DS.fi l.f) (Wal.frame s)).1 (m + 1) rb w w' := by
  obtain ⟨c0, c1, _⟩ := hl.cells
  obtain ⟨B, hB⟩ : ∃ B, Wal.frame s = B := ⟨_, rfl⟩
  have hBl : B.length = 8 + s.length := by rw [← hB]; exact Wal.frame_length _
  rw [hB]
  obtain ⟨n, hn⟩ : ∃ n, (d.append (DS.fi l.f) B).2 = n := ⟨_, rfl⟩
  have HN := Lib.hid hn
  have HB := Lib.hid hB
  have HL := Lib.hid hl
  have HD := Lib.hid h
  have HAP := Lib.hid (hl.apart h)
  clear hl h hn hB
  go_enter Try.func77, Try.ntmps77
  go_wp2
  have hS0 : w.drew.cell? ⟨bl, 0, none⟩ = some (.pointer (some ⟨x, 0, none⟩)) ∧ w.drew.cell? ⟨x, 0, none⟩ = some (.pointer (some ⟨c, 0, none⟩)) ∧ w.drew.cell? ⟨x, 1, none⟩ = some (.int .i64 (DS.fi l.f)) ∧ w.drew.cell? ⟨br, 0, none⟩ = some (.string ⟨s.toArray⟩) := ⟨hb, c0, c1, hbs⟩
  refine wp_region_heldL (S := fun w' => w'.cell? ⟨bl, 0, none⟩ = some (.pointer (some ⟨x, 0, none⟩)) ∧ w'.cell? ⟨x, 0, none⟩ = some (.pointer (some ⟨c, 0, none⟩)) ∧ w'.cell? ⟨x, 1, none⟩ = some (.int .i64 (DS.fi l.f)) ∧ w'.cell? ⟨br, 0, none⟩ = some (.string ⟨s.toArray⟩)) (by kernel_rfl) ?_
  refine wpAnyH_takeL (i := 0) (v := ?_) rfl (by kernel_rfl) (by kernel_rfl) (by kernel_rfl) (fun _ _ _ h => h) ?_ (by assumption) ?_; rotate_left; focus (first | (refine Or.inr ⟨by rfl, ?_⟩; with_reducible rfl) | (refine Or.inl ⟨by rfl, ?_⟩; (intro w hSw; (try dsimp only at hSw); go_simp); try with_reducible rfl))
  try simp only [Act.put, List.setIfInBounds_toArray, List.set_cons_zero, List.set_cons_succ]
  refine wpAnyH_takeL (i := 1) (v := ?_) rfl (by kernel_rfl) (by kernel_rfl) (by kernel_rfl) (fun _ _ _ h => h) ?_ (by assumption) ?_; rotate_left; focus (first | (refine Or.inr ⟨by rfl, ?_⟩; with_reducible rfl) | (refine Or.inl ⟨by rfl, ?_⟩; (intro w hSw; (try dsimp only at hSw); go_simp); try with_reducible rfl))
  try simp only [Act.put, List.setIfInBounds_toArray, List.set_cons_zero, List.set_cons_succ]
  refine wpAnyH_takeL (i := 2) (v := ?_) rfl (by kernel_rfl) (by kernel_rfl) (by kernel_rfl) (fun _ _ _ h => h) ?_ (by assumption) ?_; rotate_left; focus (first | (refine Or.inr ⟨by rfl, ?_⟩; with_reducible rfl) | (refine Or.inl ⟨by rfl, ?_⟩; (intro w hSw; (try dsimp only at hSw); go_simp); try with_reducible rfl))
  try simp only [Act.put, List.setIfInBounds_toArray, List.set_cons_zero, List.set_cons_succ]
  refine wpAnyH_takeL (i := 3) (v := ?_) rfl (by kernel_rfl) (by kernel_rfl) (by kernel_rfl) (fun _ _ _ h => h) ?_ (by assumption) ?_; rotate_left; focus (first | (refine Or.inr ⟨by rfl, ?_⟩; with_reducible rfl) | (refine Or.inl ⟨by rfl, ?_⟩; (intro w hSw; (try dsimp only at hSw); go_simp); try with_reducible rfl))
  try simp only [Act.put, List.setIfInBounds_toArray, List.set_cons_zero, List.set_cons_succ]
  refine wpAnyH_takeL (i := 4) (v := ?_) rfl (by kernel_rfl) (by kernel_rfl) (by kernel_rfl) (fun _ _ _ h => h) ?_ (by assumption) ?_; rotate_left; focus (first | (refine Or.inr ⟨by rfl, ?_⟩; with_reducible rfl) | (refine Or.inl ⟨by rfl, ?_⟩; (intro w hSw; (try dsimp only at hSw); go_simp); try with_reducible rfl))
  try simp only [Act.put, List.setIfInBounds_toArray, List.set_cons_zero, List.set_cons_succ]
  refine wpAnyH_takeL (i := 5) (v := ?_) rfl (by kernel_rfl) (by kernel_rfl) (by kernel_rfl) (fun _ _ _ h => h) ?_ (by assumption) ?_; rotate_left; focus (first | (refine Or.inr ⟨by rfl, ?_⟩; with_reducible rfl) | (refine Or.inl ⟨by rfl, ?_⟩; (intro w hSw; (try dsimp only at hSw); go_simp); try with_reducible rfl))
  try simp only [Act.put, List.setIfInBounds_toArray, List.set_cons_zero, List.set_cons_succ]
  refine wpAnyH_takeL (i := 6) (v := ?_) rfl (by kernel_rfl) (by kernel_rfl) (by kernel_rfl) (fun _ _ _ h => h) ?_ (by assumption) ?_; rotate_left; focus (first | (refine Or.inr ⟨by rfl, ?_⟩; with_reducible rfl) | (refine Or.inl ⟨by rfl, ?_⟩; (intro w hSw; (try dsimp only at hSw); go_simp); try with_reducible rfl))
  try simp only [Act.put, List.setIfInBounds_toArray, List.set_cons_zero, List.set_cons_succ]
  refine wpAnyH_takeL (i := 7) (v := ?_) rfl (by kernel_rfl) (by kernel_rfl) (by kernel_rfl) (fun _ _ _ h => h) ?_ (by assumption) ?_; rotate_left; focus (first | (refine Or.inr ⟨by rfl, ?_⟩; with_reducible rfl) | (refine Or.inl ⟨by rfl, ?_⟩; (intro w hSw; (try dsimp only at hSw); go_simp); try with_reducible rfl))
  try simp only [Act.put, List.setIfInBounds_toArray, List.set_cons_zero, List.set_cons_succ]
  refine wpAnyH_takeL (i := 8) (v := ?_) rfl (by kernel_rfl) (by kernel_rfl) (by kernel_rfl) (fun _ _ _ h => h) ?_ (by assumption) ?_; rotate_left; focus (first | (refine Or.inr ⟨by rfl, ?_⟩; with_reducible rfl) | (refine Or.inl ⟨by rfl, ?_⟩; (intro w hSw; (try dsimp only at hSw); go_simp); try with_reducible rfl))
  try simp only [Act.put, List.setIfInBounds_toArray, List.set_cons_zero, List.set_cons_succ]
  refine wpAnyH_takeL (i := 9) (v := ?_) rfl (by kernel_rfl) (by kernel_rfl) (by kernel_rfl) (fun _ _ _ h => h) ?_ (by assumption) ?_; rotate_left; focus (first | (refine Or.inr ⟨by rfl, ?_⟩; with_reducible rfl) | (refine Or.inl ⟨by rfl, ?_⟩; (intro w hSw; (try dsimp only at hSw); go_simp); try with_reducible rfl))
  try simp only [Act.put, List.setIfInBounds_toArray, List.set_cons_zero, List.set_cons_succ]
  refine wpAnyH_oneL (i := 10) rfl (by kernel_rfl) ?_
  intro K hK
  rw [if_pos (by rfl)]
  go_simp
  go_at_call 79
  refine (framed_any s _ (by omega)).mono ?_
  rw [HB.out]
  rintro e w2 ⟨rfl, b2⟩
  have B2 := Lib.hid b2
  have hS2 : w2.cell? ⟨bl, 0, none⟩ = some (.pointer (some ⟨x, 0, none⟩)) ∧ w2.cell? ⟨x, 0, none⟩ = some (.pointer (some ⟨c, 0, none⟩)) ∧ w2.cell? ⟨x, 1, none⟩ = some (.int .i64 (DS.fi l.f)) ∧ w2.cell? ⟨br, 0, none⟩ = some (.string ⟨s.toArray⟩) := ⟨cell_later b2 hS0.1, cell_later b2 hS0.2.1, cell_later b2 hS0.2.2.1, cell_later b2 hS0.2.2.2⟩
  clear b2
  refine hK _ _ hS2 ?_
  clear hK K
  try simp only [Act.put, List.setIfInBounds_toArray, List.set_cons_zero, List.set_cons_succ]
  refine wpAnyH_oneL (i := 11) rfl (by kernel_rfl) ?_
  intro K hK
  rw [if_pos (by rfl)]
  go_simp
  go_at_call 31
  have B3 := Lib.hid (bthen ((Below.refl _ w).drew) B2.out)
  refine (append_anyN c _ d m rb (DS.fi l.f) B (HD.out.below B3.out) (by omega) hm).mono ?_
  rw [HN.out]
  rintro e w3 ⟨rfl, rb', hd3, hn3, ht3, hf3⟩
  have hS3 : w3.cell? ⟨bl, 0, none⟩ = some (.pointer (some ⟨x, 0, none⟩)) ∧ w3.cell? ⟨x, 0, none⟩ = some (.pointer (some ⟨c, 0, none⟩)) ∧ w3.cell? ⟨x, 1, none⟩ = some (.int .i64 (DS.fi l.f)) ∧ w3.cell? ⟨br, 0, none⟩ = some (.string ⟨s.toArray⟩) := ⟨cell_touch hS2.1 ht3 hbl, cell_touch hS2.2.1 ht3 HAP.out, cell_touch hS2.2.2.1 ht3 HAP.out, cell_touch hS2.2.2.2 ht3 hbr⟩
  have HL3 : Hid (LogAt w3 x c l) := Lib.hid ((HL.out.below B3.out).touch ht3 HAP.out)
  have HP : Hid (DiskAt w3 c (d.append (DS.fi l.f) B).1 (m + 1) rb' ∧ Newer w rb rb' ∧ ((d.append (DS.fi l.f) B).1.dead = true → d.dead = false → rb' = none)) := Lib.hid ⟨hd3, fun k hk => (hn3 k hk).imp id (fun h => Nat.le_trans B3.out.size h), hf3⟩
  have HT3 : Hid (Touch (own3 c rb x) w w3) := Lib.hid (own3_of (Touch.trans (Touch.of_below B3.out) ht3 (fun _ _ h => h)))
  clear hd3 hn3 ht3 hf3
  refine hK _ _ hS3 ?_
  clear hK K
  try simp only [Act.put, List.setIfInBounds_toArray, List.set_cons_zero, List.set_cons_succ]
  refine wpAnyH_oneL (i := 12) rfl (by kernel_rfl) ?_
  intro K hK
  rw [if_pos (by rfl)]
  go_simp
  go_at_call 78
  by_cases hn0 : n = 0
  · subst hn0
    refine (must_ok _ _).mono ?_
    rintro e w4 ⟨rfl, rfl⟩
    refine hK _ _ hS3 ?_
    clear hK K
    try simp only [Act.put, List.setIfInBounds_toArray, List.set_cons_zero, List.set_cons_succ]
    refine wpAnyH_done (by kernel_rfl) ?_ _
    obtain ⟨_, _, _, e3, _, ef, _⟩ := HL3.out.cells
    have f3 := ef 3
    have d0 := hS3.1
    clear hS3 hS2 hS0 ef
    go_wp2
    go_end0
    refine ⟨.inl ⟨by first | rfl | exact HN.out, rfl⟩, ?_⟩
    try rw [if_pos HN.out]
    exact ⟨HL3.out.setN (l.n + 1), ⟨rb', HP.out.1.setLog HL3.out 3 _, HP.out.2⟩, HT3.out.setCell _ (fun _ => .inr rfl)⟩
  · refine (must_bad _ n hn0 _).mono ?_
    rintro e w4 ⟨rfl, rfl⟩
    refine ⟨rfl, .inr ⟨by rw [HN.out]; exact hn0, rfl⟩, ?_⟩
    rw [HN.out, if_neg hn0]
    exact ⟨HL3.out, ⟨rb', HP.out⟩, HT3.out⟩
theorem Newer.later {w w1 : World} {rb rb' : Option Nat} (h : Newer w1 rb rb') (hs : w.heap.size ≤ w1.heap.size) : Newer w rb rb' := fun k hk => (h k hk).imp id (fun h => Nat.le_trans hs h)
theorem worked_set3 {x c : Nat} {l : Wal.LS} {d E : DS} {m : Nat} {rb rb2 : Option Nat} {w w5 : World} {F2 : Int} (hl : LogAt w5 x c l) (hp : DiskAt w5 c E m rb2 ∧ Newer w rb rb2 ∧ (E.dead = true → d.dead = false → rb2 = none)) (ht : Touch (own3 c rb x) w w5) (hf : DS.fi (!l.f) = F2) :
    Worked x c { l with f := !l.f, g := l.g + 1, n := 0 } d E m rb w (((w5.setCell ⟨x, 1, none⟩ (.int .i64 F2)).setCell ⟨x, 2, none⟩ (.int .u64 ((l.g : Int) + 1))).setCell ⟨x, 3, none⟩ (.int .i64 0)) := by
  subst hf
  have s1 : LogAt (w5.setCell ⟨x, 1, none⟩ (.int .i64 (DS.fi (!l.f)))) x c { l with f := !l.f } := by
    have := heap_set (i := 1) (.int .i64 (DS.fi (!l.f))) hl
    simpa [LogAt, logBlock] using this
  have s2 : LogAt ((w5.setCell ⟨x, 1, none⟩ (.int .i64 (DS.fi (!l.f)))).setCell ⟨x, 2, none⟩ (.int .u64 ((l.g : Int) + 1))) x c { l with f := !l.f, g := l.g + 1 } := by
    have := heap_set (i := 2) (.int .u64 ((l.g : Int) + 1)) s1
    simpa [LogAt, logBlock] using this
  have t1 := ht.setCell (a := ⟨x, 1, none⟩) (.int .i64 (DS.fi (!l.f))) (fun _ => .inr rfl)
  have t2 := t1.setCell (a := ⟨x, 2, none⟩) (.int .u64 ((l.g : Int) + 1)) (fun _ => .inr rfl)
  have t3 := t2.setCell (a := ⟨x, 3, none⟩) (.int .i64 0) (fun _ => .inr rfl)
  exact ⟨s2.setN 0, ⟨rb2, ((hp.1.setLog hl 1 _).setLog s1 2 _).setLog s2 3 _, hp.2⟩, t3⟩
/-- What Checkpoint's work makes of the log and of the disk. -/
def cpD (l : Wal.LS) (d : DS) (snap : List UInt8) : DS × Int :=
  if (Wal.lays d (!l.f) (l.g + 1) snap).2 ≠ 0 then Wal.lays d (!l.f) (l.g + 1) snap else (Wal.lays d (!l.f) (l.g + 1) snap).1.cut (DS.fi l.f) 0
def cpL (l : Wal.LS) (r : Int) : Wal.LS := if r = 0 then { l with f := !l.f, g := l.g + 1, n := 0 } else l
theorem lays_died {d : DS} {f : Bool} {g : Nat} {snap : List UInt8} (h : (Wal.lays d f g snap).2 = 0) : (Wal.lays d f g snap).1.dead = d.dead ∧ d.dead = false := by
  unfold Wal.lays at h ⊢
  split at h
  · rename_i h1; exact absurd h h1
  · rename_i h1
    rw [if_neg h1]
    replace h1 := Classical.not_not.1 h1
    generalize hE : (d.append (DS.fi f) (Wal.head g snap)).1 = E at h ⊢
    have hd : d.dead = false := by
      cases hd : d.dead
      · rfl
      · unfold DS.append at h1; rw [if_pos hd] at h1; cases h1
    have hEd : E.dead = false := by
      rw [← hE]
      unfold DS.append at h1 ⊢
      rw [if_neg (by simp [hd]), DS.fileNo_of] at h1 ⊢
      simp only at h1 ⊢
      split
      · exact hd
      · rename_i h2
        rw [if_neg h2] at h1
        split
        · rename_i h3; rw [if_pos h3] at h1; cases h1
        · exact hd
    refine ⟨?_, hd⟩
    rw [hd]
    unfold DS.sync at h ⊢
    rw [if_neg (by simp [hEd])] at h ⊢
    split
    · rename_i h3; rw [if_pos h3] at h; cases h
    · exact hEd
set_option maxHeartbeats 4000000 in
set_option maxRecDepth 100000 in
theorem check1_any (x c bl br : Nat) (w : World) (l : Wal.LS) (d : DS) (m : Nat) (rb : Option Nat) (s : List UInt8) (hl : LogAt w x c l) (h : DiskAt w c d m rb) (hm : m < 5000000000000) (hs : s.length ≤ 524288) (hlg : l.g < 4611686018427387904)
    (hb : w.cell? ⟨bl, 0, none⟩ = some (.pointer (some ⟨x, 0, none⟩))) (hbs : w.cell? ⟨br, 0, none⟩ = some (.string ⟨s.toArray⟩)) (hbl : ¬ own2 c rb bl) (hbr : ¬ own2 c rb br) (_hblx : bl ≠ x) (hblw : bl < w.heap.size) :
    Calls Try.prog 80 #[.pointer (some ⟨bl, 0, none⟩), .pointer (some ⟨br, 0, none⟩)] w fun e w' => Ends (cpD l d s).2 e ∧ Worked x c (cpL l (cpD l d s).2) d (cpD l d s).1 (m + 1) rb w w' := by
  obtain ⟨c0, c1, c2, _⟩ := hl.cells
  obtain ⟨R, n, hR⟩ : ∃ R n, Wal.lays d (!l.f) (l.g + 1) s = (R, n) := ⟨_, _, rfl⟩
  have HR := Lib.hid hR
  have HL := Lib.hid hl
  have HD := Lib.hid h
  have HAP := Lib.hid (hl.apart h)
  have hfi : (1 : Int) - DS.fi l.f = DS.fi (!l.f) := by cases l.f <;> rfl
  have hg1 : ((l.g : Int) + 1) = ((l.g + 1 : Nat) : Int) := by omega
  have HFI := Lib.hid hfi
  have HG1 := Lib.hid hg1
  have hf01 : DS.fi l.f = 0 ∨ DS.fi l.f = 1 := by cases l.f <;> simp [DS.fi]
  obtain ⟨F, hF⟩ : ∃ F, DS.fi l.f = F := ⟨_, rfl⟩
  obtain ⟨F2, hF2⟩ : ∃ F2, DS.fi (!l.f) = F2 := ⟨_, rfl⟩
  have HF := Lib.hid hF
  have HF2 := Lib.hid hF2
  rw [hF] at hf01 c1 hfi
  rw [hF2] at hfi
  have hwr : IntKind.i64.wrap (1 - F) = F2 := by rw [IntWalk.i64_in _ (by omega)]; exact hfi
  have hwg : IntKind.u64.wrap ((l.g : Int) + 1) = (l.g : Int) + 1 := IntWalk.u64_in _ ⟨by omega, by omega⟩
  have hwr2 : IntKind.i64.wrap F2 = F2 := by rw [← hfi]; exact IntWalk.i64_in _ (by omega)
  clear hl h hR hF hF2 hg1
  go_enter Try.func80, Try.ntmps80
  go_wp2
  have hS0 : w.drew.cell? ⟨bl, 0, none⟩ = some (.pointer (some ⟨x, 0, none⟩)) ∧ w.drew.cell? ⟨x, 1, none⟩ = some (.int .i64 F) ∧ w.drew.cell? ⟨x, 2, none⟩ = some (.int .u64 l.g) ∧ w.drew.cell? ⟨br, 0, none⟩ = some (.string ⟨s.toArray⟩) := ⟨hb, c1, c2, hbs⟩
  refine wp_region_heldL (S := fun w' => w'.cell? ⟨bl, 0, none⟩ = some (.pointer (some ⟨x, 0, none⟩)) ∧ w'.cell? ⟨x, 1, none⟩ = some (.int .i64 F) ∧ w'.cell? ⟨x, 2, none⟩ = some (.int .u64 l.g) ∧ w'.cell? ⟨br, 0, none⟩ = some (.string ⟨s.toArray⟩)) (by kernel_rfl) ?_
  refine wpAnyH_takeL (i := 0) (v := ?_) rfl (by kernel_rfl) (by kernel_rfl) (by kernel_rfl) (fun _ _ _ h => h) ?_ (by assumption) ?_; rotate_left; focus (first | (refine Or.inr ⟨by rfl, ?_⟩; with_reducible rfl) | (refine Or.inl ⟨by rfl, ?_⟩; (intro w hSw; (try dsimp only at hSw); go_simp); try with_reducible rfl))
  try simp only [Act.put, List.setIfInBounds_toArray, List.set_cons_zero, List.set_cons_succ]
  refine wpAnyH_takeL (i := 1) (v := ?_) rfl (by kernel_rfl) (by kernel_rfl) (by kernel_rfl) (fun _ _ _ h => h) ?_ (by assumption) ?_; rotate_left; focus (first | (refine Or.inr ⟨by rfl, ?_⟩; with_reducible rfl) | (refine Or.inl ⟨by rfl, ?_⟩; (intro w hSw; (try dsimp only at hSw); go_simp); try with_reducible rfl))
  try simp only [Act.put, List.setIfInBounds_toArray, List.set_cons_zero, List.set_cons_succ]
  refine wpAnyH_takeL (i := 2) (v := ?_) rfl (by kernel_rfl) (by kernel_rfl) (by kernel_rfl) (fun _ _ _ h => h) ?_ (by assumption) ?_; rotate_left; focus (first | (refine Or.inr ⟨by rfl, ?_⟩; with_reducible rfl) | (refine Or.inl ⟨by rfl, ?_⟩; (intro w hSw; (try dsimp only at hSw); go_simp); try with_reducible rfl))
  try simp only [Act.put, List.setIfInBounds_toArray, List.set_cons_zero, List.set_cons_succ]
  refine wpAnyH_takeL (i := 3) (v := ?_) rfl (by kernel_rfl) (by kernel_rfl) (by kernel_rfl) (fun _ _ _ h => h) ?_ (by assumption) ?_; rotate_left; focus (first | (refine Or.inr ⟨by rfl, ?_⟩; with_reducible rfl) | (refine Or.inl ⟨by rfl, ?_⟩; (intro w hSw; (try dsimp only at hSw); go_simp); try with_reducible rfl))
  try simp only [Act.put, List.setIfInBounds_toArray, List.set_cons_zero, List.set_cons_succ]
  refine wpAnyH_takeL (i := 4) (v := ?_) rfl (by kernel_rfl) (by kernel_rfl) (by kernel_rfl) (fun _ _ _ h => h) ?_ (by assumption) ?_; rotate_left; focus (first | (refine Or.inr ⟨by rfl, ?_⟩; with_reducible rfl) | (refine Or.inl ⟨by rfl, ?_⟩; (intro w hSw; (try dsimp only at hSw); go_simp); try with_reducible rfl))
  try simp only [Act.put, List.setIfInBounds_toArray, List.set_cons_zero, List.set_cons_succ]
  refine wpAnyH_takeL (i := 5) (v := ?_) rfl (by kernel_rfl) (by kernel_rfl) (by kernel_rfl) (fun _ _ _ h => h) ?_ (by assumption) ?_; rotate_left; focus (first | (refine Or.inr ⟨by rfl, ?_⟩; with_reducible rfl) | (refine Or.inl ⟨by rfl, ?_⟩; (intro w hSw; (try dsimp only at hSw); go_simp); try with_reducible rfl))
  try simp only [Act.put, List.setIfInBounds_toArray, List.set_cons_zero, List.set_cons_succ]
  refine wpAnyH_takeL (i := 6) (v := ?_) rfl (by kernel_rfl) (by kernel_rfl) (by kernel_rfl) (fun _ _ _ h => h) ?_ (by assumption) ?_; rotate_left; focus (first | (refine Or.inr ⟨by rfl, ?_⟩; with_reducible rfl) | (refine Or.inl ⟨by rfl, ?_⟩; (intro w hSw; (try dsimp only at hSw); go_simp); try with_reducible rfl))
  try simp only [Act.put, List.setIfInBounds_toArray, List.set_cons_zero, List.set_cons_succ]
  refine wpAnyH_takeL (i := 7) (v := ?_) rfl (by kernel_rfl) (by kernel_rfl) (by kernel_rfl) (fun _ _ _ h => h) ?_ (by assumption) ?_; rotate_left; focus (first | (refine Or.inr ⟨by rfl, ?_⟩; with_reducible rfl) | (refine Or.inl ⟨by rfl, ?_⟩; (intro w hSw; (try dsimp only at hSw); go_simp); try with_reducible rfl))
  try simp only [Act.put, List.setIfInBounds_toArray, List.set_cons_zero, List.set_cons_succ]
  refine wpAnyH_takeL (i := 8) (v := ?_) rfl (by kernel_rfl) (by kernel_rfl) (by kernel_rfl) (fun _ _ _ h => h) ?_ (by assumption) ?_; rotate_left; focus (first | (refine Or.inr ⟨by rfl, ?_⟩; with_reducible rfl) | (refine Or.inl ⟨by rfl, ?_⟩; (intro w hSw; (try dsimp only at hSw); go_simp); try with_reducible rfl))
  try simp only [Act.put, List.setIfInBounds_toArray, List.set_cons_zero, List.set_cons_succ]
  refine wpAnyH_takeL (i := 9) (v := ?_) rfl (by kernel_rfl) (by kernel_rfl) (by kernel_rfl) (fun _ _ _ h => h) ?_ (by assumption) ?_; rotate_left; focus (first | (refine Or.inr ⟨by rfl, ?_⟩; with_reducible rfl) | (refine Or.inl ⟨by rfl, ?_⟩; (intro w hSw; (try dsimp only at hSw); go_simp); try with_reducible rfl))
  try simp only [Act.put, List.setIfInBounds_toArray, List.set_cons_zero, List.set_cons_succ]
  refine wpAnyH_takeL (i := 10) (v := ?_) rfl (by kernel_rfl) (by kernel_rfl) (by kernel_rfl) (fun _ _ _ h => h) ?_ (by assumption) ?_; rotate_left; focus (first | (refine Or.inr ⟨by rfl, ?_⟩; with_reducible rfl) | (refine Or.inl ⟨by rfl, ?_⟩; (intro w hSw; (try dsimp only at hSw); go_simp); try with_reducible rfl))
  try simp only [Act.put, List.setIfInBounds_toArray, List.set_cons_zero, List.set_cons_succ]
  refine wpAnyH_takeL (i := 11) (v := ?_) rfl (by kernel_rfl) (by kernel_rfl) (by kernel_rfl) (fun _ _ _ h => h) ?_ (by assumption) ?_; rotate_left; focus (first | (refine Or.inr ⟨by rfl, ?_⟩; with_reducible rfl) | (refine Or.inl ⟨by rfl, ?_⟩; (intro w hSw; (try dsimp only at hSw); go_simp); try with_reducible rfl))
  try simp only [Act.put, List.setIfInBounds_toArray, List.set_cons_zero, List.set_cons_succ]
  refine wpAnyH_oneL (i := 12) rfl (by kernel_rfl) ?_
  intro K hK
  rw [if_pos (by rfl)]
  go_simp
  go_at_call 81
  rw [← HF2.out, HG1.out]
  refine (lays_any x c _ l d m rb (!l.f) (l.g + 1) s (HL.out.below ((Below.refl _ _).drew)) (HD.out.below ((Below.refl _ _).drew)) hm (by omega) hs).mono ?_
  rw [HR.out]
  rintro e w3 ⟨he, rb', hd3, hn3, ht3, hf3⟩
  have hn3' : Newer w rb rb' := hn3
  have ht3' : Touch (own2 c rb) w w3 := Touch.trans (Touch.of_below ((Below.refl _ _).drew)) ht3 (fun _ _ h => h)
  have hS3 : w3.cell? ⟨bl, 0, none⟩ = some (.pointer (some ⟨x, 0, none⟩)) ∧ w3.cell? ⟨x, 1, none⟩ = some (.int .i64 F) ∧ w3.cell? ⟨x, 2, none⟩ = some (.int .u64 l.g) ∧ w3.cell? ⟨br, 0, none⟩ = some (.string ⟨s.toArray⟩) := ⟨cell_touch hS0.1 ht3 hbl, cell_touch hS0.2.1 ht3 HAP.out, cell_touch hS0.2.2.1 ht3 HAP.out, cell_touch hS0.2.2.2 ht3 hbr⟩
  have HL3 : Hid (LogAt w3 x c l) := Lib.hid (HL.out.touch ht3' HAP.out)
  have HD3 := Lib.hid hd3
  have HN3 := Lib.hid hn3'
  have HT3 := Lib.hid ht3'
  have HF3 := Lib.hid hf3
  clear hd3 hn3 hn3' ht3 ht3' hf3
  rcases he with ⟨h0, rfl⟩ | ⟨h0, rfl⟩
  · replace h0 : n = 0 := h0
    subst h0
    have hdd := lays_died (d := d) (f := !l.f) (g := l.g + 1) (snap := s) (by rw [HR.out])
    rw [HR.out] at hdd
    have HDD := Lib.hid hdd
    obtain ⟨q, hq⟩ : ∃ q, (R.cut (DS.fi l.f) 0).2 = q := ⟨_, rfl⟩
    have HQ := Lib.hid hq
    have HCP : Hid (cpD l d s = R.cut (DS.fi l.f) 0) := Lib.hid (by unfold cpD; rw [HR.out, if_neg (by simp)])
    clear hq hdd
    refine hK _ _ hS3 ?_
    clear hK K
    try simp only [Act.put, List.setIfInBounds_toArray, List.set_cons_zero, List.set_cons_succ]
    refine wpAnyH_done (by kernel_rfl) ?_ _
    clear hS0 hb hbs c0 c1 c2
    go_wp2
    obtain ⟨e0, e1, _⟩ := HL3.out.cells
    have hS4 : w3.drew.cell? ⟨bl, 0, none⟩ = some (.pointer (some ⟨x, 0, none⟩)) ∧ w3.drew.cell? ⟨x, 0, none⟩ = some (.pointer (some ⟨c, 0, none⟩)) ∧ w3.drew.cell? ⟨x, 1, none⟩ = some (.int .i64 F) := ⟨hS3.1, e0, hS3.2.1⟩
    refine wp_region_heldL (S := fun w' => w'.cell? ⟨bl, 0, none⟩ = some (.pointer (some ⟨x, 0, none⟩)) ∧ w'.cell? ⟨x, 0, none⟩ = some (.pointer (some ⟨c, 0, none⟩)) ∧ w'.cell? ⟨x, 1, none⟩ = some (.int .i64 F)) (by kernel_rfl) ?_
    refine wpAnyH_takeL (i := 0) (v := ?_) rfl (by kernel_rfl) (by kernel_rfl) (by kernel_rfl) (fun _ _ _ h => h) ?_ (by assumption) ?_; rotate_left; focus (first | (refine Or.inr ⟨by rfl, ?_⟩; with_reducible rfl) | (refine Or.inl ⟨by rfl, ?_⟩; (intro w hSw; (try dsimp only at hSw); go_simp); try with_reducible rfl))
    try simp only [Act.put, List.setIfInBounds_toArray, List.set_cons_zero, List.set_cons_succ]
    refine wpAnyH_takeL (i := 1) (v := ?_) rfl (by kernel_rfl) (by kernel_rfl) (by kernel_rfl) (fun _ _ _ h => h) ?_ (by assumption) ?_; rotate_left; focus (first | (refine Or.inr ⟨by rfl, ?_⟩; with_reducible rfl) | (refine Or.inl ⟨by rfl, ?_⟩; (intro w hSw; (try dsimp only at hSw); go_simp); try with_reducible rfl))
    try simp only [Act.put, List.setIfInBounds_toArray, List.set_cons_zero, List.set_cons_succ]
    refine wpAnyH_takeL (i := 2) (v := ?_) rfl (by kernel_rfl) (by kernel_rfl) (by kernel_rfl) (fun _ _ _ h => h) ?_ (by assumption) ?_; rotate_left; focus (first | (refine Or.inr ⟨by rfl, ?_⟩; with_reducible rfl) | (refine Or.inl ⟨by rfl, ?_⟩; (intro w hSw; (try dsimp only at hSw); go_simp); try with_reducible rfl))
    try simp only [Act.put, List.setIfInBounds_toArray, List.set_cons_zero, List.set_cons_succ]
    refine wpAnyH_takeL (i := 3) (v := ?_) rfl (by kernel_rfl) (by kernel_rfl) (by kernel_rfl) (fun _ _ _ h => h) ?_ (by assumption) ?_; rotate_left; focus (first | (refine Or.inr ⟨by rfl, ?_⟩; with_reducible rfl) | (refine Or.inl ⟨by rfl, ?_⟩; (intro w hSw; (try dsimp only at hSw); go_simp); try with_reducible rfl))
    try simp only [Act.put, List.setIfInBounds_toArray, List.set_cons_zero, List.set_cons_succ]
    refine wpAnyH_takeL (i := 4) (v := ?_) rfl (by kernel_rfl) (by kernel_rfl) (by kernel_rfl) (fun _ _ _ h => h) ?_ (by assumption) ?_; rotate_left; focus (first | (refine Or.inr ⟨by rfl, ?_⟩; with_reducible rfl) | (refine Or.inl ⟨by rfl, ?_⟩; (intro w hSw; (try dsimp only at hSw); go_simp); try with_reducible rfl))
    try simp only [Act.put, List.setIfInBounds_toArray, List.set_cons_zero, List.set_cons_succ]
    refine wpAnyH_takeL (i := 5) (v := ?_) rfl (by kernel_rfl) (by kernel_rfl) (by kernel_rfl) (fun _ _ _ h => h) ?_ (by assumption) ?_; rotate_left; focus (first | (refine Or.inr ⟨by rfl, ?_⟩; with_reducible rfl) | (refine Or.inl ⟨by rfl, ?_⟩; (intro w hSw; (try dsimp only at hSw); go_simp); try with_reducible rfl))
    try simp only [Act.put, List.setIfInBounds_toArray, List.set_cons_zero, List.set_cons_succ]
    refine wpAnyH_takeL (i := 6) (v := ?_) rfl (by kernel_rfl) (by kernel_rfl) (by kernel_rfl) (fun _ _ _ h => h) ?_ (by assumption) ?_; rotate_left; focus (first | (refine Or.inr ⟨by rfl, ?_⟩; with_reducible rfl) | (refine Or.inl ⟨by rfl, ?_⟩; (intro w hSw; (try dsimp only at hSw); go_simp); try with_reducible rfl))
    try simp only [Act.put, List.setIfInBounds_toArray, List.set_cons_zero, List.set_cons_succ]
    refine wpAnyH_takeL (i := 7) (v := ?_) rfl (by kernel_rfl) (by kernel_rfl) (by kernel_rfl) (fun _ _ _ h => h) ?_ (by assumption) ?_; rotate_left; focus (first | (refine Or.inr ⟨by rfl, ?_⟩; with_reducible rfl) | (refine Or.inl ⟨by rfl, ?_⟩; (intro w hSw; (try dsimp only at hSw); go_simp); try with_reducible rfl))
    try simp only [Act.put, List.setIfInBounds_toArray, List.set_cons_zero, List.set_cons_succ]
    refine wpAnyH_takeL (i := 8) (v := ?_) rfl (by kernel_rfl) (by kernel_rfl) (by kernel_rfl) (fun _ _ _ h => h) ?_ (by assumption) ?_; rotate_left; focus (first | (refine Or.inr ⟨by rfl, ?_⟩; with_reducible rfl) | (refine Or.inl ⟨by rfl, ?_⟩; (intro w hSw; (try dsimp only at hSw); go_simp); try with_reducible rfl))
    try simp only [Act.put, List.setIfInBounds_toArray, List.set_cons_zero, List.set_cons_succ]
    refine wpAnyH_oneL (i := 9) rfl (by kernel_rfl) ?_
    intro K hK
    rw [if_pos (by rfl)]
    go_simp
    go_at_call 21
    rw [← HF.out]
    have hap3 := HL3.out.apart HD3.out
    have hbl3 : ¬ own2 c rb' bl := fun ho => by
      rcases ho with ho | ho
      · exact hbl (.inl ho)
      · rcases HN3.out _ ho with h1 | h1
        · exact hbl (.inr h1)
        · omega
    refine (cut_anyN c _ R (m + 1) rb' (DS.fi l.f) 0 (HD3.out.below ((Below.refl _ _).drew))).mono ?_
    rw [HQ.out]
    rintro e w5 ⟨rfl, rb2, hd5, hn5, ht5, hf5⟩
    have hS5 : w5.cell? ⟨bl, 0, none⟩ = some (.pointer (some ⟨x, 0, none⟩)) ∧ w5.cell? ⟨x, 0, none⟩ = some (.pointer (some ⟨c, 0, none⟩)) ∧ w5.cell? ⟨x, 1, none⟩ = some (.int .i64 F) := ⟨cell_touch hS4.1 ht5 hbl3, cell_touch hS4.2.1 ht5 hap3, cell_touch hS4.2.2 ht5 hap3⟩
    have HL5 : Hid (LogAt w5 x c l) := Lib.hid ((HL3.out.below ((Below.refl _ _).drew)).touch ht5 hap3)
    have HP5 : Hid (DiskAt w5 c (R.cut (DS.fi l.f) 0).1 (m + 1) rb2 ∧ Newer w rb rb2 ∧ ((R.cut (DS.fi l.f) 0).1.dead = true → d.dead = false → rb2 = none)) := Lib.hid ⟨hd5, HN3.out.trans hn5 HT3.out.size, fun h1 h2 => hf5 h1 (HDD.out.1.trans h2)⟩
    have HT5 : Hid (Touch (own2 c rb) w w5) := Lib.hid (own2_trans HT3.out HN3.out (Touch.trans (Touch.of_below ((Below.refl _ _).drew)) ht5 (fun _ _ h => h)))
    clear hd5 hn5 ht5 hf5 hap3 hbl3
    refine hK _ _ hS5 ?_
    clear hK K
    try simp only [Act.put, List.setIfInBounds_toArray, List.set_cons_zero, List.set_cons_succ]
    refine wpAnyH_oneL (i := 10) rfl (by kernel_rfl) ?_
    intro K hK
    rw [if_pos (by rfl)]
    go_simp
    go_at_call 78
    by_cases hq0 : q = 0
    · subst hq0
      refine (must_ok _ _).mono ?_
      rintro e w6 ⟨rfl, rfl⟩
      refine hK _ _ hS5 ?_
      clear hK K
      try simp only [Act.put, List.setIfInBounds_toArray, List.set_cons_zero, List.set_cons_succ]
      refine wpAnyH_done (by kernel_rfl) ?_ _
      clear hS3 hS4 e0 e1
      obtain ⟨_, k1, k2, k3, _, kf, _⟩ := HL5.out.cells
      rw [HF.out] at k1
      have k0 := hS5.1
      have kf1 := kf 1
      have kf2 := kf 2
      have kf3 := kf 3
      clear hS5 kf
      go_wp2
      go_region
      go_end0
      rw [HCP.out, HQ.out]
      refine ⟨.inl ⟨rfl, rfl⟩, Worked.drew ?_⟩
      unfold cpL
      rw [if_pos rfl]
      exact worked_set3 HL5.out HP5.out (own3_of HT5.out) HF2.out
    · refine (must_bad _ q hq0 _).mono ?_
      rintro e w6 ⟨rfl, rfl⟩
      refine ⟨rfl, ?_⟩
      rw [HCP.out, HQ.out]
      refine ⟨.inr ⟨hq0, rfl⟩, ?_⟩
      unfold cpL
      rw [if_neg hq0]
      exact ⟨HL5.out, ⟨rb2, HP5.out⟩, own3_of HT5.out⟩
  · refine ⟨rfl, ?_⟩
    have HCP : cpD l d s = (R, n) := by unfold cpD; rw [HR.out, if_pos h0]
    rw [HCP]
    refine ⟨.inr ⟨h0, rfl⟩, ?_⟩
    unfold cpL
    rw [if_neg h0]
    exact ⟨HL3.out, ⟨rb', HD3.out, HN3.out, HF3.out⟩, own3_of HT3.out⟩
end Go.Proofs.Ytpjpknndfhablaa
