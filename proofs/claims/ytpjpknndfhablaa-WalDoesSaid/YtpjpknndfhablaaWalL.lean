/- The walk of Open's closure. -/
import Derived.Test.YtpjpknndfhablaaWalK
import Derived.Deep.QuietTactic
import Derived.BigQuiet
namespace Go.Proofs.Ytpjpknndfhablaa
open Go.RowKit

set_option maxHeartbeats 4000000 in
set_option maxRecDepth 100000 in
theorem open1_false (x c ba bf bb bl bd bo q p : Nat) (W : World) (l : Wal.LS) (d : DS) (m : Nat) (rb : Option Nat) (hb : Boxes W ba bf bb bl bd bo q p (d.file false) (d.file true) false x c) (hn : NotIn (own2 c rb) ba bf bb bl bd bo q) (hl : LogAt W x c l) (h : DiskAt W c d m rb) :
    Calls Try.prog 89 #[.pointer (some ⟨ba, 0, none⟩), .pointer (some ⟨bf, 0, none⟩), .pointer (some ⟨bb, 0, none⟩), .pointer (some ⟨bl, 0, none⟩), .pointer (some ⟨bd, 0, none⟩), .pointer (some ⟨bo, 0, none⟩)] W fun e w' => Ends (Wal.cuts d false p).2 e ∧ Worked x c l d (Wal.cuts d false p).1 m rb W w' := by
  obtain ⟨F0, hF0⟩ : ∃ F, d.file false = F := ⟨_, rfl⟩
  obtain ⟨F1, hF1⟩ : ∃ F, d.file true = F := ⟨_, rfl⟩
  have H0 : Half W W ba bf bb bl bd bo q p (d.file false) (d.file true) false x c l d d m rb := ⟨hb, hl, ⟨rb, h, Newer.refl _ _, fun h1 h2 => (by rw [h1] at h2; cases h2), hn⟩, Touch.refl _ _⟩
  rw [hF0, hF1] at H0
  have hlF : F0.length ≤ 1048576 := by rw [← hF0]; exact h.1.base_len' false
  have hlO : F1.length ≤ 1048576 := by rw [← hF1]; exact h.1.base_len' true
  have ca := H0.boxes.a
  have cf := H0.boxes.fs
  have cb : W.cell? ⟨bb, 0, none⟩ = some (.int .i64 0) := H0.boxes.b
  have cf0 := H0.boxes.f0
  obtain ⟨R, r, hR⟩ : ∃ R r, Wal.cutEnd d false p = (R, r) := ⟨_, _, rfl⟩
  have HR := Lib.hid hR
  have HH := Lib.hid H0
  have HG := Lib.hid hF0
  have HK := Lib.hid hF1
  clear hb hn hl h H0 hR hF0 hF1
  go_enter Try.func89, Try.ntmps89
  go_wp2_with fail
  go_quiet (fail)
  have H1 := Lib.hid (HH.out.drew (n := nq))
  clear ca cf cb cf0 HH
  generalize W.drewN nq = w1 at H1 ⊢
  by_cases hp : p < F0.length
  · have HCU : Hid (d.cut (DS.fi false) p = (R, r)) := Lib.hid (by have := HR.out; unfold Wal.cutEnd at this; rwa [HG.out, if_pos hp] at this)
    go_wp2_with fail
    have hS0 : w1.drew.cell? ⟨bl, 0, none⟩ = some (.pointer (some ⟨x, 0, none⟩)) ∧ w1.drew.cell? ⟨bd, 0, none⟩ = some (.pointer (some ⟨c, 0, none⟩)) ∧ w1.drew.cell? ⟨bb, 0, none⟩ = some (.int .i64 0) ∧ w1.drew.cell? ⟨ba, 0, none⟩ = some (.int .i64 p) := ⟨H1.out.boxes.l, H1.out.boxes.d, H1.out.boxes.b, H1.out.boxes.a⟩
    refine wp_region_heldL (S := fun w' => w'.cell? ⟨bl, 0, none⟩ = some (.pointer (some ⟨x, 0, none⟩)) ∧ w'.cell? ⟨bd, 0, none⟩ = some (.pointer (some ⟨c, 0, none⟩)) ∧ w'.cell? ⟨bb, 0, none⟩ = some (.int .i64 0) ∧ w'.cell? ⟨ba, 0, none⟩ = some (.int .i64 p)) (by kernel_rfl) ?_
    refine wpAnyH_takeL (i := 0) (v := ?_) rfl (by kernel_rfl) (by kernel_rfl) (by kernel_rfl) (fun _ _ _ h => h) ?_ (by assumption) ?_; rotate_left; focus (first | (refine Or.inr ⟨by rfl, ?_⟩; with_reducible rfl) | (refine Or.inl ⟨by rfl, ?_⟩; (intro w hSw; (try dsimp only at hSw); go_simp); try with_reducible rfl))
    try simp only [Act.put, List.setIfInBounds_toArray, List.set_cons_zero, List.set_cons_succ]
    refine wpAnyH_takeL (i := 1) (v := ?_) rfl (by kernel_rfl) (by kernel_rfl) (by kernel_rfl) (fun _ _ _ h => h) ?_ (by assumption) ?_; rotate_left; focus (first | (refine Or.inr ⟨by rfl, ?_⟩; with_reducible rfl) | (refine Or.inl ⟨by rfl, ?_⟩; (intro w hSw; (try dsimp only at hSw); go_simp); try with_reducible rfl))
    try simp only [Act.put, List.setIfInBounds_toArray, List.set_cons_zero, List.set_cons_succ]
    refine wpAnyH_takeL (i := 2) (v := ?_) rfl (by kernel_rfl) (by kernel_rfl) (by kernel_rfl) (fun _ _ _ h => h) ?_ (by assumption) ?_; rotate_left; focus (first | (refine Or.inr ⟨by rfl, ?_⟩; with_reducible rfl) | (refine Or.inl ⟨by rfl, ?_⟩; (intro w hSw; (try dsimp only at hSw); go_simp); try with_reducible rfl))
    try simp only [Act.put, List.setIfInBounds_toArray, List.set_cons_zero, List.set_cons_succ]
    refine wpAnyH_takeL (i := 3) (v := ?_) rfl (by kernel_rfl) (by kernel_rfl) (by kernel_rfl) (fun _ _ _ h => h) ?_ (by assumption) ?_; rotate_left; focus (first | (refine Or.inr ⟨by rfl, ?_⟩; with_reducible rfl) | (refine Or.inl ⟨by rfl, ?_⟩; (intro w hSw; (try dsimp only at hSw); go_simp); try with_reducible rfl))
    try simp only [Act.put, List.setIfInBounds_toArray, List.set_cons_zero, List.set_cons_succ]
    refine wpAnyH_oneL (i := 4) rfl (by kernel_rfl) ?_
    intro K hK
    rw [if_pos (by rfl)]
    go_simp
    go_at_call 21
    have H1d := H1.out.drew (n := 1)
    refine (half_cut (w1 := w1.drew) H1d 0 p id).mono ?_
    have hcu : d.cut 0 p = (R, r) := HCU.out
    rw [hcu]
    rintro e w2 ⟨rfl, h2⟩
    have hS2 : w2.cell? ⟨bl, 0, none⟩ = some (.pointer (some ⟨x, 0, none⟩)) ∧ w2.cell? ⟨bd, 0, none⟩ = some (.pointer (some ⟨c, 0, none⟩)) ∧ w2.cell? ⟨bb, 0, none⟩ = some (.int .i64 0) ∧ w2.cell? ⟨ba, 0, none⟩ = some (.int .i64 p) := ⟨h2.boxes.l, h2.boxes.d, h2.boxes.b, h2.boxes.a⟩
    have H2 := Lib.hid h2
    clear h2 hcu
    refine hK _ _ hS2 ?_
    clear hK K
    refine wpAnyH_oneL (i := 5) rfl (by kernel_rfl) ?_
    intro K hK
    rw [if_pos (by rfl)]
    go_simp
    go_at_call 78
    by_cases hr0 : r = 0
    · subst hr0
      have hRd : d.dead = false → R.dead = false := fun h0 => by
        have := cut_dead (d := d) (f := DS.fi false) (n := p) (by rw [HCU.out]) h0
        rwa [HCU.out] at this
      refine (must_ok _ _).mono ?_
      rintro e w3 ⟨rfl, rfl⟩
      refine hK _ _ hS2 ?_
      clear hK K
      try simp only [Act.put, List.setIfInBounds_toArray, List.set_cons_zero, List.set_cons_succ]
      refine wpAnyH_done (by kernel_rfl) ?_ _
      clear hS0 hS2
      obtain ⟨hhk, hhc⟩ : Hid (F1 = [] → Wal.cuts d false p = (R, 0)) ∧ Hid (F1 ≠ [] → Wal.cuts d false p = R.cut (DS.fi true) 0) := ⟨Lib.hid (fun h0 => by unfold Wal.cuts Wal.cutOther; rw [HR.out, if_neg (fun h => h rfl)]; show (if d.file true ≠ [] then _ else _) = _; rw [HK.out, if_neg (fun h => h h0)]), Lib.hid (fun h0 => by unfold Wal.cuts Wal.cutOther; rw [HR.out, if_neg (fun h => h rfl)]; show (if d.file true ≠ [] then _ else _) = _; rw [HK.out, if_pos h0]; rfl)⟩
      have ef := H2.out.boxes.fs
      have eo : w2.cell? ⟨bo, 0, none⟩ = some (.int .i64 1) := H2.out.boxes.o
      have ek := H2.out.boxes.f1
      clear HR HG HK
      cases F1 with
      | nil =>
        have HC := Lib.hid (hhk.out rfl)
        clear hhk hhc
        go_wp2_with fail
        go_end0
        rw [HC.out]
        exact ⟨.inl ⟨rfl, rfl⟩, H2.out.worked⟩
      | cons y ys =>
        have HC := Lib.hid (hhc.out (by simp))
        clear hhk hhc
        obtain ⟨R2, r2, hR2⟩ : ∃ R2 r2, R.cut (DS.fi true) 0 = (R2, r2) := ⟨_, _, rfl⟩
        have hcu2 : R.cut 1 0 = (R2, r2) := hR2
        rw [hR2] at HC
        clear hR2
        go_wp2_with fail
        clear ef eo ek
        have hS3 : w2.drew.cell? ⟨bl, 0, none⟩ = some (.pointer (some ⟨x, 0, none⟩)) ∧ w2.drew.cell? ⟨bd, 0, none⟩ = some (.pointer (some ⟨c, 0, none⟩)) ∧ w2.drew.cell? ⟨bo, 0, none⟩ = some (.int .i64 1) := ⟨H2.out.boxes.l, H2.out.boxes.d, H2.out.boxes.o⟩
        refine wp_region_heldL (S := fun w' => w'.cell? ⟨bl, 0, none⟩ = some (.pointer (some ⟨x, 0, none⟩)) ∧ w'.cell? ⟨bd, 0, none⟩ = some (.pointer (some ⟨c, 0, none⟩)) ∧ w'.cell? ⟨bo, 0, none⟩ = some (.int .i64 1)) (by kernel_rfl) ?_
        refine wpAnyH_takeL (i := 0) (v := ?_) rfl (by kernel_rfl) (by kernel_rfl) (by kernel_rfl) (fun _ _ _ h => h) ?_ (by assumption) ?_; rotate_left; focus (first | (refine Or.inr ⟨by rfl, ?_⟩; with_reducible rfl) | (refine Or.inl ⟨by rfl, ?_⟩; (intro w hSw; (try dsimp only at hSw); go_simp); try with_reducible rfl))
        try simp only [Act.put, List.setIfInBounds_toArray, List.set_cons_zero, List.set_cons_succ]
        refine wpAnyH_takeL (i := 1) (v := ?_) rfl (by kernel_rfl) (by kernel_rfl) (by kernel_rfl) (fun _ _ _ h => h) ?_ (by assumption) ?_; rotate_left; focus (first | (refine Or.inr ⟨by rfl, ?_⟩; with_reducible rfl) | (refine Or.inl ⟨by rfl, ?_⟩; (intro w hSw; (try dsimp only at hSw); go_simp); try with_reducible rfl))
        try simp only [Act.put, List.setIfInBounds_toArray, List.set_cons_zero, List.set_cons_succ]
        refine wpAnyH_takeL (i := 2) (v := ?_) rfl (by kernel_rfl) (by kernel_rfl) (by kernel_rfl) (fun _ _ _ h => h) ?_ (by assumption) ?_; rotate_left; focus (first | (refine Or.inr ⟨by rfl, ?_⟩; with_reducible rfl) | (refine Or.inl ⟨by rfl, ?_⟩; (intro w hSw; (try dsimp only at hSw); go_simp); try with_reducible rfl))
        try simp only [Act.put, List.setIfInBounds_toArray, List.set_cons_zero, List.set_cons_succ]
        refine wpAnyH_oneL (i := 3) rfl (by kernel_rfl) ?_
        intro K hK
        rw [if_pos (by rfl)]
        go_simp
        go_at_call 21
        have H2d := H2.out.drew (n := 1)
        refine (half_cut (w1 := w2.drew) H2d 1 0 hRd).mono ?_
        rw [hcu2]
        rintro e w4 ⟨rfl, h4⟩
        have hS4 : w4.cell? ⟨bl, 0, none⟩ = some (.pointer (some ⟨x, 0, none⟩)) ∧ w4.cell? ⟨bd, 0, none⟩ = some (.pointer (some ⟨c, 0, none⟩)) ∧ w4.cell? ⟨bo, 0, none⟩ = some (.int .i64 1) := ⟨h4.boxes.l, h4.boxes.d, h4.boxes.o⟩
        have H4 := Lib.hid h4
        clear h4 hcu2 H2d
        refine hK _ _ hS4 ?_
        clear hK K
        refine wpAnyH_oneL (i := 4) rfl (by kernel_rfl) ?_
        intro K hK
        rw [if_pos (by rfl)]
        go_simp
        go_at_call 78
        by_cases hr2 : r2 = 0
        · subst hr2
          refine (must_ok _ _).mono ?_
          rintro e w5 ⟨rfl, rfl⟩
          refine hK _ _ hS4 ?_
          clear hK K
          try simp only [Act.put, List.setIfInBounds_toArray, List.set_cons_zero, List.set_cons_succ]
          refine wpAnyH_done (by kernel_rfl) ?_ _
          go_wp2_with fail
          go_end0
          rw [HC.out]
          exact ⟨.inl ⟨rfl, rfl⟩, H4.out.worked⟩
        · refine (must_bad _ r2 hr2 _).mono ?_
          rintro e w5 ⟨rfl, rfl⟩
          refine ⟨rfl, ?_⟩
          rw [HC.out]
          exact ⟨.inr ⟨hr2, rfl⟩, H4.out.worked⟩
    · refine (must_bad _ r hr0 _).mono ?_
      rintro e w3 ⟨rfl, rfl⟩
      have hcc : Wal.cuts d false p = (R, r) := by unfold Wal.cuts; rw [HR.out, if_pos hr0]
      refine ⟨rfl, ?_⟩
      rw [hcc]
      exact ⟨.inr ⟨hr0, rfl⟩, H2.out.worked⟩
  · have hE : (d, (0 : Int)) = (R, r) := by have := HR.out; unfold Wal.cutEnd at this; rwa [HG.out, if_neg hp] at this
    obtain ⟨rfl, rfl⟩ := Prod.mk.inj hE
    have hRd : d.dead = false → d.dead = false := id
    have H2 := H1
    clear hE
    obtain ⟨hhk, hhc⟩ : Hid (F1 = [] → Wal.cuts d false p = (d, 0)) ∧ Hid (F1 ≠ [] → Wal.cuts d false p = d.cut (DS.fi true) 0) := ⟨Lib.hid (fun h0 => by unfold Wal.cuts Wal.cutOther; rw [HR.out, if_neg (fun h => h rfl)]; show (if d.file true ≠ [] then _ else _) = _; rw [HK.out, if_neg (fun h => h h0)]), Lib.hid (fun h0 => by unfold Wal.cuts Wal.cutOther; rw [HR.out, if_neg (fun h => h rfl)]; show (if d.file true ≠ [] then _ else _) = _; rw [HK.out, if_pos h0]; rfl)⟩
    have ef := H2.out.boxes.fs
    have eo : w1.cell? ⟨bo, 0, none⟩ = some (.int .i64 1) := H2.out.boxes.o
    have ek := H2.out.boxes.f1
    clear HR HG HK
    cases F1 with
    | nil =>
      have HC := Lib.hid (hhk.out rfl)
      clear hhk hhc
      go_wp2_with fail
      go_end0
      rw [HC.out]
      exact ⟨.inl ⟨rfl, rfl⟩, H2.out.worked⟩
    | cons y ys =>
      have HC := Lib.hid (hhc.out (by simp))
      clear hhk hhc
      obtain ⟨R2, r2, hR2⟩ : ∃ R2 r2, d.cut (DS.fi true) 0 = (R2, r2) := ⟨_, _, rfl⟩
      have hcu2 : d.cut 1 0 = (R2, r2) := hR2
      rw [hR2] at HC
      clear hR2
      go_wp2_with fail
      clear ef eo ek
      have hS3 : w1.drew.cell? ⟨bl, 0, none⟩ = some (.pointer (some ⟨x, 0, none⟩)) ∧ w1.drew.cell? ⟨bd, 0, none⟩ = some (.pointer (some ⟨c, 0, none⟩)) ∧ w1.drew.cell? ⟨bo, 0, none⟩ = some (.int .i64 1) := ⟨H2.out.boxes.l, H2.out.boxes.d, H2.out.boxes.o⟩
      refine wp_region_heldL (S := fun w' => w'.cell? ⟨bl, 0, none⟩ = some (.pointer (some ⟨x, 0, none⟩)) ∧ w'.cell? ⟨bd, 0, none⟩ = some (.pointer (some ⟨c, 0, none⟩)) ∧ w'.cell? ⟨bo, 0, none⟩ = some (.int .i64 1)) (by kernel_rfl) ?_
      refine wpAnyH_takeL (i := 0) (v := ?_) rfl (by kernel_rfl) (by kernel_rfl) (by kernel_rfl) (fun _ _ _ h => h) ?_ (by assumption) ?_; rotate_left; focus (first | (refine Or.inr ⟨by rfl, ?_⟩; with_reducible rfl) | (refine Or.inl ⟨by rfl, ?_⟩; (intro w hSw; (try dsimp only at hSw); go_simp); try with_reducible rfl))
      try simp only [Act.put, List.setIfInBounds_toArray, List.set_cons_zero, List.set_cons_succ]
      refine wpAnyH_takeL (i := 1) (v := ?_) rfl (by kernel_rfl) (by kernel_rfl) (by kernel_rfl) (fun _ _ _ h => h) ?_ (by assumption) ?_; rotate_left; focus (first | (refine Or.inr ⟨by rfl, ?_⟩; with_reducible rfl) | (refine Or.inl ⟨by rfl, ?_⟩; (intro w hSw; (try dsimp only at hSw); go_simp); try with_reducible rfl))
      try simp only [Act.put, List.setIfInBounds_toArray, List.set_cons_zero, List.set_cons_succ]
      refine wpAnyH_takeL (i := 2) (v := ?_) rfl (by kernel_rfl) (by kernel_rfl) (by kernel_rfl) (fun _ _ _ h => h) ?_ (by assumption) ?_; rotate_left; focus (first | (refine Or.inr ⟨by rfl, ?_⟩; with_reducible rfl) | (refine Or.inl ⟨by rfl, ?_⟩; (intro w hSw; (try dsimp only at hSw); go_simp); try with_reducible rfl))
      try simp only [Act.put, List.setIfInBounds_toArray, List.set_cons_zero, List.set_cons_succ]
      refine wpAnyH_oneL (i := 3) rfl (by kernel_rfl) ?_
      intro K hK
      rw [if_pos (by rfl)]
      go_simp
      go_at_call 21
      have H2d := H2.out.drew (n := 1)
      refine (half_cut (w1 := w1.drew) H2d 1 0 hRd).mono ?_
      rw [hcu2]
      rintro e w4 ⟨rfl, h4⟩
      have hS4 : w4.cell? ⟨bl, 0, none⟩ = some (.pointer (some ⟨x, 0, none⟩)) ∧ w4.cell? ⟨bd, 0, none⟩ = some (.pointer (some ⟨c, 0, none⟩)) ∧ w4.cell? ⟨bo, 0, none⟩ = some (.int .i64 1) := ⟨h4.boxes.l, h4.boxes.d, h4.boxes.o⟩
      have H4 := Lib.hid h4
      clear h4 hcu2 H2d
      refine hK _ _ hS4 ?_
      clear hK K
      refine wpAnyH_oneL (i := 4) rfl (by kernel_rfl) ?_
      intro K hK
      rw [if_pos (by rfl)]
      go_simp
      go_at_call 78
      by_cases hr2 : r2 = 0
      · subst hr2
        refine (must_ok _ _).mono ?_
        rintro e w5 ⟨rfl, rfl⟩
        refine hK _ _ hS4 ?_
        clear hK K
        try simp only [Act.put, List.setIfInBounds_toArray, List.set_cons_zero, List.set_cons_succ]
        refine wpAnyH_done (by kernel_rfl) ?_ _
        go_wp2_with fail
        go_end0
        rw [HC.out]
        exact ⟨.inl ⟨rfl, rfl⟩, H4.out.worked⟩
      · refine (must_bad _ r2 hr2 _).mono ?_
        rintro e w5 ⟨rfl, rfl⟩
        refine ⟨rfl, ?_⟩
        rw [HC.out]
        exact ⟨.inr ⟨hr2, rfl⟩, H4.out.worked⟩

set_option maxHeartbeats 4000000 in
set_option maxRecDepth 100000 in
theorem open1_true (x c ba bf bb bl bd bo q p : Nat) (W : World) (l : Wal.LS) (d : DS) (m : Nat) (rb : Option Nat) (hb : Boxes W ba bf bb bl bd bo q p (d.file false) (d.file true) true x c) (hn : NotIn (own2 c rb) ba bf bb bl bd bo q) (hl : LogAt W x c l) (h : DiskAt W c d m rb) :
    Calls Try.prog 89 #[.pointer (some ⟨ba, 0, none⟩), .pointer (some ⟨bf, 0, none⟩), .pointer (some ⟨bb, 0, none⟩), .pointer (some ⟨bl, 0, none⟩), .pointer (some ⟨bd, 0, none⟩), .pointer (some ⟨bo, 0, none⟩)] W fun e w' => Ends (Wal.cuts d true p).2 e ∧ Worked x c l d (Wal.cuts d true p).1 m rb W w' := by
  obtain ⟨F1, hF1⟩ : ∃ F, d.file true = F := ⟨_, rfl⟩
  obtain ⟨F0, hF0⟩ : ∃ F, d.file false = F := ⟨_, rfl⟩
  have H0 : Half W W ba bf bb bl bd bo q p (d.file false) (d.file true) true x c l d d m rb := ⟨hb, hl, ⟨rb, h, Newer.refl _ _, fun h1 h2 => (by rw [h1] at h2; cases h2), hn⟩, Touch.refl _ _⟩
  rw [hF1, hF0] at H0
  have hlF : F1.length ≤ 1048576 := by rw [← hF1]; exact h.1.base_len' true
  have hlO : F0.length ≤ 1048576 := by rw [← hF0]; exact h.1.base_len' false
  have ca := H0.boxes.a
  have cf := H0.boxes.fs
  have cb : W.cell? ⟨bb, 0, none⟩ = some (.int .i64 1) := H0.boxes.b
  have cf1 := H0.boxes.f1
  obtain ⟨R, r, hR⟩ : ∃ R r, Wal.cutEnd d true p = (R, r) := ⟨_, _, rfl⟩
  have HR := Lib.hid hR
  have HH := Lib.hid H0
  have HG := Lib.hid hF1
  have HK := Lib.hid hF0
  clear hb hn hl h H0 hR hF1 hF0
  go_enter Try.func89, Try.ntmps89
  go_wp2_with fail
  go_quiet (fail)
  have H1 := Lib.hid (HH.out.drew (n := nq))
  clear ca cf cb cf1 HH
  generalize W.drewN nq = w1 at H1 ⊢
  by_cases hp : p < F1.length
  · have HCU : Hid (d.cut (DS.fi true) p = (R, r)) := Lib.hid (by have := HR.out; unfold Wal.cutEnd at this; rwa [HG.out, if_pos hp] at this)
    go_wp2_with fail
    have hS0 : w1.drew.cell? ⟨bl, 0, none⟩ = some (.pointer (some ⟨x, 0, none⟩)) ∧ w1.drew.cell? ⟨bd, 0, none⟩ = some (.pointer (some ⟨c, 0, none⟩)) ∧ w1.drew.cell? ⟨bb, 0, none⟩ = some (.int .i64 1) ∧ w1.drew.cell? ⟨ba, 0, none⟩ = some (.int .i64 p) := ⟨H1.out.boxes.l, H1.out.boxes.d, H1.out.boxes.b, H1.out.boxes.a⟩
    refine wp_region_heldL (S := fun w' => w'.cell? ⟨bl, 0, none⟩ = some (.pointer (some ⟨x, 0, none⟩)) ∧ w'.cell? ⟨bd, 0, none⟩ = some (.pointer (some ⟨c, 0, none⟩)) ∧ w'.cell? ⟨bb, 0, none⟩ = some (.int .i64 1) ∧ w'.cell? ⟨ba, 0, none⟩ = some (.int .i64 p)) (by kernel_rfl) ?_
    refine wpAnyH_takeL (i := 0) (v := ?_) rfl (by kernel_rfl) (by kernel_rfl) (by kernel_rfl) (fun _ _ _ h => h) ?_ (by assumption) ?_; rotate_left; focus (first | (refine Or.inr ⟨by rfl, ?_⟩; with_reducible rfl) | (refine Or.inl ⟨by rfl, ?_⟩; (intro w hSw; (try dsimp only at hSw); go_simp); try with_reducible rfl))
    try simp only [Act.put, List.setIfInBounds_toArray, List.set_cons_zero, List.set_cons_succ]
    refine wpAnyH_takeL (i := 1) (v := ?_) rfl (by kernel_rfl) (by kernel_rfl) (by kernel_rfl) (fun _ _ _ h => h) ?_ (by assumption) ?_; rotate_left; focus (first | (refine Or.inr ⟨by rfl, ?_⟩; with_reducible rfl) | (refine Or.inl ⟨by rfl, ?_⟩; (intro w hSw; (try dsimp only at hSw); go_simp); try with_reducible rfl))
    try simp only [Act.put, List.setIfInBounds_toArray, List.set_cons_zero, List.set_cons_succ]
    refine wpAnyH_takeL (i := 2) (v := ?_) rfl (by kernel_rfl) (by kernel_rfl) (by kernel_rfl) (fun _ _ _ h => h) ?_ (by assumption) ?_; rotate_left; focus (first | (refine Or.inr ⟨by rfl, ?_⟩; with_reducible rfl) | (refine Or.inl ⟨by rfl, ?_⟩; (intro w hSw; (try dsimp only at hSw); go_simp); try with_reducible rfl))
    try simp only [Act.put, List.setIfInBounds_toArray, List.set_cons_zero, List.set_cons_succ]
    refine wpAnyH_takeL (i := 3) (v := ?_) rfl (by kernel_rfl) (by kernel_rfl) (by kernel_rfl) (fun _ _ _ h => h) ?_ (by assumption) ?_; rotate_left; focus (first | (refine Or.inr ⟨by rfl, ?_⟩; with_reducible rfl) | (refine Or.inl ⟨by rfl, ?_⟩; (intro w hSw; (try dsimp only at hSw); go_simp); try with_reducible rfl))
    try simp only [Act.put, List.setIfInBounds_toArray, List.set_cons_zero, List.set_cons_succ]
    refine wpAnyH_oneL (i := 4) rfl (by kernel_rfl) ?_
    intro K hK
    rw [if_pos (by rfl)]
    go_simp
    go_at_call 21
    have H1d := H1.out.drew (n := 1)
    refine (half_cut (w1 := w1.drew) H1d 1 p id).mono ?_
    have hcu : d.cut 1 p = (R, r) := HCU.out
    rw [hcu]
    rintro e w2 ⟨rfl, h2⟩
    have hS2 : w2.cell? ⟨bl, 0, none⟩ = some (.pointer (some ⟨x, 0, none⟩)) ∧ w2.cell? ⟨bd, 0, none⟩ = some (.pointer (some ⟨c, 0, none⟩)) ∧ w2.cell? ⟨bb, 0, none⟩ = some (.int .i64 1) ∧ w2.cell? ⟨ba, 0, none⟩ = some (.int .i64 p) := ⟨h2.boxes.l, h2.boxes.d, h2.boxes.b, h2.boxes.a⟩
    have H2 := Lib.hid h2
    clear h2 hcu
    refine hK _ _ hS2 ?_
    clear hK K
    refine wpAnyH_oneL (i := 5) rfl (by kernel_rfl) ?_
    intro K hK
    rw [if_pos (by rfl)]
    go_simp
    go_at_call 78
    by_cases hr0 : r = 0
    · subst hr0
      have hRd : d.dead = false → R.dead = false := fun h0 => by
        have := cut_dead (d := d) (f := DS.fi true) (n := p) (by rw [HCU.out]) h0
        rwa [HCU.out] at this
      refine (must_ok _ _).mono ?_
      rintro e w3 ⟨rfl, rfl⟩
      refine hK _ _ hS2 ?_
      clear hK K
      try simp only [Act.put, List.setIfInBounds_toArray, List.set_cons_zero, List.set_cons_succ]
      refine wpAnyH_done (by kernel_rfl) ?_ _
      clear hS0 hS2
      obtain ⟨hhk, hhc⟩ : Hid (F0 = [] → Wal.cuts d true p = (R, 0)) ∧ Hid (F0 ≠ [] → Wal.cuts d true p = R.cut (DS.fi false) 0) := ⟨Lib.hid (fun h0 => by unfold Wal.cuts Wal.cutOther; rw [HR.out, if_neg (fun h => h rfl)]; show (if d.file false ≠ [] then _ else _) = _; rw [HK.out, if_neg (fun h => h h0)]), Lib.hid (fun h0 => by unfold Wal.cuts Wal.cutOther; rw [HR.out, if_neg (fun h => h rfl)]; show (if d.file false ≠ [] then _ else _) = _; rw [HK.out, if_pos h0]; rfl)⟩
      have ef := H2.out.boxes.fs
      have eo : w2.cell? ⟨bo, 0, none⟩ = some (.int .i64 0) := H2.out.boxes.o
      have ek := H2.out.boxes.f0
      clear HR HG HK
      cases F0 with
      | nil =>
        have HC := Lib.hid (hhk.out rfl)
        clear hhk hhc
        go_wp2_with fail
        go_end0
        rw [HC.out]
        exact ⟨.inl ⟨rfl, rfl⟩, H2.out.worked⟩
      | cons y ys =>
        have HC := Lib.hid (hhc.out (by simp))
        clear hhk hhc
        obtain ⟨R2, r2, hR2⟩ : ∃ R2 r2, R.cut (DS.fi false) 0 = (R2, r2) := ⟨_, _, rfl⟩
        have hcu2 : R.cut 0 0 = (R2, r2) := hR2
        rw [hR2] at HC
        clear hR2
        go_wp2_with fail
        clear ef eo ek
        have hS3 : w2.drew.cell? ⟨bl, 0, none⟩ = some (.pointer (some ⟨x, 0, none⟩)) ∧ w2.drew.cell? ⟨bd, 0, none⟩ = some (.pointer (some ⟨c, 0, none⟩)) ∧ w2.drew.cell? ⟨bo, 0, none⟩ = some (.int .i64 0) := ⟨H2.out.boxes.l, H2.out.boxes.d, H2.out.boxes.o⟩
        refine wp_region_heldL (S := fun w' => w'.cell? ⟨bl, 0, none⟩ = some (.pointer (some ⟨x, 0, none⟩)) ∧ w'.cell? ⟨bd, 0, none⟩ = some (.pointer (some ⟨c, 0, none⟩)) ∧ w'.cell? ⟨bo, 0, none⟩ = some (.int .i64 0)) (by kernel_rfl) ?_
        refine wpAnyH_takeL (i := 0) (v := ?_) rfl (by kernel_rfl) (by kernel_rfl) (by kernel_rfl) (fun _ _ _ h => h) ?_ (by assumption) ?_; rotate_left; focus (first | (refine Or.inr ⟨by rfl, ?_⟩; with_reducible rfl) | (refine Or.inl ⟨by rfl, ?_⟩; (intro w hSw; (try dsimp only at hSw); go_simp); try with_reducible rfl))
        try simp only [Act.put, List.setIfInBounds_toArray, List.set_cons_zero, List.set_cons_succ]
        refine wpAnyH_takeL (i := 1) (v := ?_) rfl (by kernel_rfl) (by kernel_rfl) (by kernel_rfl) (fun _ _ _ h => h) ?_ (by assumption) ?_; rotate_left; focus (first | (refine Or.inr ⟨by rfl, ?_⟩; with_reducible rfl) | (refine Or.inl ⟨by rfl, ?_⟩; (intro w hSw; (try dsimp only at hSw); go_simp); try with_reducible rfl))
        try simp only [Act.put, List.setIfInBounds_toArray, List.set_cons_zero, List.set_cons_succ]
        refine wpAnyH_takeL (i := 2) (v := ?_) rfl (by kernel_rfl) (by kernel_rfl) (by kernel_rfl) (fun _ _ _ h => h) ?_ (by assumption) ?_; rotate_left; focus (first | (refine Or.inr ⟨by rfl, ?_⟩; with_reducible rfl) | (refine Or.inl ⟨by rfl, ?_⟩; (intro w hSw; (try dsimp only at hSw); go_simp); try with_reducible rfl))
        try simp only [Act.put, List.setIfInBounds_toArray, List.set_cons_zero, List.set_cons_succ]
        refine wpAnyH_oneL (i := 3) rfl (by kernel_rfl) ?_
        intro K hK
        rw [if_pos (by rfl)]
        go_simp
        go_at_call 21
        have H2d := H2.out.drew (n := 1)
        refine (half_cut (w1 := w2.drew) H2d 0 0 hRd).mono ?_
        rw [hcu2]
        rintro e w4 ⟨rfl, h4⟩
        have hS4 : w4.cell? ⟨bl, 0, none⟩ = some (.pointer (some ⟨x, 0, none⟩)) ∧ w4.cell? ⟨bd, 0, none⟩ = some (.pointer (some ⟨c, 0, none⟩)) ∧ w4.cell? ⟨bo, 0, none⟩ = some (.int .i64 0) := ⟨h4.boxes.l, h4.boxes.d, h4.boxes.o⟩
        have H4 := Lib.hid h4
        clear h4 hcu2 H2d
        refine hK _ _ hS4 ?_
        clear hK K
        refine wpAnyH_oneL (i := 4) rfl (by kernel_rfl) ?_
        intro K hK
        rw [if_pos (by rfl)]
        go_simp
        go_at_call 78
        by_cases hr2 : r2 = 0
        · subst hr2
          refine (must_ok _ _).mono ?_
          rintro e w5 ⟨rfl, rfl⟩
          refine hK _ _ hS4 ?_
          clear hK K
          try simp only [Act.put, List.setIfInBounds_toArray, List.set_cons_zero, List.set_cons_succ]
          refine wpAnyH_done (by kernel_rfl) ?_ _
          go_wp2_with fail
          go_end0
          rw [HC.out]
          exact ⟨.inl ⟨rfl, rfl⟩, H4.out.worked⟩
        · refine (must_bad _ r2 hr2 _).mono ?_
          rintro e w5 ⟨rfl, rfl⟩
          refine ⟨rfl, ?_⟩
          rw [HC.out]
          exact ⟨.inr ⟨hr2, rfl⟩, H4.out.worked⟩
    · refine (must_bad _ r hr0 _).mono ?_
      rintro e w3 ⟨rfl, rfl⟩
      have hcc : Wal.cuts d true p = (R, r) := by unfold Wal.cuts; rw [HR.out, if_pos hr0]
      refine ⟨rfl, ?_⟩
      rw [hcc]
      exact ⟨.inr ⟨hr0, rfl⟩, H2.out.worked⟩
  · have hE : (d, (0 : Int)) = (R, r) := by have := HR.out; unfold Wal.cutEnd at this; rwa [HG.out, if_neg hp] at this
    obtain ⟨rfl, rfl⟩ := Prod.mk.inj hE
    have hRd : d.dead = false → d.dead = false := id
    have H2 := H1
    clear hE
    obtain ⟨hhk, hhc⟩ : Hid (F0 = [] → Wal.cuts d true p = (d, 0)) ∧ Hid (F0 ≠ [] → Wal.cuts d true p = d.cut (DS.fi false) 0) := ⟨Lib.hid (fun h0 => by unfold Wal.cuts Wal.cutOther; rw [HR.out, if_neg (fun h => h rfl)]; show (if d.file false ≠ [] then _ else _) = _; rw [HK.out, if_neg (fun h => h h0)]), Lib.hid (fun h0 => by unfold Wal.cuts Wal.cutOther; rw [HR.out, if_neg (fun h => h rfl)]; show (if d.file false ≠ [] then _ else _) = _; rw [HK.out, if_pos h0]; rfl)⟩
    have ef := H2.out.boxes.fs
    have eo : w1.cell? ⟨bo, 0, none⟩ = some (.int .i64 0) := H2.out.boxes.o
    have ek := H2.out.boxes.f0
    clear HR HG HK
    cases F0 with
    | nil =>
      have HC := Lib.hid (hhk.out rfl)
      clear hhk hhc
      go_wp2_with fail
      go_end0
      rw [HC.out]
      exact ⟨.inl ⟨rfl, rfl⟩, H2.out.worked⟩
    | cons y ys =>
      have HC := Lib.hid (hhc.out (by simp))
      clear hhk hhc
      obtain ⟨R2, r2, hR2⟩ : ∃ R2 r2, d.cut (DS.fi false) 0 = (R2, r2) := ⟨_, _, rfl⟩
      have hcu2 : d.cut 0 0 = (R2, r2) := hR2
      rw [hR2] at HC
      clear hR2
      go_wp2_with fail
      clear ef eo ek
      have hS3 : w1.drew.cell? ⟨bl, 0, none⟩ = some (.pointer (some ⟨x, 0, none⟩)) ∧ w1.drew.cell? ⟨bd, 0, none⟩ = some (.pointer (some ⟨c, 0, none⟩)) ∧ w1.drew.cell? ⟨bo, 0, none⟩ = some (.int .i64 0) := ⟨H2.out.boxes.l, H2.out.boxes.d, H2.out.boxes.o⟩
      refine wp_region_heldL (S := fun w' => w'.cell? ⟨bl, 0, none⟩ = some (.pointer (some ⟨x, 0, none⟩)) ∧ w'.cell? ⟨bd, 0, none⟩ = some (.pointer (some ⟨c, 0, none⟩)) ∧ w'.cell? ⟨bo, 0, none⟩ = some (.int .i64 0)) (by kernel_rfl) ?_
      refine wpAnyH_takeL (i := 0) (v := ?_) rfl (by kernel_rfl) (by kernel_rfl) (by kernel_rfl) (fun _ _ _ h => h) ?_ (by assumption) ?_; rotate_left; focus (first | (refine Or.inr ⟨by rfl, ?_⟩; with_reducible rfl) | (refine Or.inl ⟨by rfl, ?_⟩; (intro w hSw; (try dsimp only at hSw); go_simp); try with_reducible rfl))
      try simp only [Act.put, List.setIfInBounds_toArray, List.set_cons_zero, List.set_cons_succ]
      refine wpAnyH_takeL (i := 1) (v := ?_) rfl (by kernel_rfl) (by kernel_rfl) (by kernel_rfl) (fun _ _ _ h => h) ?_ (by assumption) ?_; rotate_left; focus (first | (refine Or.inr ⟨by rfl, ?_⟩; with_reducible rfl) | (refine Or.inl ⟨by rfl, ?_⟩; (intro w hSw; (try dsimp only at hSw); go_simp); try with_reducible rfl))
      try simp only [Act.put, List.setIfInBounds_toArray, List.set_cons_zero, List.set_cons_succ]
      refine wpAnyH_takeL (i := 2) (v := ?_) rfl (by kernel_rfl) (by kernel_rfl) (by kernel_rfl) (fun _ _ _ h => h) ?_ (by assumption) ?_; rotate_left; focus (first | (refine Or.inr ⟨by rfl, ?_⟩; with_reducible rfl) | (refine Or.inl ⟨by rfl, ?_⟩; (intro w hSw; (try dsimp only at hSw); go_simp); try with_reducible rfl))
      try simp only [Act.put, List.setIfInBounds_toArray, List.set_cons_zero, List.set_cons_succ]
      refine wpAnyH_oneL (i := 3) rfl (by kernel_rfl) ?_
      intro K hK
      rw [if_pos (by rfl)]
      go_simp
      go_at_call 21
      have H2d := H2.out.drew (n := 1)
      refine (half_cut (w1 := w1.drew) H2d 0 0 hRd).mono ?_
      rw [hcu2]
      rintro e w4 ⟨rfl, h4⟩
      have hS4 : w4.cell? ⟨bl, 0, none⟩ = some (.pointer (some ⟨x, 0, none⟩)) ∧ w4.cell? ⟨bd, 0, none⟩ = some (.pointer (some ⟨c, 0, none⟩)) ∧ w4.cell? ⟨bo, 0, none⟩ = some (.int .i64 0) := ⟨h4.boxes.l, h4.boxes.d, h4.boxes.o⟩
      have H4 := Lib.hid h4
      clear h4 hcu2 H2d
      refine hK _ _ hS4 ?_
      clear hK K
      refine wpAnyH_oneL (i := 4) rfl (by kernel_rfl) ?_
      intro K hK
      rw [if_pos (by rfl)]
      go_simp
      go_at_call 78
      by_cases hr2 : r2 = 0
      · subst hr2
        refine (must_ok _ _).mono ?_
        rintro e w5 ⟨rfl, rfl⟩
        refine hK _ _ hS4 ?_
        clear hK K
        try simp only [Act.put, List.setIfInBounds_toArray, List.set_cons_zero, List.set_cons_succ]
        refine wpAnyH_done (by kernel_rfl) ?_ _
        go_wp2_with fail
        go_end0
        rw [HC.out]
        exact ⟨.inl ⟨rfl, rfl⟩, H4.out.worked⟩
      · refine (must_bad _ r2 hr2 _).mono ?_
        rintro e w5 ⟨rfl, rfl⟩
        refine ⟨rfl, ?_⟩
        rw [HC.out]
        exact ⟨.inr ⟨hr2, rfl⟩, H4.out.worked⟩
end Go.Proofs.Ytpjpknndfhablaa
