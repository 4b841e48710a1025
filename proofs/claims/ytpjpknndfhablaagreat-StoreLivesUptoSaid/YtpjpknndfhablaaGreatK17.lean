/- The program's transactions: Begin, Put, Delete, Abort, Get, Scan. What a commit needs: lengths of changes and their record; a checkpoint that went well leaves the disk alive; two pieces of work on a store, one behind the other. -/
import Derived.Test.YtpjpknndfhablaaGreatK16
namespace Go.Proofs.YtpjpknndfhablaaGreat
open Go.RowKit Go.Shelf
/-- A transaction lies in block y: of the store in block x; what it sees in map pm (none: it is over), what there was in map wm. -/
structure TxAt (w : World) (x y : Nat) (pm : Option Nat) (wm : Nat) (t : TS) : Prop where
  blk : w.heap[y]? = some (txBlock (.pointer (some ⟨x, 0, none⟩)) pm (some wm) (.int .i64 t.turn) (.bool t.over))
  now : MapO w pm t.now
  was : MapAt w wm t.was
  gnow : Sto.Good t.now
  gwas : Sto.Good t.was
  over : pm.isNone = t.over
  apart : pm ≠ some wm
theorem TxAt.touch {S : Nat → Prop} {w w' : World} {x y wm : Nat} {pm : Option Nat} {t : TS} (h : TxAt w x y pm wm t) (ht : Touch S w w') (h1 : ¬ S y) (h2 : ¬ S wm) (h3 : ∀ b, pm = some b → ¬ S b) : TxAt w' x y pm wm t :=
  ⟨(ht.block y (heap_lt h.blk) h1).trans h.blk, h.now.touch ht h3, h.was.touch ht h2, h.gnow, h.gwas, h.over, h.apart⟩
theorem TxAt.below {w w' : World} {x y wm : Nat} {pm : Option Nat} {t : TS} (h : TxAt w x y pm wm t) (hb : Below w.heap.size w w') : TxAt w' x y pm wm t :=
  h.touch (Touch.of_below (S := fun _ => False) hb) (fun h => h) (fun h => h) (fun _ _ h => h)
theorem TxAt.off {w : World} {x y wm pb : Nat} {t : TS} (h : TxAt w x y (some pb) wm t) : y ≠ pb ∧ y ≠ wm ∧ wm ≠ pb := by
  refine ⟨fun e => ?_, fun e => ?_, fun e => h.apart (by rw [e])⟩
  · obtain ⟨es, cl, h4⟩ := MapAt.isMap (l := t.now) h.now
    rw [← e, h.blk] at h4
    cases h4
  · obtain ⟨es, cl, h4⟩ := h.was.isMap
    rw [← e, h.blk] at h4
    cases h4
/-- Behind a change of what it sees. -/
theorem TxAt.turned {w w' : World} {x y wm pb : Nat} {t : TS} {l : Sto.Pairs} (h : TxAt w x y (some pb) wm t) (hm : MapAt w' pb l) (hg : w.grownBy w' (some pb)) (hl : Sto.Good l) : TxAt w' x y (some pb) wm { t with now := l } ∧ Touch (fun b => some pb = some b) w w' := by
  obtain ⟨a1, a2, a3⟩ := h.off
  have ht := touch_of_grown hg
  exact ⟨⟨(ht.block y (heap_lt h.blk) (fun e => a1 (Option.some.inj e).symm)).trans h.blk, hm, h.was.touch ht (fun e => a3 (Option.some.inj e).symm), hl, h.gwas, h.over, h.apart⟩, ht⟩
theorem mapclone_any (b : Nat) (l : Sto.Pairs) (w : World) (h : MapAt w b l) :
    Calls Tryz.prog 61 #[.map (some b)] w fun e w' => e = .returned (.map (some w.heap.size)) ∧ MapAt w' w.heap.size l ∧ Below w.heap.size w w' :=
  Calls.mono (AnyW.maps_Clone_owns Tryz.clone 9 _ b _ _ w h) fun _ _ ⟨h1, h2, _, h3⟩ => ⟨h1, MapAt.of h2, h3⟩
set_option maxHeartbeats 2000000 in
set_option maxRecDepth 100000 in
theorem begin11_any (x lg c mb : Nat) (w : World) (s : SS) (h : StoAt w x lg c mb s) :
    Calls Tryz.prog 23 #[.pointer (some ⟨x, 0, none⟩)] w fun e w' => ∃ y pm wm, e = .returned (.pointer (some ⟨y, 0, none⟩)) ∧ TxAt w' x y (some pm) wm s.begin_ ∧ w.heap.size ≤ y ∧ w.heap.size ≤ pm ∧ w.heap.size ≤ wm ∧ Below w.heap.size w w' := by
  have HS := Lib.hid h
  clear h
  go_enter Tryz.func23, Tryz.ntmps23
  go_wp2_with fail
  have hS0 : w.drew.cell? ⟨x, 1, none⟩ = some (.map (some mb)) ∧ w.drew.cell? ⟨x, 3, none⟩ = some (.int .i64 s.turn) := ⟨HS.out.cells.2.1, HS.out.cells.2.2.2.1⟩
  refine wp_region_heldL (S := fun w' => w'.cell? ⟨x, 1, none⟩ = some (.map (some mb)) ∧ w'.cell? ⟨x, 3, none⟩ = some (.int .i64 s.turn)) (by kernel_rfl) ?_
  refine wpAnyH_takeL (i := 0) (v := ?_) rfl (by kernel_rfl) (by kernel_rfl) (by kernel_rfl) (fun _ _ _ h => h) ?_ (by assumption) ?_; rotate_left; focus (first | (refine Or.inr ⟨by rfl, ?_⟩; with_reducible rfl) | (refine Or.inl ⟨by rfl, ?_⟩; (intro w hSw; (try dsimp only at hSw); go_simp); try with_reducible rfl))
  try simp only [Act.put, List.setIfInBounds_toArray, List.set_cons_zero, List.set_cons_succ]
  refine wpAnyH_takeL (i := 1) (v := ?_) rfl (by kernel_rfl) (by kernel_rfl) (by kernel_rfl) (fun _ _ _ h => h) ?_ (by assumption) ?_; rotate_left; focus (first | (refine Or.inr ⟨by rfl, ?_⟩; with_reducible rfl) | (refine Or.inl ⟨by rfl, ?_⟩; (intro w hSw; (try dsimp only at hSw); go_simp); try with_reducible rfl))
  try simp only [Act.put, List.setIfInBounds_toArray, List.set_cons_zero, List.set_cons_succ]
  refine wpAnyH_takeL (i := 2) (v := ?_) rfl (by kernel_rfl) (by kernel_rfl) (by kernel_rfl) (fun _ _ _ h => h) ?_ (by assumption) ?_; rotate_left; focus (first | (refine Or.inr ⟨by rfl, ?_⟩; with_reducible rfl) | (refine Or.inl ⟨by rfl, ?_⟩; (intro w hSw; (try dsimp only at hSw); go_simp); try with_reducible rfl))
  try simp only [Act.put, List.setIfInBounds_toArray, List.set_cons_zero, List.set_cons_succ]
  refine wpAnyH_takeL (i := 3) (v := ?_) rfl (by kernel_rfl) (by kernel_rfl) (by kernel_rfl) (fun _ _ _ h => h) ?_ (by assumption) ?_; rotate_left; focus (first | (refine Or.inr ⟨by rfl, ?_⟩; with_reducible rfl) | (refine Or.inl ⟨by rfl, ?_⟩; (intro w hSw; (try dsimp only at hSw); go_simp); try with_reducible rfl))
  try simp only [Act.put, List.setIfInBounds_toArray, List.set_cons_zero, List.set_cons_succ]
  refine wpAnyH_takeL (i := 4) (v := ?_) rfl (by kernel_rfl) (by kernel_rfl) (by kernel_rfl) (fun _ _ _ h => h) ?_ (by assumption) ?_; rotate_left; focus (first | (refine Or.inr ⟨by rfl, ?_⟩; with_reducible rfl) | (refine Or.inl ⟨by rfl, ?_⟩; (intro w hSw; (try dsimp only at hSw); go_simp); try with_reducible rfl))
  try simp only [Act.put, List.setIfInBounds_toArray, List.set_cons_zero, List.set_cons_succ]
  refine wpAnyH_takeL (i := 6) (v := ?_) rfl (by kernel_rfl) (by kernel_rfl) (by kernel_rfl) (fun _ _ _ h => h) ?_ (by assumption) ?_; rotate_left; focus (first | (refine Or.inr ⟨by rfl, ?_⟩; with_reducible rfl) | (refine Or.inl ⟨by rfl, ?_⟩; (intro w hSw; (try dsimp only at hSw); go_simp); try with_reducible rfl))
  try simp only [Act.put, List.setIfInBounds_toArray, List.set_cons_zero, List.set_cons_succ]
  refine wpAnyH_takeL (i := 7) (v := ?_) rfl (by kernel_rfl) (by kernel_rfl) (by kernel_rfl) (fun _ _ _ h => h) ?_ (by assumption) ?_; rotate_left; focus (first | (refine Or.inr ⟨by rfl, ?_⟩; with_reducible rfl) | (refine Or.inl ⟨by rfl, ?_⟩; (intro w hSw; (try dsimp only at hSw); go_simp); try with_reducible rfl))
  try simp only [Act.put, List.setIfInBounds_toArray, List.set_cons_zero, List.set_cons_succ]
  refine wpAnyH_takeL (i := 8) (v := ?_) rfl (by kernel_rfl) (by kernel_rfl) (by kernel_rfl) (fun _ _ _ h => h) ?_ (by assumption) ?_; rotate_left; focus (first | (refine Or.inr ⟨by rfl, ?_⟩; with_reducible rfl) | (refine Or.inl ⟨by rfl, ?_⟩; (intro w hSw; (try dsimp only at hSw); go_simp); try with_reducible rfl))
  try simp only [Act.put, List.setIfInBounds_toArray, List.set_cons_zero, List.set_cons_succ]
  refine wpAnyH_takeL (i := 9) (v := ?_) rfl (by kernel_rfl) (by kernel_rfl) (by kernel_rfl) (fun _ _ _ h => h) ?_ (by assumption) ?_; rotate_left; focus (first | (refine Or.inr ⟨by rfl, ?_⟩; with_reducible rfl) | (refine Or.inl ⟨by rfl, ?_⟩; (intro w hSw; (try dsimp only at hSw); go_simp); try with_reducible rfl))
  try simp only [Act.put, List.setIfInBounds_toArray, List.set_cons_zero, List.set_cons_succ]
  refine wpAnyH_takeL (i := 11) (v := ?_) rfl (by kernel_rfl) (by kernel_rfl) (by kernel_rfl) (fun _ _ _ h => h) ?_ (by assumption) ?_; rotate_left; focus (first | (refine Or.inr ⟨by rfl, ?_⟩; with_reducible rfl) | (refine Or.inl ⟨by rfl, ?_⟩; (intro w hSw; (try dsimp only at hSw); go_simp); try with_reducible rfl))
  try simp only [Act.put, List.setIfInBounds_toArray, List.set_cons_zero, List.set_cons_succ]
  refine wpAnyH_takeL (i := 12) (v := ?_) rfl (by kernel_rfl) (by kernel_rfl) (by kernel_rfl) (fun _ _ _ h => h) ?_ (by assumption) ?_; rotate_left; focus (first | (refine Or.inr ⟨by rfl, ?_⟩; with_reducible rfl) | (refine Or.inl ⟨by rfl, ?_⟩; (intro w hSw; (try dsimp only at hSw); go_simp); try with_reducible rfl))
  try simp only [Act.put, List.setIfInBounds_toArray, List.set_cons_zero, List.set_cons_succ]
  refine wpAnyH_takeL (i := 13) (v := ?_) rfl (by kernel_rfl) (by kernel_rfl) (by kernel_rfl) (fun _ _ _ h => h) ?_ (by assumption) ?_; rotate_left; focus (first | (refine Or.inr ⟨by rfl, ?_⟩; with_reducible rfl) | (refine Or.inl ⟨by rfl, ?_⟩; (intro w hSw; (try dsimp only at hSw); go_simp); try with_reducible rfl))
  try simp only [Act.put, List.setIfInBounds_toArray, List.set_cons_zero, List.set_cons_succ]
  refine wpAnyH_takeL (i := 14) (v := ?_) rfl (by kernel_rfl) (by kernel_rfl) (by kernel_rfl) (fun _ _ _ h => h) ?_ (by assumption) ?_; rotate_left; focus (first | (refine Or.inr ⟨by rfl, ?_⟩; with_reducible rfl) | (refine Or.inl ⟨by rfl, ?_⟩; (intro w hSw; (try dsimp only at hSw); go_simp); try with_reducible rfl))
  try simp only [Act.put, List.setIfInBounds_toArray, List.set_cons_zero, List.set_cons_succ]
  refine wpAnyH_oneL (i := 5) rfl (by kernel_rfl) ?_
  intro K hK
  rw [if_pos (by rfl)]
  go_simp
  go_at_call 61
  refine (mapclone_any mb s.ps w.drew HS.out.map).mono ?_
  rintro e w1 ⟨rfl, m1, b1⟩
  have HB1 := Lib.hid (bthen ((Below.refl _ w).drew) b1)
  have HM1 := Lib.hid m1
  have hS1 : w1.cell? ⟨x, 1, none⟩ = some (.map (some mb)) ∧ w1.cell? ⟨x, 3, none⟩ = some (.int .i64 s.turn) := ⟨cell_later b1 hS0.1, cell_later b1 hS0.2⟩
  obtain ⟨p1, hp1⟩ : ∃ p, w.drew.heap.size = p := ⟨_, rfl⟩
  have HL1 : Hid (w.heap.size = p1) := Lib.hid hp1
  rw [hp1] at HM1 ⊢
  clear b1 m1 hp1
  refine hK _ _ hS1 ?_
  clear hK K
  try simp only [Act.put, List.setIfInBounds_toArray, List.set_cons_zero, List.set_cons_succ]
  refine wpAnyH_oneL (i := 10) rfl (by kernel_rfl) ?_
  intro K hK
  rw [if_pos (by rfl)]
  go_simp
  go_at_call 61
  refine (mapclone_any mb s.ps w1 (HS.out.map.below HB1.out)).mono ?_
  rintro e w2 ⟨rfl, m2, b2⟩
  have HB2 := Lib.hid (bthen HB1.out b2)
  have HM2 := Lib.hid (HM1.out.below b2)
  have HW2 := Lib.hid m2
  have hS2 : w2.cell? ⟨x, 1, none⟩ = some (.map (some mb)) ∧ w2.cell? ⟨x, 3, none⟩ = some (.int .i64 s.turn) := ⟨cell_later b2 hS1.1, cell_later b2 hS1.2⟩
  obtain ⟨p2, hp2⟩ : ∃ p, w1.heap.size = p := ⟨_, rfl⟩
  have HL2 : Hid (w.heap.size ≤ p2 ∧ p1 < p2) := Lib.hid (by rw [← hp2]; exact ⟨HB1.out.size, HM1.out.lt⟩)
  rw [hp2] at HW2 ⊢
  clear b2 m2 hp2
  refine hK _ _ hS2 ?_
  clear hK K
  try simp only [Act.put, List.setIfInBounds_toArray, List.set_cons_zero, List.set_cons_succ]
  refine wpAnyH_takeL (i := 15) (v := ?_) rfl (by kernel_rfl) (by kernel_rfl) (by kernel_rfl) (fun _ _ _ h => h) ?_ (by assumption) ?_; rotate_left; focus (first | (refine Or.inr ⟨by rfl, ?_⟩; with_reducible rfl) | (refine Or.inl ⟨by rfl, ?_⟩; (intro w hSw; (try dsimp only at hSw); go_simp); try with_reducible rfl))
  try simp only [Act.put, List.setIfInBounds_toArray, List.set_cons_zero, List.set_cons_succ]
  refine wpAnyH_oneL (i := 16) rfl (by kernel_rfl) ?_
  intro K hK
  rw [if_pos (by rfl)]
  go_simp
  have b3 := balloc w2 (txBlock (.pointer (some ⟨x, 0, none⟩)) (some p1) (some p2) (.int .i64 s.turn) (.bool false))
  have H3 := heap_new w2 (txBlock (.pointer (some ⟨x, 0, none⟩)) (some p1) (some p2) (.int .i64 s.turn) (.bool false))
  have HY : Hid (w.heap.size ≤ w2.heap.size) := Lib.hid HB2.out.size
  unfold txBlock at b3 H3
  obtain ⟨y, hy⟩ : ∃ y, w2.heap.size = y := ⟨_, rfl⟩
  rw [hy] at H3 HY ⊢
  obtain ⟨w3, hw3⟩ : ∃ w, w2.alloc (.cells #[.pointer (some ⟨x, 0, none⟩), .map (some p1), .map (some p2), .int .i64 s.turn, .bool false] 131 (0, 0)) = w := ⟨_, rfl⟩
  rw [hw3] at b3 H3 ⊢
  have HN3 := Lib.hid H3
  have HB3 := Lib.hid (bthen HB2.out b3)
  have HP3 := Lib.hid (HM2.out.below b3)
  have HW3 := Lib.hid (HW2.out.below b3)
  have hS3 : w3.cell? ⟨x, 1, none⟩ = some (.map (some mb)) ∧ w3.cell? ⟨x, 3, none⟩ = some (.int .i64 s.turn) := ⟨cell_later b3 hS2.1, cell_later b3 hS2.2⟩
  clear hw3 hy H3 b3
  refine hK _ _ hS3 ?_
  clear hK K
  try simp only [Act.put, List.setIfInBounds_toArray, List.set_cons_zero, List.set_cons_succ]
  refine wpAnyH_takeL (i := 17) (v := ?_) rfl (by kernel_rfl) (by kernel_rfl) (by kernel_rfl) (fun _ _ _ h => h) ?_ (by assumption) ?_; rotate_left; focus (first | (refine Or.inr ⟨by rfl, ?_⟩; with_reducible rfl) | (refine Or.inl ⟨by rfl, ?_⟩; (intro w hSw; (try dsimp only at hSw); go_simp); try with_reducible rfl))
  try simp only [Act.put, List.setIfInBounds_toArray, List.set_cons_zero, List.set_cons_succ]
  refine wpAnyH_done (by kernel_rfl) ?_ _
  go_wp2
  go_ret
  have hl2 := HL2.out
  exact ⟨y, p1, p2, rfl, ⟨HN3.out, HP3.out, HW3.out, HS.out.good, HS.out.good, rfl, fun e => by have := Option.some.inj e; omega⟩, HY.out, Nat.le_of_eq HL1.out, hl2.1, HB3.out⟩
section
variable {w : World} {x y wm : Nat} {pm : Option Nat} {t : TS} (h : TxAt w x y pm wm t)
include h
set_option maxHeartbeats 2000000 in
set_option maxRecDepth 100000 in
theorem put11_any (k v : Sto.S) (hk : k.length ≤ maxLen) (hv : v.length ≤ maxLen) (hl : t.now.length < maxLen) :
    Calls Tryz.prog 24 #[.pointer (some ⟨y, 0, none⟩), .string ⟨k.toArray⟩, .string ⟨v.toArray⟩] w fun e w' => e = .returned (.int .i64 (t.put k v).2) ∧ TxAt w' x y pm wm (t.put k v).1 ∧ Touch (fun b => pm = some b) w w' := by
  obtain ⟨_, c1, _, _, c4, _, hylt⟩ := tx_cells h.blk
  have HT := Lib.hid h
  cases hov : t.over with
  | true =>
    have HX : Hid (t.put k v = (t, 114)) := Lib.hid (by unfold TS.put; rw [if_pos hov])
    rw [hov] at c4
    clear h hov
    go_enter Tryz.func24, Tryz.ntmps24
    go_wp2
    go_ret
    rw [HX.out]
    exact ⟨rfl, HT.out, Touch.refl _ _⟩
  | false =>
    rw [hov] at c4
    have HO := Lib.hid hov
    have hpo := h.over
    rw [hov] at hpo
    obtain ⟨pb, rfl⟩ : ∃ pb, pm = some pb := by cases pm with | none => cases hpo | some pb => exact ⟨pb, rfl⟩
    clear h hov hpo
    have HK := Lib.hid (key_any k w)
    have HV := Lib.hid (value11_any v w)
    cases hkk : Sto.keyOk k with
    | false =>
      have HX : Hid (t.put k v = (t, 111)) := Lib.hid (by unfold TS.put; rw [if_neg (by rw [HO.out]; exact Bool.false_ne_true), if_pos hkk])
      rw [hkk] at HK
      clear hkk
      go_enter Tryz.func24, Tryz.ntmps24
      go_wp2_with (refine HK.out.mono ?_; rintro e w1 ⟨rfl, rfl⟩)
      go_ret
      rw [HX.out]
      exact ⟨rfl, HT.out, Touch.refl _ _⟩
    | true =>
      rw [hkk] at HK
      cases hvv : Sto.valueOk v with
      | false =>
        have HX : Hid (t.put k v = (t, 112)) := Lib.hid (by unfold TS.put; rw [if_neg (by rw [HO.out]; exact Bool.false_ne_true), if_neg (by rw [hkk]; decide), if_pos hvv])
        rw [hvv] at HV
        clear hkk hvv
        go_enter Tryz.func24, Tryz.ntmps24
        go_wp2_with (first | (go_at_call 62; refine HK.out.mono ?_; rintro e w1 ⟨rfl, rfl⟩) | (go_at_call 63; refine HV.out.mono ?_; rintro e w1 ⟨rfl, rfl⟩))
        go_ret
        rw [HX.out]
        exact ⟨rfl, HT.out, Touch.refl _ _⟩
      | true =>
        have HX : Hid (t.put k v = ({ t with now := Sto.put t.now k v }, 0)) := Lib.hid (by unfold TS.put; rw [if_neg (by rw [HO.out]; exact Bool.false_ne_true), if_neg (by rw [hkk]; decide), if_neg (by rw [hvv]; decide)])
        rw [hvv] at HV
        have HG := Lib.hid (HT.out.gnow.put hkk hvv)
        clear hkk hvv
        obtain ⟨z, hrun, hz, hgz⟩ := MapAt.put (l := t.now) HT.out.now HT.out.gnow.rise hl k v hk hv
        have HZ := Lib.hid (HT.out.turned hz hgz HG.out)
        clear hz hgz
        go_enter Tryz.func24, Tryz.ntmps24
        go_wp2_with (first | (go_at_call 62; refine HK.out.mono ?_; rintro e w1 ⟨rfl, rfl⟩) | (go_at_call 63; refine HV.out.mono ?_; rintro e w1 ⟨rfl, rfl⟩))
        go_ret
        rw [HX.out]
        exact ⟨rfl, HZ.out⟩
set_option maxHeartbeats 2000000 in
set_option maxRecDepth 100000 in
theorem delete11_any (k : Sto.S) (hk : k.length ≤ maxLen) :
    Calls Tryz.prog 25 #[.pointer (some ⟨y, 0, none⟩), .string ⟨k.toArray⟩] w fun e w' => e = .returned (.int .i64 (t.del k).2) ∧ TxAt w' x y pm wm (t.del k).1 ∧ Touch (fun b => pm = some b) w w' := by
  obtain ⟨_, c1, _, _, c4, _, hylt⟩ := tx_cells h.blk
  have HT := Lib.hid h
  cases hov : t.over with
  | true =>
    have HX : Hid (t.del k = (t, 114)) := Lib.hid (by unfold TS.del; rw [if_pos hov])
    rw [hov] at c4
    clear h hov
    go_enter Tryz.func25, Tryz.ntmps25
    go_wp2
    go_ret
    rw [HX.out]
    exact ⟨rfl, HT.out, Touch.refl _ _⟩
  | false =>
    rw [hov] at c4
    have HO := Lib.hid hov
    have hpo := h.over
    rw [hov] at hpo
    obtain ⟨pb, rfl⟩ : ∃ pb, pm = some pb := by cases pm with | none => cases hpo | some pb => exact ⟨pb, rfl⟩
    clear h hov hpo
    have HK := Lib.hid (key_any k w)
    cases hkk : Sto.keyOk k with
    | false =>
      have HX : Hid (t.del k = (t, 111)) := Lib.hid (by unfold TS.del; rw [if_neg (by rw [HO.out]; exact Bool.false_ne_true), if_pos hkk])
      rw [hkk] at HK
      clear hkk
      go_enter Tryz.func25, Tryz.ntmps25
      go_wp2_with (refine HK.out.mono ?_; rintro e w1 ⟨rfl, rfl⟩)
      go_ret
      rw [HX.out]
      exact ⟨rfl, HT.out, Touch.refl _ _⟩
    | true =>
      have HX : Hid (t.del k = ({ t with now := Sto.del t.now k }, 0)) := Lib.hid (by unfold TS.del; rw [if_neg (by rw [HO.out]; exact Bool.false_ne_true), if_neg (by rw [hkk]; decide)])
      rw [hkk] at HK
      clear hkk
      obtain ⟨z, hrun, hz, hgz⟩ := MapAt.del (l := t.now) HT.out.now HT.out.gnow.rise k hk 0
      have HZ := Lib.hid (HT.out.turned hz hgz (HT.out.gnow.del k))
      clear hz hgz
      go_enter Tryz.func25, Tryz.ntmps25
      go_wp2_with (first | (go_at_call 62; refine HK.out.mono ?_; rintro e w1 ⟨rfl, rfl⟩) | (at_delete; refine wpList_delete_map _ rfl (.tmp 17) (.tmp 18) rfl pb t.now k rfl rfl HT.out.now HT.out.gnow.rise hk ?_; intro w1 hm1 hg1; have HY := Lib.hid (HT.out.turned hm1 hg1 (HT.out.gnow.del k)); clear hm1 hg1))
      go_ret
      rw [HX.out]
      exact ⟨rfl, HY.out⟩
set_option maxHeartbeats 1000000 in
theorem ends11_any : Calls Tryz.prog 65 #[.pointer (some ⟨y, 0, none⟩)] w fun e w' => e = .returned (.tuple #[]) ∧ TxAt w' x y none wm t.ends ∧ Touch (· = y) w w' := by
  obtain ⟨_, c1, _, _, c4, cf, hylt⟩ := tx_cells h.blk
  have cf1 := cf 1
  have cf4 := cf 4
  have key : ((w.setCell ⟨y, 4, none⟩ (.bool true)).setCell ⟨y, 1, none⟩ (.map none)).heap[y]? = some (txBlock (.pointer (some ⟨x, 0, none⟩)) none (some wm) (.int .i64 t.turn) (.bool true)) := by
    have h1 := heap_set (i := 4) (.bool true) h.blk
    have := heap_set (i := 1) (.map none) h1
    simpa [txBlock] using this
  have ht := ((Touch.refl (· = y) w).setCell (a := ⟨y, 4, none⟩) (.bool true) (fun _ => rfl)).setCell (a := ⟨y, 1, none⟩) (.map none) (fun _ => rfl)
  have hwy : wm ≠ y := fun e => by
    obtain ⟨es, cl, h4⟩ := h.was.isMap
    rw [e, h.blk] at h4
    cases h4
  have HZ : Hid (TxAt ((w.setCell ⟨y, 4, none⟩ (.bool true)).setCell ⟨y, 1, none⟩ (.map none)) x y none wm t.ends) := Lib.hid ⟨key, rfl, h.was.touch ht hwy, Sto.Good.nil, h.gwas, rfl, fun e => by cases e⟩
  have HTT := Lib.hid ht
  clear h key ht cf
  go_enter Tryz.func65, Tryz.ntmps65
  go_wp2
  go_end0
  exact ⟨rfl, HZ.out, HTT.out⟩
set_option maxHeartbeats 1000000 in
theorem abort11_any : Calls Tryz.prog 136 #[.pointer (some ⟨y, 0, none⟩)] w fun e w' => e = .returned (.tuple #[]) ∧ TxAt w' x y none wm t.ends ∧ Touch (· = y) w w' := by
  have HC := Lib.hid (ends11_any h)
  clear h
  go_enter Tryz.func136, Tryz.ntmps136
  go_wp2_with (refine HC.out.mono ?_; rintro e w1 ⟨rfl, h1⟩; have H1 := Lib.hid h1; clear h1)
  go_end0
  exact ⟨rfl, H1.out⟩
set_option maxHeartbeats 1000000 in
theorem txget11_any (k : Sto.S) (hk : k.length ≤ maxLen) : Calls Tryz.prog 39 #[.pointer (some ⟨y, 0, none⟩), .string ⟨k.toArray⟩] w fun e w' => e = .returned (.tuple #[.string ⟨((Sto.get t.now k).getD []).toArray⟩, .bool (Sto.here t.now k)]) ∧ w' = w := by
  obtain ⟨_, c1, _⟩ := tx_cells h.blk
  cases pm with
  | none =>
    have hn : t.now = [] := h.now
    rw [hn]
    have hz := Tryz.zeroValue9 w
    have hlook : (Instr.lookup 101 (.map none) (.string ⟨k.toArray⟩) true).run Tryz.prog w = .ok (.tuple #[.string ⟨#[]⟩, .bool false]) w := Maps.look_nil true strKeyed Tryz.underlying101 hz (keyOf_str1 k hk)
    clear h hn hz
    go_enter Tryz.func39, Tryz.ntmps39
    go_wp2
    go_ret2
    exact ⟨rfl, rfl⟩
  | some pb =>
    have hlook := MapAt.look (l := t.now) h.now h.gnow.rise k hk
    obtain ⟨o, ho⟩ : ∃ o, (Sto.get t.now k).getD [] = o := ⟨_, rfl⟩
    obtain ⟨b, hb⟩ : ∃ b, Sto.here t.now k = b := ⟨_, rfl⟩
    rw [ho, hb] at hlook
    rw [ho, hb]
    clear h ho hb
    go_enter Tryz.func39, Tryz.ntmps39
    go_wp2
    go_ret2
    exact ⟨rfl, rfl⟩
set_option maxHeartbeats 1000000 in
theorem txscan11_any (k : Sto.S) (most : Int) (hlen : t.now.length ≤ 4398046511104) (hm1 : most ≤ 9223372036854775807) (hm2 : -9223372036854775808 ≤ most) : Calls Tryz.prog 26 #[.pointer (some ⟨y, 0, none⟩), .string ⟨k.toArray⟩, .int .i64 most] w fun e w' => ∃ v, e = .returned v ∧ PairsAt w' v (Sto.scan t.now k most.toNat) ∧ (∀ g, v.ownBlock = some g → w.heap.size ≤ g) ∧ Below w.heap.size w w' := by
  obtain ⟨_, c1, _⟩ := tx_cells h.blk
  have HSC := Lib.hid (scan_any pm t.now k most w h.gnow hlen h.now hm1 hm2)
  clear h
  go_enter Tryz.func26, Tryz.ntmps26
  go_wp2_with fail
  refine HSC.out.mono ?_
  rintro e w1 ⟨v, rfl, h1, h2, h3⟩
  have HZ := Lib.hid (And.intro h1 (And.intro h2 h3))
  clear h1 h2 h3
  go_wp2
  go_ret
  exact ⟨v, rfl, HZ.out⟩
end
end Go.Proofs.YtpjpknndfhablaaGreat
namespace Go.Proofs.YtpjpknndfhablaaGreat
open Go.RowKit Go.Shelf
namespace Sto
theorem enc1_le {c : Ch} (h : Fine c) : (enc1 c).length ≤ 4165 := by
  unfold enc1
  have h1 := (keyOk_iff.1 h.key).2
  have h2 := valueOk_iff.1 h.value
  cases c.put <;> simp [Sha.big_length] <;> omega
theorem enc_le : ∀ {c : List Ch}, (∀ x ∈ c, Fine x) → (enc c).length ≤ 4165 * c.length
  | [], _ => by simp [enc]
  | x :: r, h => by
    have ih := enc_le (c := r) (fun y hy => h y (List.mem_cons_of_mem _ hy))
    have h1 := enc1_le (h x (List.mem_cons_self ..))
    have e : enc (x :: r) = enc1 x ++ enc r := rfl
    rw [e, List.length_append, List.length_cons]
    omega
theorem encode_le {c : List Ch} (h : ∀ x ∈ c, Fine x) (count : Nat) : (encode c count).length ≤ count + 4165 * c.length := by
  unfold encode
  have := enc_le h
  rw [List.length_append, Sha.big_length]
  omega
theorem changes_len {a b : Pairs} (ha : Rise a) (hb : Rise b) : (changes a b).length ≤ a.length + b.length := by
  have h := (changes_perm a b ha hb).length_eq
  rw [← h]
  unfold putsOf delsOf
  rw [List.length_append, List.length_map, List.length_map]
  have h1 := List.length_filter_le (isPut a) b
  have h2 := List.length_filter_le (isDel b) a
  omega
end Sto
theorem cut_died {d : DS} {f n : Int} (h : (d.cut f n).2 = 0) : (d.cut f n).1.dead = d.dead := by
  unfold DS.cut at h ⊢
  split
  · rfl
  · rename_i h1
    rw [if_neg h1] at h
    split
    · rfl
    · rename_i f' hf
      rw [hf] at h
      simp only at h
      split
      · rfl
      · rename_i h2
        rw [if_neg h2] at h
        split
        · rename_i h3; rw [if_pos h3] at h; cases h
        · cases f' <;> rfl
theorem cp_died {l : Wal.LS} {d : DS} {s : List UInt8} (h : (Wal.checkpoint l d s).2.2 = 0) : (Wal.checkpoint l d s).2.1.dead = d.dead := by
  unfold Wal.checkpoint at h ⊢
  split
  · rfl
  · rename_i h1
    rw [if_neg h1] at h
    split
    · rfl
    · rename_i h2
      rw [if_neg h2] at h
      split
      · rfl
      · rename_i h3
        rw [if_neg h3] at h
        split
        · rename_i h4; rw [if_pos h4] at h; cases h
        · rename_i h4
          rw [if_neg h4] at h
          split
          · rename_i h5; rw [if_pos h5] at h; cases h
          · rename_i h5
            exact (cut_died (Classical.not_not.1 h5)).trans (lays_died (Classical.not_not.1 h4)).1
theorem own3_trans {w w1 w2 : World} {c x : Nat} {rb rb1 : Option Nat} {T : Nat → Prop} (h : Touch (fun k => own3 c rb x k ∨ T k) w w1) (hn : Newer w rb rb1) (h' : Touch (fun k => own3 c rb1 x k ∨ T k) w1 w2) : Touch (fun k => own3 c rb x k ∨ T k) w w2 :=
  h.trans h' fun k hk ho => by
    rcases ho with ((rfl | ho) | rfl) | ho
    · exact .inl (.inl (.inl rfl))
    · rcases hn k ho with h1 | h1
      · exact .inl (.inl (.inr h1))
      · omega
    · exact .inl (.inr rfl)
    · exact .inr ho
/-- Two pieces of work, one behind the other. -/
theorem SWorked.then {x lg c mb mb1 : Nat} {s2 : SS} {d d1 d2 : DS} {m2 : Nat} {rb rb1 : Option Nat} {w w1 w2 : World} (h1 : Newer w rb rb1) (hm : mb1 = mb ∨ w.heap.size ≤ mb1) (ht : Touch (fun k => own3 c rb lg k ∨ k = x) w w1)
    (hdd : d.dead = false → d1.dead = false) (h2 : SWorked x lg c mb1 s2 d1 d2 m2 rb1 w1 w2) : SWorked x lg c mb s2 d d2 m2 rb w w2 := by
  obtain ⟨⟨mb2, a1, a2⟩, ⟨rb2, b1, b2, b3⟩, c1⟩ := h2
  refine ⟨⟨mb2, a1, ?_⟩, ⟨rb2, b1, ?_, fun e1 e2 => b3 e1 (hdd e2)⟩, own3_trans ht h1 c1⟩
  · rcases a2 with rfl | a2
    · exact hm
    · exact .inr (Nat.le_trans ht.size a2)
  · intro k hk
    rcases b2 k hk with e | e
    · exact h1 k e
    · exact .inr (Nat.le_trans ht.size e)
theorem cp_few {l : Wal.LS} {d : DS} {s : List UInt8} : (Wal.checkpoint l d s).1.n ≤ l.n := by
  unfold Wal.checkpoint
  split
  · exact Nat.le_refl _
  · split
    · exact Nat.le_refl _
    · split
      · exact Nat.le_refl _
      · split
        · exact Nat.le_refl _
        · split
          · exact Nat.le_refl _
          · exact Nat.zero_le _
/-- What no work on a store turns: blocks of other types, maps. -/
theorem StoAt.far {w : World} {x lg c mb : Nat} {s : SS} (h : StoAt w x lg c mb s) {d : DS} {m : Nat} {rb : Option Nat} (hd : DiskAt w c d m rb) {k : Nat} {o : Obj} (hk : w.heap[k]? = some o) (ho : ∀ a t f, o = .cells a t f → t ≠ 103 ∧ t ∉ [89, 106, 148]) : ¬ (own3 c rb lg k ∨ k = x) := by
  rintro (e | rfl)
  · obtain ⟨a, t, f, h1, h2⟩ := h.log.typed3 hd k e
    rw [hk] at h1
    exact (ho a t f (Option.some.inj h1)).2 h2
  · have h1 := h.blk
    rw [hk] at h1
    exact (ho _ _ _ (Option.some.inj h1)).1 rfl
theorem StoAt.farMap {w : World} {x lg c mb : Nat} {s : SS} (h : StoAt w x lg c mb s) {d : DS} {m : Nat} {rb : Option Nat} (hd : DiskAt w c d m rb) {k : Nat} {l : Sto.Pairs} (hk : MapAt w k l) : ¬ (own3 c rb lg k ∨ k = x) := by
  obtain ⟨es, cl, h4⟩ := hk.isMap
  exact h.far hd h4 (fun a t f e => by cases e)
theorem TxAt.worked {w w' : World} {x lg c mb : Nat} {s : SS} (h : StoAt w x lg c mb s) {d : DS} {m : Nat} {rb : Option Nat} (hd : DiskAt w c d m rb) {z y wm : Nat} {pm : Option Nat} {t : TS} (ht : TxAt w z y pm wm t) (hw : Touch (fun k => own3 c rb lg k ∨ k = x) w w') : TxAt w' z y pm wm t := by
  refine ht.touch hw (h.far hd ht.blk (fun a t f e => ?_)) (h.farMap hd ht.was) (fun b e => ?_)
  · cases e; decide
  · subst e; exact h.farMap hd (l := t.now) ht.now
/-- On the way through a commit. -/
structure CMid (x lg c mb y wm : Nat) (pm : Option Nat) (t : TS) (d : DS) (rb : Option Nat) (w : World) (s1 : SS) (d1 : DS) (m1 mb1 : Nat) (rb1 : Option Nat) (W : World) : Prop where
  store : StoAt W x lg c mb1 s1
  mbs : mb1 = mb ∨ w.heap.size ≤ mb1
  disk : DiskAt W c d1 m1 rb1
  newer : Newer w rb rb1
  lives : d.dead = false → d1.dead = false
  touch : Touch (fun k => own3 c rb lg k ∨ (k = x ∨ k = y)) w W
  tx : TxAt W x y pm wm t
/-- What a commit leaves. -/
structure CWorked (x lg c mb y wm : Nat) (pm : Option Nat) (t : TS) (d : DS) (rb : Option Nat) (w : World) (s' : SS) (d' : DS) (m : Nat) (w' : World) : Prop where
  store : ∃ mb', StoAt w' x lg c mb' s' ∧ (mb' = mb ∨ w.heap.size ≤ mb')
  disk : ∃ rb', DiskAt w' c d' m rb' ∧ Newer w rb rb' ∧ (d'.dead = true → d.dead = false → rb' = none)
  touch : Touch (fun k => own3 c rb lg k ∨ (k = x ∨ k = y)) w w'
  tx : TxAt w' x y pm wm t
section
variable {x lg c mb y wm : Nat} {pm : Option Nat} {t : TS} {d : DS} {rb : Option Nat} {w : World} {s1 : SS} {d1 : DS} {m1 mb1 : Nat} {rb1 : Option Nat} {W : World}
theorem CMid.below (h : CMid x lg c mb y wm pm t d rb w s1 d1 m1 mb1 rb1 W) {W' : World} (hb : Below W.heap.size W W') : CMid x lg c mb y wm pm t d rb w s1 d1 m1 mb1 rb1 W' :=
  ⟨h.store.below hb, h.mbs, h.disk.below hb, h.newer, h.lives, Touch.trans h.touch (Touch.of_below hb) (fun _ _ e => e), h.tx.below hb⟩
theorem CMid.done (h : CMid x lg c mb y wm pm t d rb w s1 d1 m1 mb1 rb1 W) {m2 : Nat} (hm : m1 ≤ m2) : CWorked x lg c mb y wm pm t d rb w s1 d1 m2 W :=
  ⟨⟨mb1, h.store, h.mbs⟩, ⟨rb1, h.disk.mono hm, h.newer, fun e1 e2 => by rw [h.lives e2] at e1; cases e1⟩, h.touch, h.tx⟩
theorem CMid.worked (h : CMid x lg c mb y wm pm t d rb w s1 d1 m1 mb1 rb1 W) {s2 : SS} {d2 : DS} {m2 : Nat} {W' : World} (hw : SWorked x lg c mb1 s2 d1 d2 m2 rb1 W W') : CWorked x lg c mb y wm pm t d rb w s2 d2 m2 W' := by
  obtain ⟨⟨mb2, a1, a2⟩, ⟨rb2, b1, b2, b3⟩, c1⟩ := hw
  refine ⟨⟨mb2, a1, ?_⟩, ⟨rb2, b1, ?_, fun e1 e2 => b3 e1 (h.lives e2)⟩, own3_trans h.touch h.newer (c1.mono (fun _ _ e => e.imp id .inl)), h.tx.worked h.store h.disk c1⟩
  · rcases a2 with rfl | a2
    · exact h.mbs
    · exact .inr (Nat.le_trans h.touch.size a2)
  · intro k hk
    rcases b2 k hk with e | e
    · exact h.newer k e
    · exact .inr (Nat.le_trans h.touch.size e)
/-- A commit's work so far, taken up again. -/
theorem CWorked.mid (h : CWorked x lg c mb y wm pm t d rb w s1 d1 m1 W) (hl : d.dead = false → d1.dead = false) : ∃ mb1 rb1, CMid x lg c mb y wm pm t d rb w s1 d1 m1 mb1 rb1 W := by
  obtain ⟨⟨mb1, a1, a2⟩, ⟨rb1, b1, b2, b3⟩, c1, t1⟩ := h
  exact ⟨mb1, rb1, a1, a2, b1, b2, hl, c1, t1⟩
end
theorem CWorked.mono {x lg c mb y wm : Nat} {pm : Option Nat} {t : TS} {d : DS} {rb : Option Nat} {w : World} {s1 : SS} {d1 : DS} {m1 m2 : Nat} {W : World} (h : CWorked x lg c mb y wm pm t d rb w s1 d1 m1 W) (hm : m1 ≤ m2) : CWorked x lg c mb y wm pm t d rb w s1 d1 m2 W := by
  obtain ⟨rb1, b1, b2, b3⟩ := h.disk
  exact ⟨h.store, ⟨rb1, b1.mono hm, b2, b3⟩, h.touch, h.tx⟩
theorem SWorked.below' {x lg c mb : Nat} {s' : SS} {d d' : DS} {m : Nat} {rb : Option Nat} {w w1 w2 : World} (h : SWorked x lg c mb s' d d' m rb w w1) (hb : Below w1.heap.size w1 w2) : SWorked x lg c mb s' d d' m rb w w2 := by
  obtain ⟨⟨mb2, a1, a2⟩, ⟨rb2, b1, b2⟩, c1⟩ := h
  exact ⟨⟨mb2, a1.below hb, a2⟩, ⟨rb2, b1.below hb, b2⟩, Touch.trans c1 (Touch.of_below hb) (fun _ _ e => e)⟩
theorem check_ok {s s1 : SS} {d d1 : DS} (hd : s.dead = false) (h : s.check d = (s1, d1, 0)) : s1.dead = false ∧ s1.turn = s.turn ∧ s1.ps = s.ps ∧ s1.l.n ≤ s.l.n ∧ d1.dead = d.dead := by
  unfold SS.check at h
  rw [if_neg (by rw [hd]; exact Bool.false_ne_true)] at h
  simp only [Prod.mk.injEq] at h
  obtain ⟨h1, h2, h3⟩ := h
  subst h1 h2
  refine ⟨?_, rfl, rfl, cp_few, cp_died h3⟩
  rw [h3]
  rfl
theorem CMid.start {x lg c mb y wm : Nat} {pm pm' : Option Nat} {t t' : TS} {s : SS} {d : DS} {m : Nat} {rb : Option Nat} {w W : World} (h : StoAt w x lg c mb s) (hd : DiskAt w c d m rb) (ht : TxAt w x y pm wm t) (hT : Touch (· = y) w W) (hX : TxAt W x y pm' wm t') : CMid x lg c mb y wm pm' t' d rb w s d m mb rb W := by
  have hy := h.far hd ht.blk (fun a t f e => by cases e; decide)
  have hym : mb ≠ y := fun e => by
    obtain ⟨es, cl, h4⟩ := h.map.isMap
    rw [e, ht.blk] at h4
    cases h4
  exact ⟨h.touch hT (fun e => hy (.inr e.symm)) (fun e => hy (.inl (.inr e.symm))) hym, .inl rfl, hd.touch hT (fun k hk e => hy (.inl (.inl (e ▸ hk)))), Newer.refl _ _, id, hT.mono (fun _ _ e => .inr (.inr e)), hX⟩
/-- The store that a commit makes ahead: its map has the pairs to be. -/
structure NxAt (w : World) (p mbn : Nat) (m : Sto.Pairs) : Prop where
  blk : w.heap[p]? = some (stBlock (.pointer none) mbn (Sto.size m) (.int .i64 0) (.bool false))
  map : MapAt w mbn m
theorem NxAt.below {w w' : World} {p mbn : Nat} {m : Sto.Pairs} (h : NxAt w p mbn m) (hb : Below w.heap.size w w') : NxAt w' p mbn m := ⟨stays h.blk hb, h.map.below hb⟩
theorem NxAt.worked {w w' : World} {x lg c mb : Nat} {s : SS} (h : StoAt w x lg c mb s) {d : DS} {n : Nat} {rb : Option Nat} (hd : DiskAt w c d n rb) {p mbn : Nat} {m : Sto.Pairs} (hx : NxAt w p mbn m) (hp : p ≠ x) (hw : Touch (fun k => own3 c rb lg k ∨ k = x) w w') : NxAt w' p mbn m := by
  refine ⟨(hw.block p (heap_lt hx.blk) ?_).trans hx.blk, hx.map.touch hw (h.farMap hd hx.map)⟩
  rintro (e | e)
  · obtain ⟨a, t, f, h1, h2⟩ := h.log.typed3 hd p e
    rw [hx.blk] at h1
    simp [stBlock] at h1 h2
    rw [← h1.2.1] at h2
    exact absurd h2 (by decide)
  · exact hp e
/-- The new map, the new size, the new turn. -/
theorem CWorked.adopt {x lg c mb y wm : Nat} {pm : Option Nat} {t : TS} {d : DS} {rb : Option Nat} {w w1 : World} {s2 : SS} {d2 : DS} {mb1 mbn m2 : Nat} {m : Sto.Pairs} (hw : CWorked x lg c mb y wm pm t d rb w s2 d2 m2 w1) (hb : w1.heap[x]? = some (storeBlock lg mb1 s2)) (hm : MapAt w1 mbn m) (hn : w.heap.size ≤ mbn) (hg : Sto.Good m) (hf : Sto.fits m = true) :
    CWorked x lg c mb y wm pm t d rb w { s2 with ps := m, turn := s2.turn + 1 } d2 m2 (((w1.setCell ⟨x, 1, none⟩ (.map (some mbn))).setCell ⟨x, 2, none⟩ (.int .i64 (Sto.size m))).setCell ⟨x, 3, none⟩ (.int .i64 ((s2.turn : Int) + 1))) := by
  obtain ⟨⟨mb2, a1, a2⟩, ⟨rb2, b1, b2, b3⟩, c1, t1⟩ := hw
  obtain ⟨n1, n2, n3⟩ := a1.apart b1
  have hxm : mbn ≠ x := fun e => by
    obtain ⟨es, cl, h4⟩ := hm.isMap
    rw [e, hb] at h4
    cases h4
  have ht : Touch (· = x) w1 (((w1.setCell ⟨x, 1, none⟩ (.map (some mbn))).setCell ⟨x, 2, none⟩ (.int .i64 (Sto.size m))).setCell ⟨x, 3, none⟩ (.int .i64 ((s2.turn : Int) + 1))) :=
    (((Touch.refl (· = x) w1).setCell (a := ⟨x, 1, none⟩) _ (fun _ => rfl)).setCell (a := ⟨x, 2, none⟩) _ (fun _ => rfl)).setCell (a := ⟨x, 3, none⟩) _ (fun _ => rfl)
  refine ⟨⟨mbn, ⟨?_, a1.log.touch ht (fun e => n1 (.inr e.symm)), hm.touch ht hxm, hg, hf⟩, .inr hn⟩, ⟨rb2, b1.touch ht (fun k hk e => n1 (.inl (e ▸ hk))), b2, b3⟩, Touch.trans c1 ht (fun _ _ e => .inr (.inl e)), t1.worked a1 b1 (ht.mono (fun _ _ e => .inr e))⟩
  have h1 := heap_set (i := 3) (.int .i64 ((s2.turn : Int) + 1)) (heap_set (i := 2) (.int .i64 (Sto.size m)) (heap_set (i := 1) (.map (some mbn)) hb))
  rw [h1]
  simp [storeBlock, stBlock]
end Go.Proofs.YtpjpknndfhablaaGreat
