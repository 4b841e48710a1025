/- The program's Commit. Printed by tools/gen_com.py. The program's store: Clone, New. Opening a store: plain laws. The program's Open: is a change a delete? Are some?. -/
import Derived.BigQuiet
import Derived.Test.YtpjpknndfhablaaGreatK12
import Derived.Test.YtpjpknndfhablaaGreatK14
namespace Go.Proofs.YtpjpknndfhablaaGreat
open Go.RowKit Go.Shelf
set_option maxHeartbeats 4000000 in
set_option maxRecDepth 100000 in
theorem commit11_any (x lg c mb y wm : Nat) (pm : Option Nat) (w : World) (s : SS) (t : TS) (d : DS) (m0 : Nat) (rb : Option Nat) (h : StoAt w x lg c mb s) (hd : DiskAt w c d m0 rb) (ht : TxAt w x y pm wm t) (hm : m0 < 4999999999999) (hlg : s.l.g ≤ 4611686018427387904) (hln : s.l.n ≤ 4611686018427387904)
  (hl1 : t.now.length ≤ 4194304) (hl2 : t.was.length ≤ 4096) (hturn : s.turn ≤ 4611686018427387904) :
  Calls Tryz.prog 27 #[.pointer (some ⟨y, 0, none⟩)] w fun e w' => e = .returned (.int .i64 (s.commit t d).2.2) ∧ CWorked x lg c mb y wm (if t.over then pm else none) (if t.over then t else t.ends) d rb w (s.commit t d).1 (s.commit t d).2.1 (m0 + 2) w' := by
 obtain ⟨_, _, _, _, c4, _, hylt⟩ := tx_cells ht.blk
 have HS := Lib.hid h
 have HD := Lib.hid hd
 have HT := Lib.hid ht
 cases hov : t.over with
 | true =>
  have HX : Hid (s.commit t d = (s, d, 114)) := Lib.hid (by unfold SS.commit; rw [if_pos hov])
  rw [hov] at c4
  clear h hd ht hov
  go_enter Tryz.func27, Tryz.ntmps27
  go_wp2
  go_ret
  rw [HX.out]
  exact ⟨rfl, (CMid.start HS.out HD.out HT.out (Touch.refl _ _) HT.out).done (by omega)⟩
 | false =>
  rw [hov] at c4
  have HO := Lib.hid hov
  have hpo := ht.over
  rw [hov] at hpo
  obtain ⟨pb, rfl⟩ : ∃ pb, pm = some pb := by cases pm with | none => cases hpo | some pb => exact ⟨pb, rfl⟩
  clear h hd ht hov hpo
  have HCH := Lib.hid (changes11_any y pb wm _ _ _ t.now t.was w HT.out.blk HT.out.now HT.out.was HT.out.gnow HT.out.gwas (by omega) hl2)
  have HFI := Lib.hid (Sto.changes_fine HT.out.gwas HT.out.gnow)
  have hcl := Sto.changes_len HT.out.gwas.rise HT.out.gnow.rise
  have HEL := Lib.hid (Sto.encode_le HFI.out 2)
  have HX : Hid (s.commit t d = if s.dead then (s, d, 2) else if s.turn ≠ t.turn then (s, d, 114) else if Sto.changes t.was t.now = [] then (s, d, 0) else
   if 512 < (Sto.changes t.was t.now).length ∨ 65536 < (Sto.encode (Sto.changes t.was t.now) 2).length then (s, d, 112) else
   match Sto.does s.ps (Sto.changes t.was t.now) with
   | none => (s, d, 113)
   | some m => s.taking d (Sto.changes t.was t.now) m) := Lib.hid (by unfold SS.commit; rw [if_neg (by rw [HO.out]; exact Bool.false_ne_true)]; rfl)
  obtain ⟨C, hC⟩ : ∃ C, Sto.changes t.was t.now = C := ⟨_, rfl⟩
  rw [hC] at HCH HFI hcl HEL HX
  replace hcl : C.length ≤ 4198400 := by omega
  clear hC hl1 hl2
  obtain ⟨E, hE⟩ : ∃ E, Sto.encode C 2 = E := ⟨_, rfl⟩
  rw [hE] at HEL HX
  have HEE := Lib.hid hE
  have hEl : E.length ≤ 17486336002 := by have := HEL.out; omega
  clear hE
  go_enter Tryz.func27, Tryz.ntmps27
  go_wp2_with fail
  refine HCH.out.mono ?_
  rintro e w1 ⟨v, rfl, hch, hfr, b1⟩
  have HB1 := Lib.hid b1
  have HCA := Lib.hid hch
  obtain ⟨ao, cap, rfl, hn1, hn2, _⟩ := chsAt_read hch
  clear hch b1
  go_wp2_with fail
  refine (ends11_any (HT.out.below HB1.out)).mono ?_
  rintro e w2 ⟨rfl, hx2, ht2⟩
  have HX2 := Lib.hid hx2
  have HT2 : Hid (Touch (· = y) w w2) := Lib.hid (Touch.trans (Touch.of_below HB1.out) ht2 (fun _ _ e => e))
  have HCH2 : Hid (ChsAt w2 (.slice ao C.length cap) C) := Lib.hid (HCA.out.touch ht2 (fun k hk e => by have := hfr k hk; omega))
  clear hx2 ht2 hfr
  have HS2 := Lib.hid (CMid.start HS.out HD.out HT.out HT2.out HX2.out)
  obtain ⟨k0, k1, k2, k3, k4, kf, klt⟩ := HS2.out.store.cells
  obtain ⟨y0, _, _, y3', _, _, _⟩ := tx_cells HX2.out.blk
  have y3 : w2.cell? ⟨y, 3, none⟩ = some (.int .i64 t.turn) := y3'
  clear y3'
  cases hdd : s.dead with
  | true =>
   rw [hdd] at k4
   rw [if_pos hdd] at HX
   clear hdd
   go_wp2
   go_ret
   rw [HX.out]
   exact ⟨rfl, HS2.out.done (by omega)⟩
  | false =>
  rw [hdd] at k4
  rw [if_neg (by rw [hdd]; exact Bool.false_ne_true)] at HX
  have HDD := Lib.hid hdd
  clear hdd
  by_cases htu : s.turn = t.turn
  case neg =>
   have hne : ((s.turn : Int) != t.turn) = true := by simp; omega
   rw [if_pos htu] at HX
   clear htu
   go_wp2_with fail
   go_quiet (fail)
   go_wp2
   go_ret
   rw [HX.out]
   exact ⟨rfl, (HS2.out.below (below_drewN (Below.refl _ _) _)).done (by omega)⟩
  have hne : ((s.turn : Int) != t.turn) = false := by simp [htu]
  rw [if_neg (fun e => e htu)] at HX
  clear htu
  go_wp2_with fail
  go_quiet (fail)
  rename_i nq
  have bq : Below w2.heap.size w2 (w2.drewN nq) := below_drewN (Below.refl _ _) nq
  obtain ⟨w3, hw3⟩ : ∃ W, w2.drewN nq = W := ⟨_, rfl⟩
  rw [hw3] at bq ⊢
  have HM3 := Lib.hid (HS2.out.below bq)
  have HCH3 := Lib.hid (HCH2.out.below bq)
  have HT3 : Hid (Touch (· = y) w w3) := Lib.hid (Touch.trans HT2.out (Touch.of_below bq) (fun _ _ e => e))
  clear hw3 bq k0 k1 k2 k3 k4 kf klt y0 y3
  by_cases hC0 : C = []
  case pos =>
   have hl0 : ((C.length : Int) == 0) = true := by rw [hC0]; rfl
   rw [if_pos hC0] at HX
   clear hC0
   go_wp2
   go_ret
   rw [HX.out]
   exact ⟨rfl, HM3.out.done (by omega)⟩
  have hl0 : ((C.length : Int) == 0) = false := by
   rw [beq_eq_false_iff_ne]
   intro e
   exact hC0 (List.eq_nil_of_length_eq_zero (by omega))
  rw [if_neg hC0] at HX
  clear hC0
  go_wp2_with fail
  have hen := encode11_any _ C 2 w3 HCH3.out HFI.out (by decide) (by rw [HEE.out]; omega) (by omega)
  rw [HEE.out] at hen
  refine hen.mono ?_
  clear hen
  rintro e w4 ⟨rfl, b4⟩
  have HM4 := Lib.hid (HM3.out.below b4)
  have HCH4 := Lib.hid (HCH3.out.below b4)
  have HT4 : Hid (Touch (· = y) w w4) := Lib.hid (Touch.trans HT3.out (Touch.of_below b4) (fun _ _ e => e))
  clear b4
  by_cases h512 : 512 < C.length
  case pos =>
   have h5 : (C.length : Int) > 512 := by omega
   rw [if_pos (.inl h512)] at HX
   clear h512
   go_wp2
   go_ret
   rw [HX.out]
   exact ⟨rfl, HM4.out.done (by omega)⟩
  have h5 : ¬ (C.length : Int) > 512 := by omega
  by_cases h64 : 65536 < E.length
  case pos =>
   have h6 : (E.length : Int) > 65536 := by omega
   rw [if_pos (.inr h64)] at HX
   clear h64 h512
   go_wp2
   go_ret
   rw [HX.out]
   exact ⟨rfl, HM4.out.done (by omega)⟩
  have h6 : ¬ (E.length : Int) > 65536 := by omega
  rw [if_neg (by rintro (e | e) <;> omega)] at HX
  go_wp2_with fail
  have hS4 : w4.drew.cell? ⟨x, 1, none⟩ = some (.map (some mb)) ∧ w4.drew.cell? ⟨x, 2, none⟩ = some (.int .i64 (Sto.size s.ps)) := ⟨HM4.out.store.cells.2.1, HM4.out.store.cells.2.2.1⟩
  refine wp_region_heldL (S := fun w' => w'.cell? ⟨x, 1, none⟩ = some (.map (some mb)) ∧ w'.cell? ⟨x, 2, none⟩ = some (.int .i64 (Sto.size s.ps))) (by kernel_rfl) ?_
  refine planned [0, 1, 2, 3, 5, 6, 7, 8] ?_
  iterate 8 (refine planned_take (v := ?_) rfl (by kernel_rfl) (by kernel_rfl) (by kernel_rfl) (fun _ _ _ h => h) ?_ (by assumption) ?_; rotate_left; (focus (first | (refine Or.inr ⟨by rfl, ?_⟩; with_reducible rfl) | (refine Or.inl ⟨by rfl, ?_⟩; (intro w hSw; (try dsimp only at hSw); go_simp); try with_reducible rfl))); try simp only [Act.put, List.setIfInBounds_toArray, List.set_cons_zero, List.set_cons_succ])
  refine planned_end ?_
  refine wpAnyH_oneL (i := 4) rfl (by kernel_rfl) ?_
  intro K hK
  rw [if_pos (by rfl)]
  go_simp
  go_at_call 61
  refine (mapclone_any mb s.ps w4.drew HM4.out.store.map).mono ?_
  rintro e w5 ⟨rfl, m5, b5⟩
  have HB5 := Lib.hid (bthen ((Below.refl _ w4).drew) b5)
  have HMN5 := Lib.hid m5
  have hS5 : w5.cell? ⟨x, 1, none⟩ = some (.map (some mb)) ∧ w5.cell? ⟨x, 2, none⟩ = some (.int .i64 (Sto.size s.ps)) := ⟨cell_later b5 hS4.1, cell_later b5 hS4.2⟩
  obtain ⟨mbn, hmbn⟩ : ∃ p, w4.drew.heap.size = p := ⟨_, rfl⟩
  have HLN5 : Hid (w4.heap.size = mbn) := Lib.hid hmbn
  rw [hmbn] at HMN5 ⊢
  clear b5 m5 hmbn
  refine hK _ _ hS5 ?_
  clear hK K
  try simp only [Act.put, List.setIfInBounds_toArray, List.set_cons_zero, List.set_cons_succ]
  refine wpAnyH_takeL (i := 9) (v := ?_) rfl (by kernel_rfl) (by kernel_rfl) (by kernel_rfl) (fun _ _ _ h => h) ?_ (by assumption) ?_; rotate_left; focus (first | (refine Or.inr ⟨by rfl, ?_⟩; with_reducible rfl) | (refine Or.inl ⟨by rfl, ?_⟩; (intro w hSw; (try dsimp only at hSw); go_simp); try with_reducible rfl))
  try simp only [Act.put, List.setIfInBounds_toArray, List.set_cons_zero, List.set_cons_succ]
  refine wpAnyH_oneL (i := 10) rfl (by kernel_rfl) ?_
  intro K hK
  rw [if_pos (by rfl)]
  go_simp
  have b6 := balloc w5 (stBlock (.pointer none) mbn (Sto.size s.ps) (.int .i64 0) (.bool false))
  have H6 := heap_new w5 (stBlock (.pointer none) mbn (Sto.size s.ps) (.int .i64 0) (.bool false))
  have HPB : Hid (mbn < w5.heap.size) := Lib.hid HMN5.out.lt
  unfold stBlock at b6 H6
  obtain ⟨p, hp⟩ : ∃ p, w5.heap.size = p := ⟨_, rfl⟩
  rw [hp] at H6 HPB ⊢
  obtain ⟨w6, hw6⟩ : ∃ w, w5.alloc (.cells #[.pointer none, .map (some mbn), .int .i64 (Sto.size s.ps), .int .i64 0, .bool false] 103 (0, 0)) = w := ⟨_, rfl⟩
  rw [hw6] at b6 H6 ⊢
  have HN6 : Hid (NxAt w6 p mbn s.ps) := Lib.hid ⟨H6, HMN5.out.below b6⟩
  have HB6 := Lib.hid (bthen HB5.out b6)
  have hS6 : w6.cell? ⟨x, 1, none⟩ = some (.map (some mb)) ∧ w6.cell? ⟨x, 2, none⟩ = some (.int .i64 (Sto.size s.ps)) := ⟨cell_later b6 hS5.1, cell_later b6 hS5.2⟩
  clear hw6 hp H6 b6
  refine hK _ _ hS6 ?_
  clear hK K
  try simp only [Act.put, List.setIfInBounds_toArray, List.set_cons_zero, List.set_cons_succ]
  refine wpAnyH_takeL (i := 11) (v := ?_) rfl (by kernel_rfl) (by kernel_rfl) (by kernel_rfl) (fun _ _ _ h => h) ?_ (by assumption) ?_; rotate_left; focus (first | (refine Or.inr ⟨by rfl, ?_⟩; with_reducible rfl) | (refine Or.inl ⟨by rfl, ?_⟩; (intro w hSw; (try dsimp only at hSw); go_simp); try with_reducible rfl))
  try simp only [Act.put, List.setIfInBounds_toArray, List.set_cons_zero, List.set_cons_succ]
  refine wpAnyH_done (by kernel_rfl) ?_ _
  have HM6 := Lib.hid (HM4.out.below HB6.out)
  have HCH6 := Lib.hid (HCH4.out.below HB6.out)
  have HT6 : Hid (Touch (· = y) w w6) := Lib.hid (Touch.trans HT4.out (Touch.of_below HB6.out) (fun _ _ e => e))
  have hpn : w.heap.size ≤ mbn ∧ mbn < p := ⟨by have h1 := HLN5.out; have h2 := HT4.out.size; omega, HPB.out⟩
  clear hS4 hS5 hS6 HMN5 HLN5 HPB
  go_wp2_with fail
  have hdo := does11_any p mbn _ _ _ w6 s.ps _ C HN6.out.blk HN6.out.map HCH6.out HS.out.good HFI.out (by have := HS.out.fits; unfold Sto.fits at this; simp at this; omega) (by omega)
  refine hdo.mono ?_
  clear hdo
  rintro e w7 ⟨rfl, ht7, hres⟩
  have HRES := Lib.hid hres
  have hwl := HT.out.was.lt
  have HX7 : Hid (TxAt w7 x y none wm t.ends) := Lib.hid (HM6.out.tx.touch ht7 (by rintro (e | e) <;> omega) (by rintro (e | e) <;> omega) (fun b e => by cases e))
  have HT7 : Hid (Touch (· = y) w w7) := Lib.hid (Touch.trans HT6.out ht7 (fun k hk e => by rcases e with e | e <;> omega))
  have HM7 := Lib.hid (CMid.start HS.out HD.out HT.out HT7.out HX7.out)
  clear hres ht7
  cases hdo : Sto.does s.ps C with
  | none =>
   rw [hdo] at HX
   clear hdo
   go_wp2
   go_ret
   rw [HX.out]
   exact ⟨rfl, HM7.out.done (by omega)⟩
  | some m =>
  have HNX7 : Hid (NxAt w7 p mbn m) := Lib.hid (by obtain ⟨r1, r2⟩ := HRES.out m hdo; exact ⟨r2, r1⟩)
  have HGM := Lib.hid (HS.out.good.does HFI.out hdo)
  have HXX : Hid (s.commit t d = if (s.making d E).2.2 ≠ 0 then s.making d E else (s.making d E).1.adding (s.making d E).2.1 E m) := Lib.hid (by rw [HX.out, hdo]; show s.taking d C m = _; unfold SS.taking; rw [HEE.out])
  have hpx : p ≠ x := by have := heap_lt HS.out.blk; omega
  clear hdo HX
  have k7 := HM7.out.store.cells.1
  obtain ⟨R, hR⟩ : ∃ R, Wal.room s.l d = R := ⟨_, rfl⟩
  have HR := Lib.hid hR
  clear hR
  go_wp2_with fail
  have hro := room_any lg c w7 s.l d m0 rb HM7.out.store.log HM7.out.disk
  rw [HR.out] at hro
  refine hro.mono ?_
  clear hro
  rintro e w8 ⟨rfl, b8⟩
  have HM8 := Lib.hid (HM7.out.below b8)
  have HNX8 := Lib.hid (HNX7.out.below b8)
  have k8 := HM8.out.store.cells.1
  clear b8 k7
  by_cases hroom : R < (E.length : Int)
  case neg =>
   have HTK : Hid (s.commit t d = s.adding d E m) := Lib.hid (by rw [HXX.out]; unfold SS.making; rw [HR.out, if_neg hroom]; rfl)
   go_wp2_with fail
   have hap := wappend_any lg c w8 s.l d m0 rb E HM8.out.store.log HM8.out.disk (by omega) (by omega) hln
   obtain ⟨A, hA⟩ : ∃ A, Wal.append s.l d E = A := ⟨_, rfl⟩
   obtain ⟨al, ad, ae⟩ := A
   have HA := Lib.hid hA
   rw [hA] at hap
   clear hA
   refine hap.mono ?_
   clear hap
   rintro e wb ⟨rfl, hwb⟩
   have HWB := Lib.hid hwb
   clear hwb
   go_wp2_with fail
   refine (told_any x mb _ _ _ false ae wb (by have := (HM8.out.store.worked HM8.out.disk HWB.out).blk; rw [storeBlock, HDD.out] at this; exact this)).mono ?_
   rintro e wc ⟨rfl, hwc, htc⟩
   have HZ := Lib.hid (SWorked.of HM8.out.store HM8.out.disk HWB.out hwc htc)
   have HXC := Lib.hid hwc
   clear hwc htc k8
   by_cases hae : ae = 0
   case neg =>
    have hab : (ae != 0) = true := by simp [hae]
    have HXZ : Hid (s.commit t d = ({ s with l := al, dead := decide (ae = 2) }, ad, ae)) := Lib.hid (by rw [HTK.out]; unfold SS.adding; rw [HA.out, if_pos hae])
    clear hae
    go_wp2
    go_ret
    rw [HXZ.out]
    exact ⟨rfl, (HM8.out.worked HZ.out).mono (by omega)⟩
   subst hae
   have HXZ : Hid (s.commit t d = ({ s with l := al, ps := m, turn := s.turn + 1 }, ad, 0)) := Lib.hid (by rw [HTK.out]; unfold SS.adding; rw [HA.out, if_neg (fun e => e rfl)])
   have HNC := Lib.hid (HNX8.out.worked HM8.out.store HM8.out.disk hpx HZ.out.touch)
   go_wp2_with fail
   have HXD : Hid (wc.drew.heap[x]? = some (stBlock (.pointer (some ⟨lg, 0, none⟩)) mb (Sto.size s.ps) (.int .i64 s.turn) (.bool false))) := Lib.hid HXC.out
   have HND : Hid (NxAt wc.drew p mbn m) := Lib.hid (HNC.out.below ((Below.refl _ _).drew))
   have HZD := Lib.hid (HZ.out.below' (w2 := wc.drew) ((Below.refl _ _).drew))
   refine wp_region_heldL (S := fun w' => w'.cell? ⟨p, 1, none⟩ = some (.map (some mbn)) ∧ w'.cell? ⟨p, 2, none⟩ = some (.int .i64 (Sto.size m))) (by kernel_rfl) ?_
   obtain ⟨wd, hwd⟩ : ∃ W, wc.drew = W := ⟨_, rfl⟩
   rw [hwd] at HXD HND HZD ⊢
   clear hwd
   obtain ⟨x1, x2, xf⟩ := st_cells HXD.out
   have xf1 := xf 1
   have xf2 := xf 2
   have xf3 := xf 3
   have x3 : wd.cell? ⟨x, 3, none⟩ = some (.int .i64 s.turn) := cell_of HXD.out rfl
   have hSd : wd.cell? ⟨p, 1, none⟩ = some (.map (some mbn)) ∧ wd.cell? ⟨p, 2, none⟩ = some (.int .i64 (Sto.size m)) := ⟨(st_cells HND.out.blk).1, (st_cells HND.out.blk).2.1⟩
   have hSe : ∀ v, (wd.setCell ⟨x, 1, none⟩ v).cell? ⟨p, 1, none⟩ = some (.map (some mbn)) ∧ (wd.setCell ⟨x, 1, none⟩ v).cell? ⟨p, 2, none⟩ = some (.int .i64 (Sto.size m)) := fun v => by
    have hb : (wd.setCell ⟨x, 1, none⟩ v).heap[p]? = wd.heap[p]? := heap_set_ne v hpx
    exact ⟨(World.cell?_of_block (a := ⟨p, 1, none⟩) hb).trans hSd.1, (World.cell?_of_block (a := ⟨p, 2, none⟩) hb).trans hSd.2⟩
   have hSf : ∀ v u, ((wd.setCell ⟨x, 1, none⟩ v).setCell ⟨x, 2, none⟩ u).cell? ⟨p, 1, none⟩ = some (.map (some mbn)) ∧ ((wd.setCell ⟨x, 1, none⟩ v).setCell ⟨x, 2, none⟩ u).cell? ⟨p, 2, none⟩ = some (.int .i64 (Sto.size m)) := fun v u => by
    have hb : ((wd.setCell ⟨x, 1, none⟩ v).setCell ⟨x, 2, none⟩ u).heap[p]? = wd.heap[p]? := (heap_set_ne u hpx).trans (heap_set_ne v hpx)
    exact ⟨(World.cell?_of_block (a := ⟨p, 1, none⟩) hb).trans hSd.1, (World.cell?_of_block (a := ⟨p, 2, none⟩) hb).trans hSd.2⟩
   have HSE := Lib.hid hSe
   have HSF := Lib.hid hSf
   clear xf hSe hSf
   refine planned [0, 1, 2, 3, 4, 5, 6, 7, 8, 9, 10, 11] ?_
   iterate 12 (refine planned_take (v := ?_) rfl (by kernel_rfl) (by kernel_rfl) (by kernel_rfl) (fun _ _ _ h => h) ?_ (by assumption) ?_; rotate_left; (focus (first | (refine Or.inr ⟨by rfl, ?_⟩; with_reducible rfl) | (refine Or.inl ⟨by rfl, ?_⟩; (intro w hSw; (try dsimp only at hSw); go_simp); try with_reducible rfl))); try simp only [Act.put, List.setIfInBounds_toArray, List.set_cons_zero, List.set_cons_succ])
   refine planned_end ?_
   refine wpAnyH_oneL (i := 12) rfl (by kernel_rfl) ?_
   intro K hK
   rw [if_pos (by rfl)]
   go_simp
   refine hK _ _ (HSE.out _) ?_
   clear hK K
   try simp only [Act.put, List.setIfInBounds_toArray, List.set_cons_zero, List.set_cons_succ]
   have hSd2 := HSE.out (.map (some mbn))
   refine planned [13, 14] ?_
   iterate 2 (refine planned_take (v := ?_) rfl (by kernel_rfl) (by kernel_rfl) (by kernel_rfl) (fun _ _ _ h => h) ?_ (by assumption) ?_; rotate_left; (focus (first | (refine Or.inr ⟨by rfl, ?_⟩; with_reducible rfl) | (refine Or.inl ⟨by rfl, ?_⟩; (intro w hSw; (try dsimp only at hSw); go_simp); try with_reducible rfl))); try simp only [Act.put, List.setIfInBounds_toArray, List.set_cons_zero, List.set_cons_succ])
   refine planned_end ?_
   refine wpAnyH_oneL (i := 15) rfl (by kernel_rfl) ?_
   intro K hK
   rw [if_pos (by rfl)]
   go_simp
   refine hK _ _ (HSF.out _ _) ?_
   clear hK K hSd hSd2
   try simp only [Act.put, List.setIfInBounds_toArray, List.set_cons_zero, List.set_cons_succ]
   refine wpAnyH_done (by kernel_rfl) ?_ _
   go_wp2_with fail
   go_ret
   have HEQ : ({ s with l := al, ps := m, turn := s.turn + 1 } : SS) = { ({ s with l := al, dead := decide ((0 : Int) = 2) } : SS) with ps := m, turn := s.turn + 1 } := by
    show SS.mk al m (s.turn + 1) s.dead = SS.mk al m (s.turn + 1) (decide ((0 : Int) = 2))
    rw [HDD.out]
    rfl
   rw [HXZ.out, HEQ]
   exact ⟨rfl, ((HM8.out.worked HZD.out).adopt HXD.out HND.out.map hpn.1 HGM.out.1 HGM.out.2).mono (by omega)⟩
  have hch := check11_any x lg c mb w8 s d m0 rb HM8.out.store HM8.out.disk (by omega) hlg
  obtain ⟨K, hK⟩ : ∃ K, s.check d = K := ⟨_, rfl⟩
  obtain ⟨s1, d1, q⟩ := K
  have HCK := Lib.hid hK
  rw [hK] at hch
  have HXY : Hid (s.commit t d = if q ≠ 0 then (s1, d1, q) else s1.adding d1 E m) := Lib.hid (by rw [HXX.out]; unfold SS.making; rw [HR.out, if_pos hroom, HCK.out])
  clear hK
  have HCC := Lib.hid hch
  clear hch
  go_wp2_with fail
  refine HCC.out.mono ?_
  rintro e w9 ⟨rfl, hw9⟩
  have HSW := Lib.hid hw9
  have HW9 := Lib.hid (HM8.out.worked hw9)
  have HNX9 := Lib.hid (HNX8.out.worked HM8.out.store HM8.out.disk hpx hw9.touch)
  clear hw9 k8
  by_cases hq : q = 0
  case neg =>
   have hqb : (q != 0) = true := by simp [hq]
   have HXZ : Hid (s.commit t d = (s1, d1, q)) := Lib.hid (by rw [HXY.out, if_pos hq])
   clear hq
   go_wp2
   go_ret
   rw [HXZ.out]
   exact ⟨rfl, HW9.out.mono (by omega)⟩
  subst hq
  obtain ⟨hs1d, hs1t, hs1p, hs1n, hd1d⟩ := check_ok HDD.out HCK.out
  have SD := Lib.hid hs1d
  have HTK : Hid (s.commit t d = s1.adding d1 E m) := Lib.hid (by rw [HXY.out, if_neg (fun e => e rfl)])
  have HD1 := Lib.hid hd1d
  obtain ⟨mb1, rb1, hmid⟩ := HW9.out.mid (fun e => by rw [HD1.out]; exact e)
  have HM9 := Lib.hid hmid
  have k9 := HM9.out.store.cells.1
  have ht1 : s1.turn ≤ 4611686018427387904 := by rw [hs1t]; exact hturn
  have hln1 : s1.l.n ≤ 4611686018427387904 := by omega
  clear hmid hs1d hs1t hs1p hs1n hd1d
  go_wp2_with fail
  have hap := wappend_any lg c w9 s1.l d1 (m0 + 1) rb1 E HM9.out.store.log HM9.out.disk (by omega) (by omega) hln1
  obtain ⟨A, hA⟩ : ∃ A, Wal.append s1.l d1 E = A := ⟨_, rfl⟩
  obtain ⟨al, ad, ae⟩ := A
  have HA := Lib.hid hA
  rw [hA] at hap
  clear hA
  refine hap.mono ?_
  clear hap
  rintro e wb ⟨rfl, hwb⟩
  have HWB := Lib.hid hwb
  clear hwb
  go_wp2_with fail
  refine (told_any x mb1 _ _ _ false ae wb (by have := (HM9.out.store.worked HM9.out.disk HWB.out).blk; rw [storeBlock, SD.out] at this; exact this)).mono ?_
  rintro e wc ⟨rfl, hwc, htc⟩
  have HZ := Lib.hid (SWorked.of HM9.out.store HM9.out.disk HWB.out hwc htc)
  have HXC := Lib.hid hwc
  clear hwc htc k9
  by_cases hae : ae = 0
  case neg =>
   have hab : (ae != 0) = true := by simp [hae]
   have HXZ : Hid (s.commit t d = ({ s1 with l := al, dead := decide (ae = 2) }, ad, ae)) := Lib.hid (by rw [HTK.out]; unfold SS.adding; rw [HA.out, if_pos hae])
   clear hae
   go_wp2
   go_ret
   rw [HXZ.out]
   exact ⟨rfl, (HM9.out.worked HZ.out).mono (by omega)⟩
  subst hae
  have HXZ : Hid (s.commit t d = ({ s1 with l := al, ps := m, turn := s1.turn + 1 }, ad, 0)) := Lib.hid (by rw [HTK.out]; unfold SS.adding; rw [HA.out, if_neg (fun e => e rfl)])
  have HNC := Lib.hid (HNX9.out.worked HM9.out.store HM9.out.disk hpx HZ.out.touch)
  go_wp2_with fail
  have HXD : Hid (wc.drew.heap[x]? = some (stBlock (.pointer (some ⟨lg, 0, none⟩)) mb1 (Sto.size s1.ps) (.int .i64 s1.turn) (.bool false))) := Lib.hid HXC.out
  have HND : Hid (NxAt wc.drew p mbn m) := Lib.hid (HNC.out.below ((Below.refl _ _).drew))
  have HZD := Lib.hid (HZ.out.below' (w2 := wc.drew) ((Below.refl _ _).drew))
  refine wp_region_heldL (S := fun w' => w'.cell? ⟨p, 1, none⟩ = some (.map (some mbn)) ∧ w'.cell? ⟨p, 2, none⟩ = some (.int .i64 (Sto.size m))) (by kernel_rfl) ?_
  obtain ⟨wd, hwd⟩ : ∃ W, wc.drew = W := ⟨_, rfl⟩
  rw [hwd] at HXD HND HZD ⊢
  clear hwd
  obtain ⟨x1, x2, xf⟩ := st_cells HXD.out
  have xf1 := xf 1
  have xf2 := xf 2
  have xf3 := xf 3
  have x3 : wd.cell? ⟨x, 3, none⟩ = some (.int .i64 s1.turn) := cell_of HXD.out rfl
  have hSd : wd.cell? ⟨p, 1, none⟩ = some (.map (some mbn)) ∧ wd.cell? ⟨p, 2, none⟩ = some (.int .i64 (Sto.size m)) := ⟨(st_cells HND.out.blk).1, (st_cells HND.out.blk).2.1⟩
  have hSe : ∀ v, (wd.setCell ⟨x, 1, none⟩ v).cell? ⟨p, 1, none⟩ = some (.map (some mbn)) ∧ (wd.setCell ⟨x, 1, none⟩ v).cell? ⟨p, 2, none⟩ = some (.int .i64 (Sto.size m)) := fun v => by
   have hb : (wd.setCell ⟨x, 1, none⟩ v).heap[p]? = wd.heap[p]? := heap_set_ne v hpx
   exact ⟨(World.cell?_of_block (a := ⟨p, 1, none⟩) hb).trans hSd.1, (World.cell?_of_block (a := ⟨p, 2, none⟩) hb).trans hSd.2⟩
  have hSf : ∀ v u, ((wd.setCell ⟨x, 1, none⟩ v).setCell ⟨x, 2, none⟩ u).cell? ⟨p, 1, none⟩ = some (.map (some mbn)) ∧ ((wd.setCell ⟨x, 1, none⟩ v).setCell ⟨x, 2, none⟩ u).cell? ⟨p, 2, none⟩ = some (.int .i64 (Sto.size m)) := fun v u => by
   have hb : ((wd.setCell ⟨x, 1, none⟩ v).setCell ⟨x, 2, none⟩ u).heap[p]? = wd.heap[p]? := (heap_set_ne u hpx).trans (heap_set_ne v hpx)
   exact ⟨(World.cell?_of_block (a := ⟨p, 1, none⟩) hb).trans hSd.1, (World.cell?_of_block (a := ⟨p, 2, none⟩) hb).trans hSd.2⟩
  have HSE := Lib.hid hSe
  have HSF := Lib.hid hSf
  clear xf hSe hSf
  refine planned [0, 1, 2, 3, 4, 5, 6, 7, 8, 9, 10, 11] ?_
  iterate 12 (refine planned_take (v := ?_) rfl (by kernel_rfl) (by kernel_rfl) (by kernel_rfl) (fun _ _ _ h => h) ?_ (by assumption) ?_; rotate_left; (focus (first | (refine Or.inr ⟨by rfl, ?_⟩; with_reducible rfl) | (refine Or.inl ⟨by rfl, ?_⟩; (intro w hSw; (try dsimp only at hSw); go_simp); try with_reducible rfl))); try simp only [Act.put, List.setIfInBounds_toArray, List.set_cons_zero, List.set_cons_succ])
  refine planned_end ?_
  refine wpAnyH_oneL (i := 12) rfl (by kernel_rfl) ?_
  intro K hK
  rw [if_pos (by rfl)]
  go_simp
  refine hK _ _ (HSE.out _) ?_
  clear hK K
  try simp only [Act.put, List.setIfInBounds_toArray, List.set_cons_zero, List.set_cons_succ]
  have hSd2 := HSE.out (.map (some mbn))
  refine planned [13, 14] ?_
  iterate 2 (refine planned_take (v := ?_) rfl (by kernel_rfl) (by kernel_rfl) (by kernel_rfl) (fun _ _ _ h => h) ?_ (by assumption) ?_; rotate_left; (focus (first | (refine Or.inr ⟨by rfl, ?_⟩; with_reducible rfl) | (refine Or.inl ⟨by rfl, ?_⟩; (intro w hSw; (try dsimp only at hSw); go_simp); try with_reducible rfl))); try simp only [Act.put, List.setIfInBounds_toArray, List.set_cons_zero, List.set_cons_succ])
  refine planned_end ?_
  refine wpAnyH_oneL (i := 15) rfl (by kernel_rfl) ?_
  intro K hK
  rw [if_pos (by rfl)]
  go_simp
  refine hK _ _ (HSF.out _ _) ?_
  clear hK K hSd hSd2
  try simp only [Act.put, List.setIfInBounds_toArray, List.set_cons_zero, List.set_cons_succ]
  refine wpAnyH_done (by kernel_rfl) ?_ _
  go_wp2_with fail
  go_ret
  have HEQ : ({ s1 with l := al, ps := m, turn := s1.turn + 1 } : SS) = { ({ s1 with l := al, dead := decide ((0 : Int) = 2) } : SS) with ps := m, turn := s1.turn + 1 } := by
   show SS.mk al m (s1.turn + 1) s1.dead = SS.mk al m (s1.turn + 1) (decide ((0 : Int) = 2))
   rw [SD.out]
   rfl
  rw [HXZ.out, HEQ]
  exact ⟨rfl, ((HM9.out.worked HZD.out).adopt HXD.out HND.out.map hpn.1 HGM.out.1 HGM.out.2).mono (by omega)⟩
end Go.Proofs.YtpjpknndfhablaaGreat
namespace Go.Proofs.YtpjpknndfhablaaGreat
open Go.RowKit Go.Shelf
set_option maxHeartbeats 2000000 in
set_option maxRecDepth 100000 in
theorem clone11_any (x lg c mb c' : Nat) (w : World) (s : SS) (h : StoAt w x lg c mb s) :
  Calls Tryz.prog 35 #[.pointer (some ⟨x, 0, none⟩), .pointer (some ⟨c', 0, none⟩)] w fun e w' => ∃ x' lg' mb', e = .returned (.pointer (some ⟨x', 0, none⟩)) ∧ StoAt w' x' lg' c' mb' s ∧ w.heap.size ≤ x' ∧ w.heap.size ≤ lg' ∧ w.heap.size ≤ mb' ∧ Below w.heap.size w w' := by
 obtain ⟨k0, k1, k2, k3, k4, _, klt⟩ := h.cells
 have HS := Lib.hid h
 clear h
 go_enter Tryz.func35, Tryz.ntmps35
 go_wp2_with fail
 have b1 := balloc w (storeBlock lg mb s)
 have H1 := heap_new w (storeBlock lg mb s)
 unfold storeBlock stBlock at b1 H1
 obtain ⟨n, hn⟩ : ∃ n, w.heap.size = n := ⟨_, rfl⟩
 rw [hn] at H1 ⊢
 obtain ⟨w1, hw1⟩ : ∃ W, w.alloc (.cells #[.pointer (some ⟨lg, 0, none⟩), .map (some mb), .int .i64 (Sto.size s.ps), .int .i64 s.turn, .bool s.dead] 103 (0, 0)) = W := ⟨_, rfl⟩
 rw [hw1] at H1 b1 ⊢
 have HB1 := Lib.hid b1
 have HN1 := Lib.hid H1
 have HNN := Lib.hid hn
 clear hw1 b1 H1 hn k0 k1 k2 k3 k4 klt
 have hS1 : w1.drew.cell? ⟨x, 0, none⟩ = some (.pointer (some ⟨lg, 0, none⟩)) ∧ w1.drew.cell? ⟨x, 1, none⟩ = some (.map (some mb)) := ⟨(HS.out.below HB1.out).cells.1, (HS.out.below HB1.out).cells.2.1⟩
 refine wp_region_heldL (S := fun w' => w'.cell? ⟨x, 0, none⟩ = some (.pointer (some ⟨lg, 0, none⟩)) ∧ w'.cell? ⟨x, 1, none⟩ = some (.map (some mb))) (by kernel_rfl) ?_
 refine planned [0, 1, 2, 3, 4, 6, 7, 8, 9] ?_
 iterate 9 (refine planned_take (v := ?_) rfl (by kernel_rfl) (by kernel_rfl) (by kernel_rfl) (fun _ _ _ h => h) ?_ (by assumption) ?_; rotate_left; (focus (first | (refine Or.inr ⟨by rfl, ?_⟩; with_reducible rfl) | (refine Or.inl ⟨by rfl, ?_⟩; (intro w hSw; (try dsimp only at hSw); go_simp); try with_reducible rfl))); try simp only [Act.put, List.setIfInBounds_toArray, List.set_cons_zero, List.set_cons_succ])
 refine planned_end ?_
 refine wpAnyH_oneL (i := 5) rfl (by kernel_rfl) ?_
 intro K hK
 rw [if_pos (by rfl)]
 go_simp
 go_at_call 71
 refine (wclone_any lg c c' w1.drew s.l (HS.out.below HB1.out).log).mono ?_
 rintro e w2 ⟨lg', rfl, hl0, hl2, b2⟩
 have HB2 := Lib.hid (bthen HB1.out (bthen ((Below.refl _ w1).drew) b2))
 have HN2 := Lib.hid (stays HN1.out (bthen ((Below.refl _ w1).drew) b2))
 have HL2 := Lib.hid hl2
 have HLF : Hid (n < lg') := Lib.hid (Nat.lt_of_lt_of_le (heap_lt HN1.out) hl0)
 have hS2 : w2.cell? ⟨x, 0, none⟩ = some (.pointer (some ⟨lg, 0, none⟩)) ∧ w2.cell? ⟨x, 1, none⟩ = some (.map (some mb)) := ⟨cell_later b2 hS1.1, cell_later b2 hS1.2⟩
 clear b2 hl2 hl0 hS1
 refine hK _ _ hS2 ?_
 clear hK K
 try simp only [Act.put, List.setIfInBounds_toArray, List.set_cons_zero, List.set_cons_succ]
 refine wpAnyH_oneL (i := 10) rfl (by kernel_rfl) ?_
 intro K hK
 rw [if_pos (by rfl)]
 go_simp
 go_at_call 61
 refine (mapclone_any mb s.ps w2 (HS.out.map.below HB2.out)).mono ?_
 rintro e w3 ⟨rfl, m3, b3⟩
 have HB3 := Lib.hid (bthen HB2.out b3)
 have HN3 := Lib.hid (stays HN2.out b3)
 have HL3 := Lib.hid (HL2.out.below b3)
 have HM3 := Lib.hid m3
 obtain ⟨mb', hmb'⟩ : ∃ p, w2.heap.size = p := ⟨_, rfl⟩
 have HMF : Hid (n < mb') := Lib.hid (by rw [← hmb']; exact heap_lt HN2.out)
 rw [hmb'] at HM3 ⊢
 have hS3 : w3.cell? ⟨x, 0, none⟩ = some (.pointer (some ⟨lg, 0, none⟩)) ∧ w3.cell? ⟨x, 1, none⟩ = some (.map (some mb)) := ⟨cell_later b3 hS2.1, cell_later b3 hS2.2⟩
 clear b3 m3 hmb' hS2
 refine hK _ _ hS3 ?_
 clear hK K
 try simp only [Act.put, List.setIfInBounds_toArray, List.set_cons_zero, List.set_cons_succ]
 have hxn : x ≠ n := by have h1 := heap_lt HS.out.blk; have h2 := HNN.out; omega
 obtain ⟨n1, n2, nf⟩ := st_cells (lv := .pointer (some ⟨lg, 0, none⟩)) (mb := mb) (n := Sto.size s.ps) (tv := .int .i64 s.turn) (dv := .bool s.dead) HN3.out
 have n0 : w3.cell? ⟨n, 0, none⟩ = some (.pointer (some ⟨lg, 0, none⟩)) := cell_of HN3.out rfl
 have nf0 := nf 0
 have nf1 := nf 1
 clear nf n2
 refine wpAnyH_takeL (i := 11) (v := ?_) rfl (by kernel_rfl) (by kernel_rfl) (by kernel_rfl) (fun _ _ _ h => h) ?_ (by assumption) ?_; rotate_left; focus (first | (refine Or.inr ⟨by rfl, ?_⟩; with_reducible rfl) | (refine Or.inl ⟨by rfl, ?_⟩; (intro w hSw; (try dsimp only at hSw); go_simp); try with_reducible rfl))
 try simp only [Act.put, List.setIfInBounds_toArray, List.set_cons_zero, List.set_cons_succ]
 refine wpAnyH_oneL (i := 12) rfl (by kernel_rfl) ?_
 intro K hK
 rw [if_pos (by rfl)]
 go_simp
 have hS4 : ∀ i v, (w3.setCell ⟨n, i, none⟩ v).cell? ⟨x, 0, none⟩ = some (.pointer (some ⟨lg, 0, none⟩)) ∧ (w3.setCell ⟨n, i, none⟩ v).cell? ⟨x, 1, none⟩ = some (.map (some mb)) := fun i v => by
  have hb : (w3.setCell ⟨n, i, none⟩ v).heap[x]? = w3.heap[x]? := heap_set_ne v hxn
  exact ⟨(World.cell?_of_block (a := ⟨x, 0, none⟩) hb).trans hS3.1, (World.cell?_of_block (a := ⟨x, 1, none⟩) hb).trans hS3.2⟩
 have hS5 : ∀ i v j u, ((w3.setCell ⟨n, i, none⟩ v).setCell ⟨n, j, none⟩ u).cell? ⟨x, 0, none⟩ = some (.pointer (some ⟨lg, 0, none⟩)) ∧ ((w3.setCell ⟨n, i, none⟩ v).setCell ⟨n, j, none⟩ u).cell? ⟨x, 1, none⟩ = some (.map (some mb)) := fun i v j u => by
  have hb : ((w3.setCell ⟨n, i, none⟩ v).setCell ⟨n, j, none⟩ u).heap[x]? = (w3.setCell ⟨n, i, none⟩ v).heap[x]? := heap_set_ne u hxn
  exact ⟨(World.cell?_of_block (a := ⟨x, 0, none⟩) hb).trans (hS4 i v).1, (World.cell?_of_block (a := ⟨x, 1, none⟩) hb).trans (hS4 i v).2⟩
 have HS4 := Lib.hid hS4
 have HS5 := Lib.hid hS5
 clear hS4 hS5
 refine hK _ _ (HS4.out _ _) ?_
 clear hK K
 try simp only [Act.put, List.setIfInBounds_toArray, List.set_cons_zero, List.set_cons_succ]
 have hSn := HS4.out 0 (.pointer (some ⟨lg', 0, none⟩))
 clear hS3
 refine wpAnyH_takeL (i := 13) (v := ?_) rfl (by kernel_rfl) (by kernel_rfl) (by kernel_rfl) (fun _ _ _ h => h) ?_ (by assumption) ?_; rotate_left; focus (first | (refine Or.inr ⟨by rfl, ?_⟩; with_reducible rfl) | (refine Or.inl ⟨by rfl, ?_⟩; (intro w hSw; (try dsimp only at hSw); go_simp); try with_reducible rfl))
 try simp only [Act.put, List.setIfInBounds_toArray, List.set_cons_zero, List.set_cons_succ]
 refine wpAnyH_oneL (i := 14) rfl (by kernel_rfl) ?_
 intro K hK
 rw [if_pos (by rfl)]
 go_simp
 refine hK _ _ (HS5.out _ _ _ _) ?_
 clear hK K
 try simp only [Act.put, List.setIfInBounds_toArray, List.set_cons_zero, List.set_cons_succ]
 refine wpAnyH_done (by kernel_rfl) ?_ _
 go_wp2
 go_ret
 have ht : Touch (· = n) w3 ((w3.setCell ⟨n, 0, none⟩ (.pointer (some ⟨lg', 0, none⟩))).setCell ⟨n, 1, none⟩ (.map (some mb'))) :=
  ((Touch.refl (· = n) w3).setCell (a := ⟨n, 0, none⟩) _ (fun _ => rfl)).setCell (a := ⟨n, 1, none⟩) _ (fun _ => rfl)
 have hN := HNN.out
 have hLF := HLF.out
 have hMF := HMF.out
 refine ⟨n, lg', mb', rfl, ⟨?_, HL3.out.touch ht (by omega), HM3.out.touch ht (by omega), HS.out.good, HS.out.fits⟩, by omega, by omega, by omega, ?_⟩
 ·rw [heap_set _ (heap_set _ HN3.out)]
  simp [storeBlock, stBlock]
 ·have := (Touch.of_below (S := (· = n)) HB3.out).trans ht (fun _ _ e => e)
  exact this.below (Nat.le_refl _) (fun k hk e => by omega)
theorem run_makeMap11 (w : World) : (Instr.makeMap 101 none).run Tryz.prog w = .ok (.map (some w.heap.size)) (w.alloc (.map #[] 0)) := by
 rfl
/-- How New ends. -/
def SNewEnds (c : Nat) (w : World) (o : Option SS) (d d' : DS) (m : Nat) (rb : Option Nat) (r : Int) (e : Ending) (w' : World) : Prop :=
 ∃ v, e = .returned (.tuple #[v, .int .i64 r]) ∧ (∀ s, o = some s → ∃ x lg mb, v = .pointer (some ⟨x, 0, none⟩) ∧ StoAt w' x lg c mb s ∧ w.heap.size ≤ x ∧ w.heap.size ≤ lg ∧ w.heap.size ≤ mb) ∧ (o = none → v = .pointer none) ∧
  ∃ rb', DiskAt w' c d' m rb' ∧ Newer w rb rb' ∧ Touch (own2 c rb) w w' ∧ (d'.dead = true → d.dead = false → rb' = none)
theorem new_none {d E : DS} {r : Int} (h : Wal.new d = (none, E, r)) : r ≠ 0 ∧ SS.new d = (none, E, r) := by
 refine ⟨?_, by unfold SS.new; rw [h]⟩
 unfold Wal.new at h
 split at h
 ·simp at h; omega
 ·split at h
  ·simp at h; omega
  ·split at h
   ·simp at h; omega
   ·simp at h
theorem new_some {d E : DS} {l : Wal.LS} {r : Int} (h : Wal.new d = (some l, E, r)) : r = 0 ∧ SS.new d = (some { l := l, ps := [], turn := 0, dead := false }, E, 0) := by
 refine ⟨?_, by unfold SS.new; rw [h]⟩
 unfold Wal.new at h
 split at h
 ·simp at h
 ·split at h
  ·simp at h
  ·split at h
   ·simp at h
   ·simp at h; omega
set_option maxHeartbeats 2000000 in
set_option maxRecDepth 100000 in
theorem new11_any (c : Nat) (w : World) (d : DS) (m : Nat) (rb : Option Nat) (h : DiskAt w c d m rb) (hm : m < 5000000000000) :
  Calls Tryz.prog 10 #[.pointer (some ⟨c, 0, none⟩)] w (SNewEnds c w (SS.new d).1 d (SS.new d).2.1 (m + 1) rb (SS.new d).2.2) := by
 have HN := Lib.hid (wnew_any c w d m rb h hm)
 have hnil := @Lib.run_eql_slice_nil
 clear h
 obtain ⟨o, E, r, hO⟩ : ∃ o E r, Wal.new d = (o, E, r) := ⟨_, _, _, rfl⟩
 cases o with
 | none =>
  obtain ⟨h1, h2⟩ := new_none hO
  rw [hO] at HN
  rw [h2]
  have hb : (r != 0) = true := by simp [h1]
  clear hO h2 h1
  go_enter Tryz.func10, Tryz.ntmps10
  go_wp2_with fail
  refine HN.out.mono ?_
  rintro e w1 ⟨v, rfl, _, hn, hrest⟩
  obtain rfl := hn rfl
  have HR := Lib.hid hrest
  clear hn hrest
  go_wp2
  go_ret2
  exact ⟨_, rfl, fun s e => (by cases e), fun _ => rfl, HR.out⟩
 | some l =>
  obtain ⟨rfl, h2⟩ := new_some hO
  rw [hO] at HN
  rw [h2]
  have hmk := fun w' => run_makeMap11 w'
  clear hO h2
  go_enter Tryz.func10, Tryz.ntmps10
  go_wp2_with fail
  refine HN.out.mono ?_
  rintro e w1 ⟨v, rfl, hs, _, hrest⟩
  obtain ⟨lg, rfl, hlg, hla⟩ := hs l rfl
  have HR := Lib.hid hrest
  have HL := Lib.hid hla
  clear hs hrest hla
  go_wp2_with fail
  have b2 := balloc w1 (.map #[] 0)
  have m2 := MapAt.made w1
  have b3 := balloc (w1.alloc (.map #[] 0)) (storeBlock lg w1.heap.size { l := l, ps := [], turn := 0, dead := false })
  have n3 := heap_new (w1.alloc (.map #[] 0)) (storeBlock lg w1.heap.size { l := l, ps := [], turn := 0, dead := false })
  have hsz : (w1.alloc (.map #[] 0)).heap.size = w1.heap.size + 1 := by simp
  have b23 := bthen b2 b3
  rw [hsz] at n3
  have m3 := m2.below b3
  have l3 := HL.out.below b23
  have hw : w.heap.size ≤ w1.heap.size := by obtain ⟨_, _, _, h3, _⟩ := HR.out; exact h3.size
  have HZ : Hid (StoAt ((w1.alloc (.map #[] 0)).alloc (storeBlock lg w1.heap.size { l := l, ps := [], turn := 0, dead := false })) (w1.heap.size + 1) lg c w1.heap.size { l := l, ps := [], turn := 0, dead := false }) := Lib.hid ⟨n3, l3, m3, Sto.Good.nil, rfl⟩
  have HR3 : Hid (∃ rb', DiskAt ((w1.alloc (.map #[] 0)).alloc (storeBlock lg w1.heap.size { l := l, ps := [], turn := 0, dead := false })) c E (m + 1) rb' ∧ Newer w rb rb' ∧ Touch (own2 c rb) w ((w1.alloc (.map #[] 0)).alloc (storeBlock lg w1.heap.size { l := l, ps := [], turn := 0, dead := false })) ∧ (E.dead = true → d.dead = false → rb' = none)) := Lib.hid (by
   obtain ⟨rb', h1, h2, h3, h4⟩ := HR.out
   exact ⟨rb', h1.below b23, h2, Touch.trans h3 (Touch.of_below b23) (fun _ _ e => e), h4⟩)
  go_ret2
  exact ⟨_, rfl, fun s e => by cases e; exact ⟨_, _, _, rfl, HZ.out, by omega, hlg, hw⟩, fun e => (by cases e), HR3.out⟩
end Go.Proofs.YtpjpknndfhablaaGreat
namespace Go.Proofs.YtpjpknndfhablaaGreat
open Go.RowKit
theorem reads_short {file : List UInt8} : ∀ (n p : Nat), ∀ s ∈ (Wal.reads file n p).1, s.length ≤ 65536
 | 0, p => by simp [Wal.reads]
 | k + 1, p => by
  unfold Wal.reads
  cases hb : (Wal.whole file p 65536).2 with
  | false => simp
  | true =>
   rw [if_pos rfl]
   intro s hs
   rcases List.mem_cons.1 hs with rfl | hs
   ·exact (Wal.whole_le hb).2
   ·exact reads_short k _ s hs
theorem wopen_few {d : DS} (hok : d.Ok) {q : Wal.Opened} (h : (Wal.open_ d).1 = some q) : q.rs.length ≤ 1048576 ∧ q.l.n ≤ 1048576 ∧ q.l.g ≤ 4611686018427387904 ∧ q.snap.length ≤ 524288 ∧ ∀ s ∈ q.rs, s.length ≤ 65536 := by
 unfold Wal.open_ at h
 split at h
 ·cases h
 ·split at h
  ·cases h
  ·rename_i h1 h2
   split at h
   ·cases h
   ·cases h
    have hc := Wal.recs_count (file := d.file (Wal.best d)) ((d.file (Wal.best d)).length + 1 - (Wal.shown d).2.2) (Wal.shown d).2.2 (Nat.le_refl _)
    have hl := hok.base_len' (Wal.best d)
    have hl2 : (d.file (Wal.best d)).length ≤ 1048576 := hl
    obtain ⟨A, s, p, hA⟩ : ∃ A s p, Wal.shown d = (A, s, p) := ⟨_, _, _, rfl⟩
    have hle := counts_le (G := d.file (Wal.best d)) (A := A) (s := s) (p := p) hA (by rw [hA] at h2; exact h2)
    refine ⟨?_, ?_, by rw [hA]; exact hle.2.1, by rw [hA]; exact hle.2.2, ?_⟩
    ·show (Wal.recs (d.file (Wal.best d)) (Wal.shown d).2.2).1.length ≤ _
     omega
    ·show (Wal.recs (d.file (Wal.best d)) (Wal.shown d).2.2).1.length ≤ _
     omega
    ·exact reads_short _ _
theorem wopen_ok {d : DS} {q : Wal.Opened} {E : DS} {r : Int} (h : Wal.open_ d = (some q, E, r)) : r = 0 := by
 unfold Wal.open_ at h
 split at h
 ·simp at h
 ·split at h
  ·simp at h
  ·split at h
   ·simp at h
   ·simp at h; omega
theorem wopen_bad {d : DS} {E : DS} {r : Int} (h : Wal.open_ d = (none, E, r)) : r ≠ 0 := by
 unfold Wal.open_ at h
 split at h
 ·simp at h; omega
 ·split at h
  ·simp at h; omega
  ·split at h
   ·simp at h; omega
   ·simp at h
namespace SS
/-- One record's changes. -/
def rec1 (m : Sto.Pairs) (r : List UInt8) : Option Sto.Pairs := (Sto.decode r 2 512).bind fun c => Sto.does m c
theorem replay_snoc : ∀ (a : List (List UInt8)) (l : Sto.Pairs) (r : List UInt8), replay l (a ++ [r]) = (replay l a).bind fun m => rec1 m r
 | [], l, r => by
  show (Sto.decode r 2 512).bind (fun c => (Sto.does l c).bind fun m => some m) = (Sto.decode r 2 512).bind fun c => Sto.does l c
  cases Sto.decode r 2 512 with
  | none => rfl
  | some c => show (Sto.does l c).bind some = Sto.does l c; cases Sto.does l c <;> rfl
 | x :: a, l, r => by
  show (Sto.decode x 2 512).bind (fun c => (Sto.does l c).bind fun m => replay m (a ++ [r])) = ((Sto.decode x 2 512).bind fun c => (Sto.does l c).bind fun m => replay m a).bind fun m => rec1 m r
  cases Sto.decode x 2 512 with
  | none => rfl
  | some c =>
   show (Sto.does l c).bind (fun m => replay m (a ++ [r])) = ((Sto.does l c).bind fun m => replay m a).bind fun m => rec1 m r
   cases Sto.does l c with
   | none => rfl
   | some m => exact replay_snoc a m r
theorem replay_append : ∀ (a b : List (List UInt8)) (l : Sto.Pairs), replay l (a ++ b) = (replay l a).bind fun m => replay m b
 | [], b, l => rfl
 | x :: a, b, l => by
  show (Sto.decode x 2 512).bind (fun c => (Sto.does l c).bind fun m => replay m (a ++ b)) = ((Sto.decode x 2 512).bind fun c => (Sto.does l c).bind fun m => replay m a).bind fun m => replay m b
  cases Sto.decode x 2 512 with
  | none => rfl
  | some c =>
   show (Sto.does l c).bind (fun m => replay m (a ++ b)) = ((Sto.does l c).bind fun m => replay m a).bind fun m => replay m b
   cases Sto.does l c with
   | none => rfl
   | some m => exact replay_append a b m
/-- A record more. -/
theorem replay_next {rs : List (List UInt8)} {l m : Sto.Pairs} {j : Nat} {r : List UInt8} (h : replay l (rs.take j) = some m) (hr : rs[j]? = some r) : replay l (rs.take (j + 1)) = rec1 m r := by
 rw [List.take_add_one, hr]
 show replay l (rs.take j ++ [r]) = _
 rw [replay_snoc, h]
 rfl
theorem replay_bad {rs : List (List UInt8)} {l m : Sto.Pairs} {j : Nat} {r : List UInt8} (h : replay l (rs.take j) = some m) (hr : rs[j]? = some r) (hb : rec1 m r = none) : replay l rs = none := by
 have h1 := replay_next h hr
 rw [hb] at h1
 have h2 := replay_append (rs.take (j + 1)) (rs.drop (j + 1)) l
 rw [List.take_append_drop, h1] at h2
 exact h2
end SS
end Go.Proofs.YtpjpknndfhablaaGreat
namespace Go.Proofs.YtpjpknndfhablaaGreat
open Go.RowKit Go.Shelf Go.Lib
set_option maxHeartbeats 1000000 in
theorem isdel_any (x : Sto.Ch) (W : World) : Calls Tryz.prog 50 #[.agg #[.bool x.put, .string ⟨x.key.toArray⟩, .string ⟨x.value.toArray⟩]] W fun e w' => e = .returned (.bool (!x.put)) ∧ Below W.heap.size W w' := by
 obtain ⟨p, k, v⟩ := x
 go_enter Tryz.func50, Tryz.ntmps50
 go_wp2
 go_ret
 exact ⟨rfl, balloc _ _⟩
theorem contains_any (v : Value) (c : List Sto.Ch) (w : World) (h : ChsAt w v c) (h0 : c ≠ []) :
  Calls Tryz.prog 49 #[v, .func (.func 50) #[] #[]] w fun e w' => e = .returned (.bool (c.any fun x => !x.put)) ∧ Below w.heap.size w w' := by
 obtain ⟨ao, cap, rfl, hn1, hn2, hrd⟩ := chsAt_read h
 obtain ⟨x0, hx0⟩ : ∃ x, c[0]? = some x := by cases c with | nil => exact absurd rfl h0 | cons x r => exact ⟨x, rfl⟩
 obtain ⟨g, rfl, hg, _⟩ := hrd 0 x0 hx0
 have hcon := AnyQ.slices_ContainsFunc Tryz.contf 3 Tryz.isAgg116 Tryz.sizeOf116 encC (fun _ => rfl) (fun x => !x.put) 50 #[] (enters_of Tryz.func50 (by kernel_rfl) rfl) g 0 c.length cap c w
  (fun W x hb => Calls.mono (isdel_any x W) (fun _ _ ⟨h1, h2⟩ => ⟨h1, hb.trans (h2.mono hb.size)⟩)) (Nat.le_refl _) (by omega) hg
  (fun j hj i u hu => by
   obtain ⟨x, hx⟩ : ∃ x, c[j]? = some x := ⟨_, List.getElem?_eq_getElem hj⟩
   obtain ⟨g', e', _, a0, a1, a2⟩ := hrd j x hx
   cases e'
   have e1 : c[j]! = x := by rw [getElem!_pos c j hj]; exact (List.getElem?_eq_some_iff.1 hx).2
   rw [e1] at hu
   rw [Nat.zero_add]
   match i, hu with
   | 0, hu => simp [encC] at hu; subst hu; exact a0
   | 1, hu => simp [encC] at hu; subst hu; exact a1
   | 2, hu => simp [encC] at hu; subst hu; exact a2
   | n + 3, hu => simp [encC] at hu)
 have hcon' : Calls Tryz.prog 49 #[.slice (some ⟨g, 0, none⟩) c.length cap, .func (.func 50) #[] #[]] w _ := hcon
 rw [List.take_length] at hcon'
 exact hcon'
/-- A store that Open makes, at some pairs. -/
structure OpAt (w1 : World) (x lg mbn : Nat) (l : Sto.Pairs) (w' : World) : Prop where
 blk : w'.heap[x]? = some (stBlock (.pointer (some ⟨lg, 0, none⟩)) mbn (Sto.size l) (.int .i64 0) (.bool false))
 map : MapAt w' mbn l
 below : Below w1.heap.size w1 w'
 good : Sto.Good l
 fits : Sto.fits l = true
theorem OpAt.later {w1 w' w'' : World} {x lg mbn : Nat} {l : Sto.Pairs} (h : OpAt w1 x lg mbn l w') (hb : Below w'.heap.size w' w'') : OpAt w1 x lg mbn l w'' :=
 ⟨stays h.blk hb, h.map.below hb, bthen h.below hb, h.good, h.fits⟩
theorem OpAt.turned {w1 w' w'' : World} {x lg mbn : Nat} {l l' : Sto.Pairs} (h : OpAt w1 x lg mbn l w') (hx : w1.heap.size ≤ x) (hm : w1.heap.size ≤ mbn) (ht : Touch (fun k => k = x ∨ k = mbn) w' w'') (h2 : MapAt w'' mbn l' ∧ w''.heap[x]? = some (stBlock (.pointer (some ⟨lg, 0, none⟩)) mbn (Sto.size l') (.int .i64 0) (.bool false))) (hg : Sto.Good l') (hf : Sto.fits l' = true) : OpAt w1 x lg mbn l' w'' :=
 ⟨h2.2, h2.1, h.below.trans (ht.below h.below.size (fun k hk e => by rcases e with e | e <;> omega)), hg, hf⟩
theorem OpAt.spent {w1 w' w'' : World} {x lg mbn : Nat} {l : Sto.Pairs} (h : OpAt w1 x lg mbn l w') (hx : w1.heap.size ≤ x) (hm : w1.heap.size ≤ mbn) (ht : Touch (fun k => k = x ∨ k = mbn) w' w'') : Below w1.heap.size w1 w'' :=
 h.below.trans (ht.below h.below.size (fun k hk e => by rcases e with e | e <;> omega))
theorem fits_few {l : Sto.Pairs} (h : Sto.fits l = true) : l.length ≤ 2199023255552 := by
 unfold Sto.fits at h
 simp at h
 omega
set_option maxHeartbeats 4000000 in
set_option maxRecDepth 100000 in
theorem open11_any (c : Nat) (w : World) (d : DS) (m : Nat) (rb : Option Nat) (h : DiskAt w c d m rb) :
  Calls Tryz.prog 14 #[.pointer (some ⟨c, 0, none⟩)] w (SNewEnds c w (SS.open_ d).1 d (SS.open_ d).2.1 m rb (SS.open_ d).2.2) := by
 have HN := Lib.hid (wopen_any c w d m rb h)
 have HFEW : Hid (∀ q, (Wal.open_ d).1 = some q → q.rs.length ≤ 1048576 ∧ q.snap.length ≤ 524288 ∧ ∀ s ∈ q.rs, s.length ≤ 65536) := Lib.hid (fun q hq => by
  obtain ⟨h1, _, _, h2, h3⟩ := wopen_few h.1 hq
  exact ⟨h1, h2, h3⟩)
 clear h
 obtain ⟨o, E, r, hO⟩ : ∃ o E r, Wal.open_ d = (o, E, r) := ⟨_, _, _, rfl⟩
 cases o with
 | none =>
  have hr := wopen_bad hO
  have HX : Hid (SS.open_ d = (none, E, r)) := Lib.hid (by unfold SS.open_; rw [hO])
  rw [hO] at HN
  have hb : (r != 0) = true := by simp [hr]
  clear hO hr HFEW
  go_enter Tryz.func14, Tryz.ntmps14
  go_wp2_with fail
  refine HN.out.mono ?_
  rintro e w1 ⟨v, s, rv, rfl, _, hn, hrest⟩
  obtain ⟨rfl, rfl, rfl⟩ := hn rfl
  have HR := Lib.hid hrest
  clear hn hrest
  go_wp2
  go_ret2
  rw [HX.out]
  exact ⟨_, rfl, fun s e => (by cases e), fun _ => rfl, HR.out⟩
 | some q =>
 obtain rfl := wopen_ok hO
 obtain ⟨ql, sn, rs⟩ := q
 have HX0 : Hid (SS.opened ⟨ql, sn, rs⟩ = none → SS.open_ d = (none, E, 110)) := Lib.hid (fun e => by unfold SS.open_; rw [hO]; simp only [e])
 have HX1 : Hid (∀ l, SS.opened ⟨ql, sn, rs⟩ = some l → SS.open_ d = (some { l := ql, ps := l, turn := 0, dead := false }, E, 0)) := Lib.hid (fun l e => by unfold SS.open_; rw [hO]; simp only [e])
 rw [hO] at HN
 obtain ⟨hf1, hf2, hf3⟩ := HFEW.out _ (by rw [hO])
 have HF3 := Lib.hid hf3
 have hmk := fun w' => run_makeMap11 w'
 clear hO HFEW hf3
 simp only at hf1 hf2 HF3
 go_enter Tryz.func14, Tryz.ntmps14
 go_wp2_with fail
 refine HN.out.mono ?_
 rintro e w1 ⟨v, s, rv, rfl, hs, _, hrest⟩
 obtain ⟨rfl, hrec, lg, rfl, hlg, hla⟩ := hs _ rfl
 have hww : w.heap.size ≤ w1.heap.size := by obtain ⟨_, _, _, h3, _⟩ := hrest; exact h3.size
 have HFAIL : Hid (∀ w', Below w1.heap.size w1 w' → SS.opened ⟨ql, sn, rs⟩ = none → SNewEnds c w (SS.open_ d).1 d (SS.open_ d).2.1 m rb (SS.open_ d).2.2 (.returned (.tuple #[.pointer none, .int .i64 110])) w') := Lib.hid (fun w' hb hn => by
  rw [HX0.out hn]
  obtain ⟨rb', h1, h2, h3, h4⟩ := hrest
  exact ⟨_, rfl, fun s e => (by cases e), fun _ => rfl, rb', h1.below hb, h2, Touch.trans h3 (Touch.of_below hb) (fun _ _ e => e), h4⟩)
 have HGOOD : Hid (∀ w' x mbn l, OpAt w1 x lg mbn l w' → w1.heap.size ≤ x → w1.heap.size ≤ mbn → SS.opened ⟨ql, sn, rs⟩ = some l → SNewEnds c w (SS.open_ d).1 d (SS.open_ d).2.1 m rb (SS.open_ d).2.2 (.returned (.tuple #[.pointer (some ⟨x, 0, none⟩), .int .i64 0])) w') := Lib.hid (fun w' x mbn l ha hx hm hn => by
  rw [HX1.out l hn]
  obtain ⟨rb', h1, h2, h3, h4⟩ := hrest
  exact ⟨_, rfl, fun s e => (by cases e; exact ⟨x, lg, mbn, rfl, ⟨ha.blk, hla.below ha.below, ha.map, ha.good, ha.fits⟩, Nat.le_trans hww hx, hlg, Nat.le_trans hww hm⟩), fun e => (by cases e), rb', h1.below ha.below, h2, Touch.trans h3 (Touch.of_below ha.below) (fun _ _ e => e), h4⟩)
 obtain ⟨g, cur, rfl, hgb, hg, hgs, hgc⟩ := hrec
 have HG : Hid (∀ w', Below w1.heap.size w1 w' → ∀ j r, rs[j]? = some r → w'.cell? ⟨g, j, none⟩ = some (.string ⟨r.toArray⟩)) := Lib.hid (fun w' hb j r hj => cell_of (stays hg hb) (hgc j r hj))
 have b2 := balloc w1 (.map #[] 0)
 have m2 := MapAt.made w1
 have b3 := balloc (w1.alloc (.map #[] 0)) (stBlock (.pointer (some ⟨lg, 0, none⟩)) w1.heap.size (Sto.size []) (.int .i64 0) (.bool false))
 have n3 := heap_new (w1.alloc (.map #[] 0)) (stBlock (.pointer (some ⟨lg, 0, none⟩)) w1.heap.size (Sto.size []) (.int .i64 0) (.bool false))
 have hsz : (w1.alloc (.map #[] 0)).heap.size = w1.heap.size + 1 := by simp
 rw [hsz] at n3
 have HA2 : Hid (OpAt w1 (w1.heap.size + 1) lg w1.heap.size [] ((w1.alloc (.map #[] 0)).alloc (.cells #[.pointer (some ⟨lg, 0, none⟩), .map (some w1.heap.size), .int .i64 0, .int .i64 0, .bool false] 103 (0, 0)))) := Lib.hid ⟨n3, m2.below b3, bthen b2 b3, Sto.Good.nil, rfl⟩
 clear hs hrest hla hg hgc b2 m2 b3 n3 hsz HX0 HX1 HN hgs
 by_cases hsn : sn = []
 case pos =>
  have hse : sn.isEmpty = true := by rw [hsn]; rfl
  have HOP : Hid (SS.opened ⟨ql, sn, rs⟩ = SS.replay [] rs) := Lib.hid (by unfold SS.opened SS.snapPairs; rw [if_pos hsn]; rfl)
  clear hsn
  go_wp2_with fail
  obtain ⟨mbn, hmbn⟩ : ∃ b, w1.heap.size = b := ⟨_, rfl⟩
  obtain ⟨x, hx⟩ : ∃ b, w1.heap.size + 1 = b := ⟨_, rfl⟩
  have HXN : Hid (w1.heap.size ≤ x ∧ w1.heap.size ≤ mbn) := Lib.hid (by omega)
  rw [hx, hmbn] at HA2
  obtain ⟨w2, hw2⟩ : ∃ W, (w1.alloc (.map #[] 0)).alloc (.cells #[.pointer (some ⟨lg, 0, none⟩), .map (some mbn), .int .i64 0, .int .i64 0, .bool false] 103 (0, 0)) = W := ⟨_, rfl⟩
  rw [hw2] at HA2
  rw [hx, hmbn, hw2]
  have HA := Lib.hid HA2.out
  clear hx hmbn hw2 HA2
  go_loopw [50] (fun i wr => ∃ (j : Nat) (l : Sto.Pairs), i = .int .i64 j ∧ j ≤ rs.length ∧ SS.replay [] (rs.take j) = some l ∧ OpAt w1 x lg mbn l wr) (fun i _ => rs.length - (intOf i).toNat)
  case atStart => exact ⟨0, [], rfl, Nat.zero_le _, rfl, HA.out⟩
  case round =>
   obtain ⟨j, l, rfl, hj, hst, hop⟩ := hrel
   have HST := Lib.hid hst
   have HO1 := Lib.hid hop
   clear hst hop
   by_cases hlt : j < rs.length
   ·obtain ⟨r, hr⟩ : ∃ x, rs[j]? = some x := ⟨_, List.getElem?_eq_getElem hlt⟩
    have cr := HG.out _ HO1.out.below j r hr
    have hrl := HF3.out r (List.mem_of_getElem? hr)
    have HRJ := Lib.hid hr
    clear hr
    go_wp2_with fail
    have hde := decode11_any r 2 512 wr (by omega) (by decide) (by decide)
    cases hdc : Sto.decode r 2 512 with
    | none =>
     rw [hdc] at hde
     have HDE := Lib.hid hde
     have HN := Lib.hid (HOP.out.trans (SS.replay_bad HST.out HRJ.out (by unfold SS.rec1; rw [hdc]; try rfl)))
     clear hdc hde cr
     refine HDE.out.mono ?_
     rintro e w6 ⟨v, rfl, cz, _, _, b6⟩
     have HB6 := Lib.hid (bthen HO1.out.below b6)
     clear b6
     go_wp2
     go_ret2
     exact HFAIL.out _ HB6.out HN.out
    | some ch =>
    rw [hdc] at hde
    have HDE := Lib.hid hde
    have HF := Lib.hid (Sto.decode_fine hdc)
    have HR1 : Hid (SS.rec1 l r = Sto.does l ch) := Lib.hid (by unfold SS.rec1; rw [hdc]; try rfl)
    clear hdc hde cr
    refine HDE.out.mono ?_
    rintro e w6 ⟨v, rfl, cz, hcz, hce, b6⟩
    obtain rfl := hce _ rfl
    have HO6 := Lib.hid (HO1.out.later b6)
    have HC6 := Lib.hid hcz
    clear b6 hcz hce HDE HO1
    go_wp2_with fail
    refine (does11_any x mbn _ _ _ w6 l _ cz HO6.out.blk HO6.out.map HC6.out HO6.out.good HF.out.2.2.1 (fits_few HO6.out.fits) (by have := HF.out.1; omega)).mono ?_
    rintro e w7 ⟨rfl, ht7, hr7⟩
    have HR7 := Lib.hid hr7
    have HT7 := Lib.hid ht7
    clear ht7 hr7
    cases hdo : Sto.does l cz with
    | none =>
     have HN := Lib.hid (HOP.out.trans (SS.replay_bad HST.out HRJ.out (HR1.out.trans hdo)))
     have HB7 := Lib.hid (HO6.out.spent HXN.out.1 HXN.out.2 HT7.out)
     clear hdo
     go_wp2
     go_ret2
     exact HFAIL.out _ HB7.out HN.out
    | some l1 =>
    have HST1 : Hid (SS.replay [] (rs.take (j + 1)) = some l1) := Lib.hid ((SS.replay_next HST.out HRJ.out).trans (HR1.out.trans hdo))
    have HG1 := Lib.hid (HO6.out.good.does HF.out.2.2.1 hdo)
    have HO7 := Lib.hid (HO6.out.turned HXN.out.1 HXN.out.2 HT7.out (HR7.out l1 hdo) HG1.out.1 HG1.out.2)
    clear hdo HR7 HT7 HO6 HC6 HF HG1
    go_wp2_with fail
    go_roundw
    all_goals first
     | (simp [intOf]; omega)
     | exact ⟨j + 1, l1, by go_num, by omega, HST1.out, HO7.out⟩
   ·have hjr : j = rs.length := by omega
    have HN : Hid (SS.opened ⟨ql, sn, rs⟩ = some l) := Lib.hid (HOP.out.trans (by have := HST.out; rw [hjr, List.take_length] at this; exact this))
    have hjb : ¬ (j : Int) < rs.length := by omega
    clear hjr
    go_wp2
    go_ret2
    exact HGOOD.out _ _ _ _ HO1.out HXN.out.1 HXN.out.2 HN.out
 have hse : sn.isEmpty = false := by cases sn with | nil => exact absurd rfl hsn | cons a r => rfl
 have HOP : Hid (SS.opened ⟨ql, sn, rs⟩ = ((Sto.decode sn 4 2048).bind fun c => if c.all (·.put) then Sto.does [] c else none).bind fun l => SS.replay l rs) := Lib.hid (by unfold SS.opened SS.snapPairs; rw [if_neg hsn])
 clear hsn
 go_wp2_with fail
 obtain ⟨mbn, hmbn⟩ : ∃ b, w1.heap.size = b := ⟨_, rfl⟩
 obtain ⟨x, hx⟩ : ∃ b, w1.heap.size + 1 = b := ⟨_, rfl⟩
 have HXN : Hid (w1.heap.size ≤ x ∧ w1.heap.size ≤ mbn) := Lib.hid (by omega)
 rw [hx, hmbn] at HA2
 obtain ⟨w2, hw2⟩ : ∃ W, (w1.alloc (.map #[] 0)).alloc (.cells #[.pointer (some ⟨lg, 0, none⟩), .map (some mbn), .int .i64 0, .int .i64 0, .bool false] 103 (0, 0)) = W := ⟨_, rfl⟩
 rw [hw2] at HA2
 rw [hx, hmbn, hw2]
 have HA := Lib.hid HA2.out
 clear hx hmbn hw2 HA2
 have hde := decode11_any sn 4 2048 w2 (by omega) (by decide) (by decide)
 cases hdc : Sto.decode sn 4 2048 with
 | none =>
  rw [hdc] at hde
  have HDE := Lib.hid hde
  have HN := Lib.hid (HOP.out.trans (by rw [hdc]; try rfl))
  clear hdc hde
  refine HDE.out.mono ?_
  rintro e w3 ⟨v, rfl, cz, _, _, b3⟩
  have HB3 := Lib.hid (bthen HA.out.below b3)
  clear b3
  go_wp2
  go_ret2
  exact HFAIL.out _ HB3.out HN.out
 | some ch =>
 rw [hdc] at hde
 have HDE := Lib.hid hde
 have HF := Lib.hid (Sto.decode_fine hdc)
 have HOQ : Hid (SS.opened ⟨ql, sn, rs⟩ = (if ch.all (·.put) then Sto.does [] ch else none).bind fun l => SS.replay l rs) := Lib.hid (HOP.out.trans (by rw [hdc]; try rfl))
 clear hdc hde HOP
 refine HDE.out.mono ?_
 rintro e w3 ⟨v, rfl, cz, hcz, hce, b3⟩
 obtain rfl := hce _ rfl
 have HA3 := Lib.hid (HA.out.later b3)
 have HC3 := Lib.hid hcz
 clear b3 hcz hce HDE HA
 have hct := contains_any _ cz w3 HC3.out HF.out.2.1
 rw [← List.not_all_eq_any_not] at hct
 go_wp2_with fail
 cases hall : cz.all (·.put) with
 | false =>
  rw [hall] at hct
  have HN := Lib.hid (HOQ.out.trans (by rw [hall]; try rfl))
  clear hall
  refine hct.mono ?_
  clear hct
  rintro e w4 ⟨rfl, b4⟩
  have HB4 := Lib.hid (bthen HA3.out.below b4)
  clear b4
  go_wp2
  go_ret2
  exact HFAIL.out _ HB4.out HN.out
 | true =>
 rw [hall] at hct
 have HOR := Lib.hid (HOQ.out.trans (by rw [hall, if_pos rfl]))
 clear hall HOQ
 refine hct.mono ?_
 clear hct
 rintro e w4 ⟨rfl, b4⟩
 have HA4 := Lib.hid (HA3.out.later b4)
 have HC4 := Lib.hid (HC3.out.below b4)
 clear b4 HA3 HC3
 go_wp2_with fail
 refine (does11_any x mbn _ _ _ w4 [] _ cz HA4.out.blk HA4.out.map HC4.out Sto.Good.nil HF.out.2.2.1 (Nat.zero_le _) (by have := HF.out.1; omega)).mono ?_
 rintro e w5 ⟨rfl, ht5, hr5⟩
 have HR5 := Lib.hid hr5
 have HT5 := Lib.hid ht5
 clear ht5 hr5
 cases hdo : Sto.does [] cz with
 | none =>
  have HN := Lib.hid (HOR.out.trans (by rw [hdo]; try rfl))
  have HB5 := Lib.hid (HA4.out.spent HXN.out.1 HXN.out.2 HT5.out)
  clear hdo
  go_wp2
  go_ret2
  exact HFAIL.out _ HB5.out HN.out
 | some l0 =>
 have HOS : Hid (SS.opened ⟨ql, sn, rs⟩ = SS.replay l0 rs) := Lib.hid (HOR.out.trans (by rw [hdo]; try rfl))
 have HG0 := Lib.hid (Sto.Good.nil.does HF.out.2.2.1 hdo)
 have HA5 := Lib.hid (HA4.out.turned HXN.out.1 HXN.out.2 HT5.out (HR5.out l0 hdo) HG0.out.1 HG0.out.2)
 clear hdo HOR HR5 HT5 HA4 HC4 HF HG0
 go_wp2_with fail
 go_loopw [50] (fun i wr => ∃ (j : Nat) (l : Sto.Pairs), i = .int .i64 j ∧ j ≤ rs.length ∧ SS.replay l0 (rs.take j) = some l ∧ OpAt w1 x lg mbn l wr) (fun i _ => rs.length - (intOf i).toNat)
 case atStart => exact ⟨0, l0, rfl, Nat.zero_le _, rfl, HA5.out⟩
 case round =>
  obtain ⟨j, l, rfl, hj, hst, hop⟩ := hrel
  have HST := Lib.hid hst
  have HO1 := Lib.hid hop
  clear hst hop
  by_cases hlt : j < rs.length
  ·obtain ⟨r, hr⟩ : ∃ x, rs[j]? = some x := ⟨_, List.getElem?_eq_getElem hlt⟩
   have cr := HG.out _ HO1.out.below j r hr
   have hrl := HF3.out r (List.mem_of_getElem? hr)
   have HRJ := Lib.hid hr
   clear hr
   go_wp2_with fail
   have hde := decode11_any r 2 512 wr (by omega) (by decide) (by decide)
   cases hdc : Sto.decode r 2 512 with
   | none =>
    rw [hdc] at hde
    have HDE := Lib.hid hde
    have HN := Lib.hid (HOS.out.trans (SS.replay_bad HST.out HRJ.out (by unfold SS.rec1; rw [hdc]; try rfl)))
    clear hdc hde cr
    refine HDE.out.mono ?_
    rintro e w6 ⟨v, rfl, cz, _, _, b6⟩
    have HB6 := Lib.hid (bthen HO1.out.below b6)
    clear b6
    go_wp2
    go_ret2
    exact HFAIL.out _ HB6.out HN.out
   | some ch =>
   rw [hdc] at hde
   have HDE := Lib.hid hde
   have HF := Lib.hid (Sto.decode_fine hdc)
   have HR1 : Hid (SS.rec1 l r = Sto.does l ch) := Lib.hid (by unfold SS.rec1; rw [hdc]; try rfl)
   clear hdc hde cr
   refine HDE.out.mono ?_
   rintro e w6 ⟨v, rfl, cz, hcz, hce, b6⟩
   obtain rfl := hce _ rfl
   have HO6 := Lib.hid (HO1.out.later b6)
   have HC6 := Lib.hid hcz
   clear b6 hcz hce HDE HO1
   go_wp2_with fail
   refine (does11_any x mbn _ _ _ w6 l _ cz HO6.out.blk HO6.out.map HC6.out HO6.out.good HF.out.2.2.1 (fits_few HO6.out.fits) (by have := HF.out.1; omega)).mono ?_
   rintro e w7 ⟨rfl, ht7, hr7⟩
   have HR7 := Lib.hid hr7
   have HT7 := Lib.hid ht7
   clear ht7 hr7
   cases hdo : Sto.does l cz with
   | none =>
    have HN := Lib.hid (HOS.out.trans (SS.replay_bad HST.out HRJ.out (HR1.out.trans hdo)))
    have HB7 := Lib.hid (HO6.out.spent HXN.out.1 HXN.out.2 HT7.out)
    clear hdo
    go_wp2
    go_ret2
    exact HFAIL.out _ HB7.out HN.out
   | some l1 =>
   have HST1 : Hid (SS.replay l0 (rs.take (j + 1)) = some l1) := Lib.hid ((SS.replay_next HST.out HRJ.out).trans (HR1.out.trans hdo))
   have HG1 := Lib.hid (HO6.out.good.does HF.out.2.2.1 hdo)
   have HO7 := Lib.hid (HO6.out.turned HXN.out.1 HXN.out.2 HT7.out (HR7.out l1 hdo) HG1.out.1 HG1.out.2)
   clear hdo HR7 HT7 HO6 HC6 HF HG1
   go_wp2_with fail
   go_roundw
   all_goals first
    | (simp [intOf]; omega)
    | exact ⟨j + 1, l1, by go_num, by omega, HST1.out, HO7.out⟩
  ·have hjr : j = rs.length := by omega
   have HN : Hid (SS.opened ⟨ql, sn, rs⟩ = some l) := Lib.hid (HOS.out.trans (by have := HST.out; rw [hjr, List.take_length] at this; exact this))
   have hjb : ¬ (j : Int) < rs.length := by omega
   clear hjr
   go_wp2
   go_ret2
   exact HGOOD.out _ _ _ _ HO1.out HXN.out.1 HXN.out.2 HN.out
end Go.Proofs.YtpjpknndfhablaaGreat
