/- Walk of plays at a call of After; then plays at any call. -/
import Derived.Test.YtpjpknndfhablaaDoesP
namespace Go.Proofs.Ytpjpknndfhablaa
open Go.RowKit

theorem HerdAt.away {w0 w w' : World} {L : List Ent} {i c y : Nat} {d g : DS} {m q : Nat} {cur : Array Value} {fr : Nat × Nat} (h : HerdAt w0 w L i c y d g m) (hq : w.heap[q]? = some (.cells cur 9 fr)) (hlo : w0.heap.size ≤ q) (ht : Touch (· = q) w w') : HerdAt w0 w' L i c y d g m := by
  obtain ⟨hi, e, a, b, p, r, h⟩ := h; exact ⟨hi, e, a, b, p, r, h.awayT ⟨by decide, by decide, by decide, by decide⟩ hq hlo ht⟩
theorem KeepsX.away {w w1 w2 : World} {q : Nat} (h : KeepsX w w1) (hs : w.heap.size ≤ q) (hsz : w.heap.size ≤ w1.heap.size) (ht : Touch (· = q) w1 w2) : KeepsX w w2 := fun g o hg hn hr => by
  have hl := heap_lt hg
  exact (ht.block g (by omega) (by omega)).trans (h g o hg hn hr)
theorem touch_set {w : World} {q i : Nat} {v : Value} : Touch (· = q) w (w.setCell ⟨q, i, none⟩ v) := (Touch.refl _ _).setCell _ (fun _ => rfl)
/-- Two texts at the head of a block, some capacity behind them. -/
def Head2 (w : World) (q : Nat) (x y : Value) : Prop := ∃ cur : Array Value, w.heap[q]? = some (.cells cur 9 (0, 0)) ∧ cur[0]? = some x ∧ cur[1]? = some y
theorem Head2.cells {w : World} {q : Nat} {x y : Value} (h : Head2 w q x y) : w.cell? ⟨q, 0, none⟩ = some x ∧ w.cell? ⟨q, 1, none⟩ = some y ∧ (∀ i, w.frozen? ⟨q, i, none⟩ = false) ∧ q < w.heap.size := by
  obtain ⟨cur, hg, h0, h1⟩ := h
  exact ⟨cell_of hg h0, cell_of hg h1, free_of hg, heap_lt hg⟩
theorem Head2.set0 {w : World} {q : Nat} {x y : Value} (h : Head2 w q x y) (v : Value) : Head2 (w.setCell ⟨q, 0, none⟩ v) q v y := by
  obtain ⟨cur, hg, h0, h1⟩ := h
  refine ⟨_, heap_set v hg, ?_, ?_⟩
  · obtain ⟨hl, _⟩ := Array.getElem?_eq_some_iff.1 h0
    simp [hl]
  · rw [Array.getElem?_setIfInBounds_ne (by decide)]; exact h1
theorem Head2.set1 {w : World} {q : Nat} {x y : Value} (h : Head2 w q x y) (v : Value) : Head2 (w.setCell ⟨q, 1, none⟩ v) q x v := by
  obtain ⟨cur, hg, h0, h1⟩ := h
  refine ⟨_, heap_set v hg, ?_, ?_⟩
  · rw [Array.getElem?_setIfInBounds_ne (by decide)]; exact h0
  · obtain ⟨hl, _⟩ := Array.getElem?_eq_some_iff.1 h1
    simp [hl]
theorem Head2.below {w w' : World} {q : Nat} {x y : Value} (h : Head2 w q x y) (hb : Below w.heap.size w w') : Head2 w' q x y := by
  obtain ⟨cur, hg, h0, h1⟩ := h
  exact ⟨cur, stays hg hb, h0, h1⟩
theorem Head2.own {w : World} {q : Nat} {x y : Value} (h : Head2 w q x y) : OwnF w 0 1 (.slice (some ⟨q, 0, none⟩) 2 2) 2 [x, y] := by
  obtain ⟨c0, c1, cf, hl⟩ := h.cells
  refine ⟨rfl, .inr ⟨q, 2, rfl, by omega, hl, by omega, by decide, fun j hj => ⟨?_, cf j⟩, fun j u hu => ?_⟩⟩
  · rcases (show j = 0 ∨ j = 1 by omega) with rfl | rfl
    · rw [c0]; rfl
    · rw [c1]; rfl
  · match j, hu with
    | 0, hu => simp at hu; subst hu; exact c0
    | 1, hu => simp at hu; subst hu; exact c1
theorem OpIs.away {w w' : World} {g q : Nat} {k a b : Int} {s : List UInt8} (h : OpIs w g k a b s) {cur : Array Value} {fr : Nat × Nat} (hq : w.heap[q]? = some (.cells cur 9 fr)) (ht : Touch (· = q) w w') : OpIs w' g k a b s := by
  obtain ⟨c, hg, h0⟩ := h
  refine ⟨c, (ht.block g (heap_lt hg) (fun e => ?_)).trans hg, h0⟩
  subst e
  rw [hq] at hg; simp at hg
theorem Try.textInfo : (Try.prog.info? 9).map (fun i => (i.zero, i.size, i.bytes)) = some (some (.string ⟨#[]⟩), 1, 16) := by kernel_rfl

set_option maxHeartbeats 2000000 in
set_option maxRecDepth 100000 in
theorem plays_after {w0 : World} (w : World) {L : List Ent} {i c y : Nat} {d : DS} {m : Nat} (o : OpV) (h : HerdAt w0 w L i c y d d m) (ho : OpFits o) (hk : o.kind = 8) :
    Calls Try.prog 27 #[.pointer (some ⟨c, 0, none⟩), .pointer (some ⟨y, 0, none⟩), .agg #[.int .i64 o.on, .int .i64 o.kind, .int .i64 o.a, .int .i64 o.b, .string ⟨o.s.toArray⟩]] w fun e w' =>
      e = .returned (.bool true) ∧ HerdAt w0 w' L i c y d d (m + 1) ∧ KeepsX w w' := by
  obtain ⟨hs, ha0, ha1, hb0, hb1⟩ := ho
  have HW0 := Lib.hid h.old.size
  rw [hk]
  clear hk
  have HX := Lib.hid (h.below (balloc w (.cells #[.int .i64 o.on, .int .i64 8, .int .i64 o.a, .int .i64 o.b, .string ⟨o.s.toArray⟩] 47)))
  have HO : Hid (OpIs (w.alloc (.cells #[.int .i64 o.on, .int .i64 8, .int .i64 o.a, .int .i64 o.b, .string ⟨o.s.toArray⟩] 47)) w.heap.size 8 o.a o.b o.s) := ⟨_, heap_new w _, rfl, rfl, rfl, rfl⟩
  have HK : Hid (Below w.heap.size w (w.alloc (.cells #[.int .i64 o.on, .int .i64 8, .int .i64 o.a, .int .i64 o.b, .string ⟨o.s.toArray⟩] 47))) := balloc _ _
  clear h
  go_enter Try.func27, Try.ntmps27
  go_wp2_with fail
  generalize hwx : w.alloc (.cells #[.int .i64 o.on, .int .i64 8, .int .i64 o.a, .int .i64 o.b, .string ⟨o.s.toArray⟩] 47) = wx at HO HX HK ⊢
  clear hwx
  obtain ⟨G, hG⟩ : ∃ G, w.heap.size = G := ⟨_, rfl⟩
  have HG := Lib.hid hG
  rw [hG] at HO ⊢
  clear hG
  obtain ⟨x1, x2, x3, x4⟩ := HO.out.cells
  go_wp2_with fail
  refine (after_herd HX.out o.a ha0 ha1).mono ?_
  rintro e wa ⟨q, rfl, hq, ta, pa, ba⟩
  have HQ : Hid (w.heap.size ≤ q ∧ w0.heap.size ≤ q) := ⟨Nat.le_trans HK.out.size hq, Nat.le_trans (Nat.le_trans HW0.out HK.out.size) hq⟩
  have TA := Lib.hid ta
  have PA := Lib.hid pa
  have BA := Lib.hid (bthen HK.out ba)
  have HA := Lib.hid (HO.out.below ba)
  obtain ⟨y1, y2, y3, y4⟩ := HA.out.cells
  clear ta pa ba hq x1 x2 x3 x4
  go_wp2_with fail
  refine (rafter_herd PA.out o.a ha1).mono ?_
  rintro e wb ⟨q', rfl, _, tb, pb, bb⟩
  have TB := Lib.hid tb
  have TA' := Lib.hid (TA.out.below bb)
  have PB := Lib.hid pb
  have BB := Lib.hid (bthen BA.out bb)
  have HB := Lib.hid (HA.out.below bb)
  clear tb pb bb y1 y2 y3 y4
  go_wp2_with fail
  refine (same_any wb _ _ 2 2 _ _ TA'.out.texts TB.out.texts).mono ?_
  rw [show decide ([d.left o.a.toNat false, d.left o.a.toNat true] = [d.left o.a.toNat false, d.left o.a.toNat true]) = true from decide_eq_true rfl]
  rintro e wc ⟨rfl, bc⟩
  have H2 : Hid (Head2 wc q (.string ⟨(d.left o.a.toNat false).toArray⟩) (.string ⟨(d.left o.a.toNat true).toArray⟩)) := (TA'.out.below bc)
  have PC := Lib.hid (PB.out.below bc)
  have BC := Lib.hid (bthen BB.out bc)
  have HC := Lib.hid (HB.out.below bc)
  clear bc
  go_wp2
  go_loopw [13] (fun jv wr => ∃ (j : Nat) (u v : Value), jv = .int .i64 j ∧ j ≤ 2 ∧ Head2 wr q u v ∧ u.oneCell' = true ∧ v.oneCell' = true ∧ HerdAt w0 wr L i c y d d m ∧ KeepsX w wr ∧ w.heap.size ≤ wr.heap.size ∧ OpIs wr G 8 o.a o.b o.s) (fun jv _ => 2 - (intOf jv).toNat)
  case atStart => exact ⟨0, _, _, rfl, by omega, H2.out, rfl, rfl, PC.out, .below BC.out, BC.out.size, HC.out⟩
  case round =>
    obtain ⟨j, u, v, rfl, hj, hh, hu, hv, hp, hk, hsz, hop⟩ := hrel
    have HH := Lib.hid hh
    have HP := Lib.hid hp
    have HKK := Lib.hid hk
    have HSZ := Lib.hid hsz
    have HOP := Lib.hid hop
    have HU := Lib.hid hu
    have HV := Lib.hid hv
    obtain ⟨c0, c1, cf, cl⟩ := hh.cells
    obtain ⟨cur, hcur, _⟩ := hh
    have HCUR := Lib.hid hcur
    clear hp hk hsz hop hcur hu hv
    rcases (show j = 0 ∨ j = 1 ∨ j = 2 by omega) with rfl | rfl | rfl
    · go_wp2
      go_roundw
      case rel => exact ⟨0 + 1, _, _, by go_num, by omega, HH.out.set0 _, rfl, HV.out, HP.out.away HCUR.out HQ.out.2 touch_set, HKK.out.away HQ.out.1 HSZ.out touch_set, by rw [World.size_setCell]; exact HSZ.out, HOP.out.away HCUR.out touch_set⟩
      case measure => simp [intOf]
    · go_wp2
      go_roundw
      case rel => exact ⟨1 + 1, _, _, by go_num, by omega, HH.out.set1 _, HU.out, rfl, HP.out.away HCUR.out HQ.out.2 touch_set, HKK.out.away HQ.out.1 HSZ.out touch_set, by rw [World.size_setCell]; exact HSZ.out, HOP.out.away HCUR.out touch_set⟩
      case measure => simp [intOf]
    · clear c0 c1 cf cl
      go_wp2_with (first | (at_builtin; go_must (refine wpList_append_ownF _ rfl (.tmp 141) (.tmp 142) 22 rfl 0 9 1 16 _ Try.textInfo Try.underlying22 rfl (by decide) _ 2 [u, v] rfl (HH.out.below (balloc wr _)).own ⟨wr.heap.size, 0, none⟩ 1 1 [.string ⟨#[109, 111, 114, 101]⟩] rfl rfl (fun i u hi => by rw [addr_add, Nat.zero_add]; exact cell_of (heap_new wr _) (by simpa using hi)) (by intro u hu; simp at hu; subst hu; rfl) (by decide) (by decide) (by decide) (by omega) ?_; intro v' wd hown hgrow _; obtain ⟨ao3, cap3, rfl, _, _⟩ := hown.slice; have HGR := Lib.hid hgrow; clear hown hgrow)))
      have bx := balloc wr (.cells #[.string ⟨#[109, 111, 114, 101]⟩] 9)
      have ht : Touch (· = q) (wr.alloc (.cells #[.string ⟨#[109, 111, 114, 101]⟩] 9)) wd := (touch_of_grown HGR.out).mono (fun k _ hk => (Option.some.inj (show some q = some k from hk)).symm)
      have hcur := stays HCUR.out bx
      have HP2 := Lib.hid ((HP.out.below bx).away hcur HQ.out.2 ht)
      have HOP2 := Lib.hid ((HOP.out.below bx).away hcur ht)
      have HK2 := Lib.hid ((HKK.out.trans (.below bx)).away HQ.out.1 (Nat.le_trans HSZ.out bx.size) ht)
      obtain ⟨z1, z2, z3, z4⟩ := HOP2.out.cells
      clear bx ht hcur
      go_wp2_with fail
      go_region_held3 (fun w' => w'.cell? ⟨G, 2, none⟩ = some (.int .i64 o.a))
        (first | exact z2 | assumption)
        (first
          | (go_at_call 19; have hx := HP2.out.below (Below.refl _ _).drew; clear HP2; refine (after_herd hx o.a ha0 ha1).mono ?_; rintro e3 we ⟨q3, rfl, _, te, pe, be⟩; have PE := Lib.hid pe; have TE := Lib.hid te; have be' := bthen (Below.refl _ _).drew be; have KE := Lib.hid (HK2.out.trans (.below be')); have HE := Lib.hid (HOP2.out.below be'); obtain ⟨_, e2, _, _⟩ := HE.out.cells; clear pe te be be' hx)
          | (go_at_call 72; refine (rafter_herd PE.out o.a ha1).mono ?_; rintro e4 wf ⟨q4, rfl, _, tf, pf, bf⟩; have PF := Lib.hid pf; have TF := Lib.hid tf; have TE2 := Lib.hid (TE.out.below bf); have KF := Lib.hid (KE.out.trans (.below bf)); have HF := Lib.hid (HE.out.below bf); obtain ⟨_, f2, _, _⟩ := HF.out.cells; clear pf tf bf)
          | (go_at_call 18; refine (same_any _ _ _ 2 2 _ _ TE2.out.texts TF.out.texts).mono ?_; rw [show decide ([d.left o.a.toNat false, d.left o.a.toNat true] = [d.left o.a.toNat false, d.left o.a.toNat true]) = true from decide_eq_true rfl]; rintro e5 wg ⟨rfl, bg⟩; have PG := Lib.hid (PF.out.below bg); have KG := Lib.hid (KF.out.trans (.below bg)); have HGG := Lib.hid (HF.out.below bg); obtain ⟨_, g2, _, _⟩ := HGG.out.cells; clear bg))
      go_wp2
      go_ret
      exact ⟨rfl, PG.out.mono (by omega), KG.out⟩

theorem plays_any {w0 : World} (w : World) {L : List Ent} {i c y : Nat} {d : DS} {m : Nat} (o : OpV) (h : HerdAt w0 w L i c y d d m) (ho : OpFits o) (hm : m < 5000000000000) :
    Calls Try.prog 27 #[.pointer (some ⟨c, 0, none⟩), .pointer (some ⟨y, 0, none⟩), .agg #[.int .i64 o.on, .int .i64 o.kind, .int .i64 o.a, .int .i64 o.b, .string ⟨o.s.toArray⟩]] w fun e w' =>
      e = .returned (.bool true) ∧ HerdAt w0 w' L i c y (d.does o) (d.does o) (m + 1) ∧ KeepsX w w' := by
  unfold DS.does
  by_cases h0 : o.kind = 0
  · rw [if_neg (by omega), if_neg (by omega), if_neg (by omega), if_neg (by omega), if_neg (by omega), if_neg (by omega)]; exact plays_read w o h ho h0
  by_cases h1 : o.kind = 1
  · rw [if_pos h1]; exact plays_append w o h ho hm h1
  rw [if_neg h1]
  by_cases h2 : o.kind = 2
  · rw [if_pos h2]; exact plays_sync w o h ho h2
  rw [if_neg h2]
  by_cases h3 : o.kind = 3
  · rw [if_pos h3]; exact plays_cut w o h ho h3
  rw [if_neg h3]
  by_cases h4 : o.kind = 4
  · rw [if_pos h4]; exact plays_arm w o h ho h4
  rw [if_neg h4]
  by_cases h5 : o.kind = 5
  · rw [if_pos h5]; exact plays_crash w o h ho h5
  rw [if_neg h5]
  by_cases h6 : o.kind = 6
  · rw [if_pos h6]; exact plays_revive w o h ho h6
  rw [if_neg h6]
  by_cases h8 : o.kind = 8
  · exact plays_after w o h ho h8
  exact plays_other w o h ho (by simp [h0]) (by simp [h1]) (by simp [h2]) (by simp [h3]) (by simp [h4]) (by simp [h5]) (by simp [h6]) (by simp [h8])
end Go.Proofs.Ytpjpknndfhablaa
