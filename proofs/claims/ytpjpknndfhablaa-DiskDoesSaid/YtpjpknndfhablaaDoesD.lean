/- The walk of DiskDoes. -/
import Derived.Test.YtpjpknndfhablaaDoesA
namespace Go.Proofs.Ytpjpknndfhablaa
open Go.RowKit

theorem own_some {w : World} {base e size n : Nat} {v : Value} {xs : List Value} (h : w.ownsRow base e size v n xs) (hn : 0 < n) : ∃ g cap cur, v = .slice (some ⟨g, 0, none⟩) n cap ∧ base ≤ g ∧ w.heap[g]? = some (.cells cur e (0, 0)) := by
  rcases h.2 with ⟨_, h0⟩ | ⟨g, cap, cur, rfl, hb, hg, _⟩
  · omega
  · exact ⟨g, cap, cur, rfl, hb, hg⟩
theorem own_cell {w : World} {base e n g cap : Nat} {xs : List Value} (h : w.ownsRow base e 1 (.slice (some ⟨g, 0, none⟩) n cap) n xs) {j : Nat} {u : Value} (hj : xs[j]? = some u) : w.cell? ⟨g, j, none⟩ = some u := by
  have := h.cells (g := g) rfl j u hj
  rwa [addr_add, Nat.zero_add] at this
theorem own_new (w : World) (base e : Nat) (x : Value) (hb : base ≤ w.heap.size) : (w.alloc (.cells #[x] e)).ownsRow base e 1 (.slice (some ⟨w.heap.size, 0, none⟩) 1 1) 1 [x] :=
  ⟨rfl, .inr ⟨w.heap.size, 1, #[x], rfl, hb, heap_new w _, Nat.le_refl _, by decide, rfl, rfl⟩⟩
def ptrC (e : Ent) : Value := .pointer (some ⟨e.c, 0, none⟩)
def ptrY (e : Ent) : Value := .pointer (some ⟨e.y, 0, none⟩)
structure DoesRel (w wr : World) (m n : Nat) (L : List Ent) (vx vy : Value) : Prop where
  herd : Herd w wr L m
  same : ∀ (i : Nat) (e : Ent), L[i]? = some e → e.d = e.g
  xs : wr.ownsRow w.heap.size 24 1 vx L.length (L.map ptrC)
  ys : wr.ownsRow w.heap.size 26 1 vy L.length (L.map ptrY)
  pos : 0 < L.length
  len : L.length ≤ n
theorem DoesRel.below {w wr wr' : World} {m n : Nat} {L : List Ent} {vx vy : Value} (h : DoesRel w wr m n L vx vy) (hb : Below wr.heap.size wr wr') : DoesRel w wr' m n L vx vy :=
  ⟨h.herd.below hb, h.same, (KeepsX.below hb).own h.xs (by decide) (by decide) (by decide), (KeepsX.below hb).own h.ys (by decide) (by decide) (by decide), h.pos, h.len⟩
theorem map_set_same {α β : Type} {f : α → β} {L : List α} {i : Nat} {x e : α} (hi : L[i]? = some e) (hf : f x = f e) : (L.set i x).map f = L.map f := by
  rw [List.map_set, hf]
  obtain ⟨hl, he⟩ := List.getElem?_eq_some_iff.1 hi
  have : f e = (L.map f)[i]'(by simpa using hl) := by simp [he]
  rw [this]; exact List.set_getElem_self _
theorem DoesRel.step {w wr wg : World} {m n N : Nat} {L : List Ent} {vx vy : Value} (h : DoesRel w wr m n L vx vy) {e : Ent} (hi : L[N]? = some e) {d' : DS} {m' : Nat} (h1 : HerdAt w wg L N e.c e.y d' d' m') (hk : KeepsX wr wg) : ∃ L', DoesRel w wg m' n L' vx vy ∧ L'.length = L.length := by
  obtain ⟨_, e', a, b, p, q, h1⟩ := h1
  refine ⟨L.set N e', ⟨h1, fun i f hf => ?_, ?_, ?_, by simpa using h.pos, by simpa using h.len⟩, by simp⟩
  · rcases set_cases hf with ⟨rfl, rfl⟩ | ⟨_, hf⟩
    · rw [p, q]
    · exact h.same i f hf
  · have := hk.own h.xs (by decide) (by decide) (by decide)
    rw [List.length_set, map_set_same hi (by simp [ptrC, a])]; exact this
  · have := hk.own h.ys (by decide) (by decide) (by decide)
    rw [List.length_set, map_set_same hi (by simp [ptrY, b])]; exact this
theorem DoesRel.at {w wr : World} {m n N : Nat} {L : List Ent} {vx vy : Value} (h : DoesRel w wr m n L vx vy) {e : Ent} (hi : L[N]? = some e) : HerdAt w wr L N e.c e.y e.d e.d m := by
  have := HerdAt.of h.herd hi
  rwa [← h.same N e hi] at this
/-- The cells of both rows, in this world and behind calls that turn only disks. -/
def RowsAt (wr : World) (gx gy : Nat) (L : List Ent) : Prop := ∀ wg, KeepsX wr wg → ∀ i e, L[i]? = some e → wg.cell? ⟨gx, i, none⟩ = some (.pointer (some ⟨e.c, 0, none⟩)) ∧ wg.cell? ⟨gy, i, none⟩ = some (.pointer (some ⟨e.y, 0, none⟩))
theorem DoesRel.rows {w wr : World} {m n : Nat} {L : List Ent} {vx vy : Value} (h : DoesRel w wr m n L vx vy) : ∃ gx cx gy cy, vx = .slice (some ⟨gx, 0, none⟩) L.length cx ∧ vy = .slice (some ⟨gy, 0, none⟩) L.length cy ∧ RowsAt wr gx gy L := by
  obtain ⟨gx, cx, _, hx, _, hgx⟩ := own_some h.xs h.pos
  obtain ⟨gy, cy, _, hy, _, hgy⟩ := own_some h.ys h.pos
  have hxs := h.xs
  have hys := h.ys
  rw [hx] at hxs
  rw [hy] at hys
  refine ⟨gx, cx, gy, cy, hx, hy, fun wg hk i e hi => ⟨own_cell (hk.own hxs (by decide) (by decide) (by decide)) (by rw [List.getElem?_map, hi]; rfl), own_cell (hk.own hys (by decide) (by decide) (by decide)) (by rw [List.getElem?_map, hi]; rfl)⟩⟩
theorem own_keepsT {w w' : World} {T : TypeId} {base n : Nat} {v : Value} {xs : List Value} (h : w.ownsRow base T 1 v n xs) (hk : ∀ (g : Nat) (cs : Array Value) (fr : Nat × Nat), w.heap[g]? = some (.cells cs T fr) → w'.heap[g]? = some (.cells cs T fr)) : w'.ownsRow base T 1 v n xs := by
  refine ⟨h.1, ?_⟩
  rcases h.2 with h0 | ⟨g, cap, cur, rfl, hb, hg, rest⟩
  · exact .inl h0
  · exact .inr ⟨g, cap, cur, rfl, hb, hk g _ _ hg, rest⟩
/-- A row of type T has grown: nothing else has turned. -/
theorem row_grown {w w1 : World} {T : TypeId} {base n : Nat} {v : Value} {xs : List Value} (hv : w.ownsRow base T 1 v n xs) (hn : 0 < n) (hg : w.grownBy w1 v.ownBlock) :
    ∃ (q : Nat) (cur : Array Value), base ≤ q ∧ w.heap[q]? = some (.cells cur T (0, 0)) ∧ Touch (· = q) w w1 ∧ ∀ (T' : TypeId), T' ≠ T → ∀ (g : Nat) (cs : Array Value) (fr : Nat × Nat), w.heap[g]? = some (.cells cs T' fr) → w1.heap[g]? = some (.cells cs T' fr) := by
  obtain ⟨g0, cap, cur, rfl, hb0, hg0⟩ := own_some hv hn
  have ht : Touch (· = g0) w w1 := (touch_of_grown hg).mono (fun k _ hk => (Option.some.inj (show some g0 = some k from hk)).symm)
  refine ⟨g0, cur, hb0, hg0, ht, fun T' hne g cs fr hgc => (ht.block g (heap_lt hgc) (fun e => ?_)).trans hgc⟩
  subst e
  rw [hg0] at hgc; simp at hgc; exact hne hgc.2.1.symm
theorem DoesRel.mono {w wr : World} {m n n' : Nat} {L : List Ent} {vx vy : Value} (h : DoesRel w wr m n L vx vy) (hn : n ≤ n') : DoesRel w wr m n' L vx vy := { h with len := Nat.le_trans h.len hn }
def KeptBut (T : TypeId) (w w' : World) : Prop := ∀ (T' : TypeId), T' ≠ T → ∀ (g : Nat) (cs : Array Value) (fr : Nat × Nat), w.heap[g]? = some (.cells cs T' fr) → w'.heap[g]? = some (.cells cs T' fr)
theorem grow_row {w wz wb : World} {m : Nat} {L : List Ent} {T : TypeId} (hT : NoDisk T) (h : Herd w wz L m) {n : Nat} {v : Value} {xs : List Value} (hv : wz.ownsRow w.heap.size T 1 v n xs) (hn : 0 < n) (hg : wz.grownBy wb v.ownBlock) :
    Herd w wb L m ∧ KeptBut T wz wb ∧ (∀ c d m rb, DiskAt wz c d m rb → DiskAt wb c d m rb) ∧ (∀ y d ub, RefAt wz y d ub → RefAt wb y d ub) := by
  obtain ⟨q, cur, hb, hq, ht, hk⟩ := row_grown hv hn hg
  exact ⟨h.awayT hT hq hb ht, hk, fun c d m rb h => h.awayT hT hq ht, fun y d ub h => h.awayT hT hq ht⟩
theorem DoesRel.push {w wx wd : World} {m n N : Nat} {L : List Ent} {vx vy vx1 vy1 : Value} (h : DoesRel w wx m n L vx vy) {e : Ent} (hi : L[N]? = some e) (h' : Herd w wd L m) {c y : Nat} {rb ub : Option Nat}
    (hd : DiskAt wd c e.d m rb) (hr : RefAt wd y e.g ub) (l1 : wx.heap.size ≤ c ∧ ∀ k, rb = some k → wx.heap.size ≤ k) (l2 : wx.heap.size ≤ y)
    (hx : wd.ownsRow w.heap.size 24 1 vx1 (L.length + 1) (L.map ptrC ++ [.pointer (some ⟨c, 0, none⟩)])) (hy : wd.ownsRow w.heap.size 26 1 vy1 (L.length + 1) (L.map ptrY ++ [.pointer (some ⟨y, 0, none⟩)])) :
    ∃ L', DoesRel w wd m (n + 1) L' vx1 vy1 ∧ N < L'.length ∧ L'[N]? = some e ∧ L'.length = L.length + 1 := by
  have hN : N < L.length := (List.getElem?_eq_some_iff.1 hi).1
  have hlen := h.len
  refine ⟨L ++ [⟨c, rb, y, ub, e.d, e.g⟩], ⟨h.herd.push h' hd hr l1.1 l2 l1.2, fun i f hf => ?_, ?_, ?_, by simp, by simp; omega⟩, by simp; omega, ?_, by simp⟩
  · by_cases hl : i < L.length
    · rw [List.getElem?_append_left hl] at hf; exact h.same i f hf
    · rw [List.getElem?_append_right (by omega)] at hf
      have hi0 : i - L.length = 0 := by
        apply Classical.byContradiction
        intro hn
        rw [List.getElem?_eq_none (by simp; omega)] at hf; cases hf
      rw [hi0] at hf
      obtain rfl := Option.some.inj hf
      exact h.same N e hi
  · rw [List.length_append, List.map_append]; exact hx
  · rw [List.length_append, List.map_append]; exact hy
  · rw [List.getElem?_append_left hN]; exact hi
theorem Try.ptrInfo1 : (Try.prog.info? 24).map (fun i => (i.zero, i.size, i.bytes)) = some (some (.pointer none), 1, 8) := by kernel_rfl
theorem Try.ptrInfo2 : (Try.prog.info? 26).map (fun i => (i.zero, i.size, i.bytes)) = some (some (.pointer none), 1, 8) := by kernel_rfl
def OpFull (w : World) (g : Nat) (on kd oa ob : Int) (os : List UInt8) : Prop := w.heap[g]? = some (.cells #[.int .i64 on, .int .i64 kd, .int .i64 oa, .int .i64 ob, .string ⟨os.toArray⟩] 47 (0, 0))
section
variable {w w' : World} {g : Nat} {on kd oa ob : Int} {os : List UInt8}
theorem OpFull.keepsX (h : OpFull w g on kd oa ob os) (hk : KeepsX w w') : OpFull w' g on kd oa ob os := hk.cells h (by decide) (by decide) (by decide)
theorem OpFull.below (h : OpFull w g on kd oa ob os) (hb : Below w.heap.size w w') : OpFull w' g on kd oa ob os := h.keepsX (.below hb)
theorem OpFull.cells (h : OpFull w g on kd oa ob os) : w.cell? ⟨g, 0, none⟩ = some (.int .i64 on) ∧ w.cell? ⟨g, 1, none⟩ = some (.int .i64 kd) ∧ w.cell? ⟨g, 2, none⟩ = some (.int .i64 oa) ∧ w.cell? ⟨g, 3, none⟩ = some (.int .i64 ob) ∧ w.cell? ⟨g, 4, none⟩ = some (.string ⟨os.toArray⟩) :=
  ⟨cell_of h rfl, cell_of h rfl, cell_of h rfl, cell_of h rfl, cell_of h rfl⟩
end
set_option maxHeartbeats 8000000 in
set_option maxRecDepth 100000 in
theorem diskDoes_any (w : World) (ao bo : Option Addr) (ca cb : Nat) (l : List (List UInt8)) (s : List OpV) (h : Texts w ao l) (hs : OpsAt w bo s) :
    Calls Try.prog 4 #[.slice ao l.length ca, .slice bo s.length cb] w fun e w' => e = .returned (.bool true) ∧ Below w.heap.size w w' := by
  have HL := Lib.hid h
  have HS := Lib.hid hs
  have hsl := hs.len
  clear h hs
  go_enter Try.func4, Try.ntmps4
  go_wp2_with fail
  refine (new_any w ao ca l HL.out).mono ?_
  rintro e w1 ⟨b1, ⟨hn, rfl⟩ | ⟨d, c, hd, rfl, hc, hat⟩⟩
  · have HN := Lib.hid hn
    have B1 := Lib.hid b1
    clear hn b1
    go_wp2_with fail
    refine (rnew_any w1 ao ca l (HL.out.below B1.out)).mono ?_
    rintro e w2 ⟨b2, ⟨_, rfl⟩ | ⟨d, c, hd, _⟩⟩
    · have B2 := Lib.hid b2
      clear b2
      go_wp2_with fail
      refine (fixed9_any w2).mono ?_
      rintro e w3 ⟨rfl, b3⟩
      have B3 := Lib.hid b3
      clear b3
      go_wp2
      go_ret
      exact ⟨rfl, bthen (bthen B1.out B2.out) B3.out⟩
    · rw [HN.out] at hd; cases hd
  · have HD := Lib.hid hd
    have B1 := Lib.hid b1
    have HAT := Lib.hid hat
    have HC := Lib.hid hc
    clear hd b1 hat hc
    go_wp2_with fail
    refine (rnew_any w1 ao ca l (HL.out.below B1.out)).mono ?_
    rintro e w2 ⟨b2, ⟨hn, _⟩ | ⟨d', y, hd', rfl, hy, hrat⟩⟩
    · rw [HD.out] at hn; cases hn
    obtain rfl : d = d' := by rw [HD.out] at hd'; exact Option.some.inj hd'
    have H2 : Hid (Herd w w2 [⟨c, none, y, none, d, d⟩] 0) := by
      have hold := bthen B1.out b2
      have hc2 := HC.out
      have hs1 := B1.out.size
      refine ⟨hold, fun i e hi => ?_, fun i e hi => ?_, fun i j e f hi hj hij => ?_⟩
      · match i, hi with
        | 0, hi => simp at hi; subst hi; exact ⟨HAT.out.below b2, hrat⟩
      · match i, hi with
        | 0, hi => simp at hi; subst hi; exact ⟨by simpa using hc2, by simp; omega, fun k hk => by cases hk⟩
      · match i, j, hi, hj with
        | 0, 0, _, _ => exact absurd rfl hij
    clear b2 hd' hy hrat
    have HSZ := Lib.hid H2.out.old.size
    go_wp2_with fail
    have HR : Hid (DoesRel w ((w2.alloc (.cells #[.pointer (some ⟨c, 0, none⟩)] 24)).alloc (.cells #[.pointer (some ⟨y, 0, none⟩)] 26)) 0 1 [⟨c, none, y, none, d, d⟩] (.slice (some ⟨w2.heap.size, 0, none⟩) 1 1) (.slice (some ⟨w2.heap.size + 1, 0, none⟩) 1 1)) := by
      have hs2 := H2.out.old.size
      have hbb := bthen (balloc w2 (.cells #[.pointer (some ⟨c, 0, none⟩)] 24)) (balloc _ (.cells #[.pointer (some ⟨y, 0, none⟩)] 26))
      refine ⟨H2.out.below hbb, fun i e hi => ?_, ?_, ?_, by simp, by simp⟩
      · match i, hi with
        | 0, hi => simp at hi; subst hi; rfl
      · exact (KeepsX.below (balloc _ _)).own (own_new w2 _ _ _ hs2) (by decide) (by decide) (by decide)
      · have := own_new (w2.alloc (.cells #[.pointer (some ⟨c, 0, none⟩)] 24)) w.heap.size 26 (.pointer (some ⟨y, 0, none⟩)) (by simp; omega)
        rwa [World.size_alloc] at this
    go_loopw [9, 10, 11] (fun vx vy jv wr => ∃ (j : Nat) (L : List Ent), jv = .int .i64 j ∧ j ≤ s.length ∧ DoesRel w wr j (j + 1) L vx vy) (fun _ _ jv _ => s.length - (intOf jv).toNat)
    case atStart => exact ⟨0, _, rfl, by omega, HR.out⟩
    case round =>
      clear HR H2 HAT HC
      obtain ⟨j, L, rfl, hj, hrel⟩ := hrel
      have HR := Lib.hid hrel
      have hpos := hrel.pos
      have hlen := hrel.len
      obtain ⟨gx, cx, gy, cy, rfl, rfl, hcells⟩ := hrel.rows
      have HCC := Lib.hid hcells
      clear hrel hcells
      have HOLD := Lib.hid HR.out.herd.old
      by_cases hlt : j < s.length
      · obtain ⟨o, ho⟩ : ∃ o, s[j]? = some o := ⟨_, List.getElem?_eq_getElem hlt⟩
        obtain ⟨on, kd, oa, ob, os⟩ := o
        obtain ⟨b, off, rfl, hbl, c0, c1, c2, c3, c4⟩ := HS.out.cell j _ ho
        obtain ⟨f1, ⟨f2, f3⟩, ⟨f4, f5⟩, f6, f7⟩ := HS.out.fits _ (List.mem_of_getElem? ho)
        have FIT : Hid (OpFits ⟨on, kd, oa, ob, os⟩) := ⟨f1, f2, f3, f4, f5⟩
        simp only [] at c0 c1 c2 c3 c4 f1 f2 f3 f4 f5 f6 f7
        have k0 := HOLD.out.cell (p := ⟨b, off + j * 5, none⟩) hbl
        have k1 := HOLD.out.cell (p := ⟨b, off + j * 5 + 1, none⟩) hbl
        have k2 := HOLD.out.cell (p := ⟨b, off + j * 5 + 2, none⟩) hbl
        have k3 := HOLD.out.cell (p := ⟨b, off + j * 5 + 3, none⟩) hbl
        have k4 := HOLD.out.cell (p := ⟨b, off + j * 5 + 4, none⟩) hbl
        rw [c0] at k0; rw [c1] at k1; rw [c2] at k2; rw [c3] at k3; rw [c4] at k4
        clear ho c0 c1 c2 c3 c4
        obtain ⟨N, hN⟩ : ∃ N : Nat, on % (L.length : Int) = (N : Int) := ⟨(on % (L.length : Int)).toNat, by have := Int.emod_nonneg on (show (L.length : Int) ≠ 0 by omega); omega⟩
        have hNL : N < L.length := by have := Int.emod_lt_of_pos on (show (0 : Int) < L.length by omega); omega
        obtain ⟨E, hE⟩ : ∃ E, L[N]? = some E := ⟨_, List.getElem?_eq_getElem hNL⟩
        have HE := Lib.hid hE
        have HN := Lib.hid hN
        clear hE hN
        by_cases h7 : kd = 7
        · subst h7
          go_wp2_with fail
          have HO : Hid (OpFull (wr.alloc (.cells #[.int .i64 on, .int .i64 7, .int .i64 oa, .int .i64 ob, .string ⟨os.toArray⟩] 47)) wr.heap.size on 7 oa ob os) := heap_new wr _
          have HB := Lib.hid (balloc wr (.cells #[.int .i64 on, .int .i64 7, .int .i64 oa, .int .i64 ob, .string ⟨os.toArray⟩] 47))
          generalize wr.alloc (.cells #[.int .i64 on, .int .i64 7, .int .i64 oa, .int .i64 ob, .string ⟨os.toArray⟩] 47) = wx at HO HB ⊢
          have HX := Lib.hid (HR.out.below HB.out)
          have HXK := Lib.hid (KeepsX.below HB.out)
          generalize wr.heap.size = G at HO ⊢
          clear k0 k1 k2 k3 k4
          obtain ⟨x0, x1, x2, x3, x4⟩ := HO.out.cells
          go_wp2_with fail
          refine (place9_any on L.length wx (by omega) (by omega)).mono ?_
          rw [HN.out]
          rintro e wx' ⟨rfl, rfl⟩
          obtain ⟨q1, q2⟩ := HCC.out _ HXK.out N E HE.out
          go_wp2_with fail
          obtain ⟨D1, D2⟩ := HX.out.herd.one N E HE.out
          clear D2
          refine (clone_any E.c wx E.d j E.rb D1 (by omega)).mono ?_
          rintro e wa ⟨c', rb', rfl, hc', da, hrb, ba⟩
          have DA := Lib.hid da
          have BA := Lib.hid ba
          have HCR := Lib.hid (And.intro hc' hrb)
          have HA := Lib.hid (HX.out.below ba)
          have HOA := Lib.hid (HO.out.below ba)
          clear D1 da ba hc' hrb q1 q2 x0 x1 x2 x3 x4
          go_wp2_with (first | (at_builtin; go_must (refine wpList_append_own2 _ rfl (.tmp 71) (.tmp 73) 44 rfl w.heap.size 24 1 8 _ Try.ptrInfo1 Try.underlying44 rfl (by decide) (.slice (some ⟨gx, 0, none⟩) L.length cx) L.length (L.map ptrC) rfl (HA.out.below (balloc wa _)).xs ⟨wa.heap.size, 0, none⟩ 1 1 [.pointer (some ⟨c', 0, none⟩)] rfl rfl (fun i u hi => by rw [addr_add, Nat.zero_add]; exact cell_of (heap_new wa _) (by simpa using hi)) (by intro u hu; simp at hu; subst hu; rfl) (by unfold maxLen; omega) (by omega) (by have := (HA.out.below (balloc wa (.cells #[.pointer (some ⟨c', 0, none⟩)] 24))).herd.old.size; omega) ?_; intro vx1 wb hxs1 hgr1 _; obtain ⟨hh1, kk1, dd1, _⟩ := grow_row ⟨by decide, by decide, by decide, by decide⟩ (HA.out.below (balloc wa _)).herd (HA.out.below (balloc wa _)).xs hpos hgr1; have ys1 := own_keepsT (HA.out.below (balloc wa _)).ys (kk1 _ (by decide)); have HHB := Lib.hid hh1; have DB := Lib.hid (dd1 _ _ _ _ (DA.out.below (balloc wa _))); have OB := Lib.hid (kk1 _ (by decide) _ _ _ (HOA.out.below (balloc wa _))); have YS1 := Lib.hid ys1; have XS1 := Lib.hid hxs1; have SZ1 := Lib.hid (Nat.le_trans BA.out.size (Nat.le_trans (balloc wa _).size hgr1.size)); have q3 := own_cell ys1 (j := N) (u := .pointer (some ⟨E.y, 0, none⟩)) (by rw [List.getElem?_map, HE.out]; rfl); clear hxs1 hgr1 hh1 kk1 dd1 ys1)))
          refine (rcopy_any E.y wb E.g E.ub (HHB.out.one N E HE.out).2).mono ?_
          rintro e wc ⟨y', rfl, hy', hr, bc⟩
          have RC := Lib.hid hr
          have BC := Lib.hid bc
          have HY := Lib.hid (Nat.le_trans SZ1.out hy')
          have HHC := Lib.hid (HHB.out.below bc)
          have DC := Lib.hid (DB.out.below bc)
          have OC : Hid (OpFull wc G on 7 oa ob os) := OpFull.below OB.out bc
          have YS2 := Lib.hid ((KeepsX.below bc).own YS1.out (by decide) (by decide) (by decide))
          have XS2 := Lib.hid ((KeepsX.below bc).own XS1.out (by decide) (by decide) (by decide))
          clear hr bc hy' q3
          go_wp2_with (first | (at_builtin; go_must (refine wpList_append_own2 _ rfl (.tmp 75) (.tmp 81) 45 rfl w.heap.size 26 1 8 _ Try.ptrInfo2 Try.underlying45 rfl (by decide) (.slice (some ⟨gy, 0, none⟩) L.length cy) L.length (L.map ptrY) rfl ((KeepsX.below (balloc wc _)).own YS2.out (by decide) (by decide) (by decide)) ⟨wc.heap.size, 0, none⟩ 1 1 [.pointer (some ⟨y', 0, none⟩)] rfl rfl (fun i u hi => by rw [addr_add, Nat.zero_add]; exact cell_of (heap_new wc _) (by simpa using hi)) (by intro u hu; simp at hu; subst hu; rfl) (by unfold maxLen; omega) (by omega) (by have := (HHC.out.below (balloc wc (.cells #[.pointer (some ⟨y', 0, none⟩)] 26))).old.size; omega) ?_; intro vy1 wd hys2 hgr2 _; obtain ⟨hh2, kk2, dd2, rr2⟩ := grow_row ⟨by decide, by decide, by decide, by decide⟩ (HHC.out.below (balloc wc _)) ((KeepsX.below (balloc wc _)).own YS2.out (by decide) (by decide) (by decide)) hpos hgr2; have xs3 := own_keepsT ((KeepsX.below (balloc wc _)).own XS2.out (by decide) (by decide) (by decide)) (kk2 _ (by decide)); have OD : Hid (OpFull wd G on 7 oa ob os) := kk2 _ (by decide) _ _ _ (OC.out.below (balloc wc _)); obtain ⟨L', rel, hNL', hE', hLL'⟩ := HX.out.push HE.out hh2 (dd2 _ _ _ _ (DC.out.below (balloc wc _))) (rr2 _ _ _ (RC.out.below (balloc wc _))) HCR.out HY.out xs3 hys2; obtain ⟨gx', cx', gy', cy', rfl, rfl, hcc'⟩ := rel.rows; have HX' := Lib.hid rel; have HCC' := Lib.hid hcc'; have HE2 := Lib.hid hE'; have hlen' := rel.len; clear hys2 hgr2 hh2 kk2 dd2 rr2 xs3 rel hcc' hE' hLL')))
          have KW' : Hid (KeepsX wd wd) := .below (Below.refl _ _)
          obtain ⟨x0, x1, x2, x3, x4⟩ := OD.out.cells
          obtain ⟨q1, q2⟩ := HCC'.out _ KW'.out N E HE2.out
          go_wp2_with fail
          go_region_held3 (fun w' => w'.cell? ⟨gx', N, none⟩ = some (.pointer (some ⟨E.c, 0, none⟩)) ∧ w'.cell? ⟨gy', N, none⟩ = some (.pointer (some ⟨E.y, 0, none⟩)) ∧ w'.cell? ⟨G, 0, none⟩ = some (.int .i64 on) ∧ w'.cell? ⟨G, 1, none⟩ = some (.int .i64 7) ∧ w'.cell? ⟨G, 2, none⟩ = some (.int .i64 oa) ∧ w'.cell? ⟨G, 3, none⟩ = some (.int .i64 ob) ∧ w'.cell? ⟨G, 4, none⟩ = some (.string ⟨os.toArray⟩))
            (first | exact ⟨q1, q2, x0, x1, x2, x3, x4⟩ | exact ⟨r1, r2, z0, z1, z2, z3, z4⟩)
            (first | (go_at_call 27; have hat := (HX'.out.below (Below.refl _ _).drew).at HE2.out; refine (plays_any _ ⟨on, 7, oa, ob, os⟩ hat FIT.out (by omega)).mono ?_; clear hat; rintro e wp ⟨rfl, hp, kp⟩; have kp' := KeepsX.trans (KeepsX.below (Below.refl _ _).drew) kp; obtain ⟨z0, z1, z2, z3, z4⟩ := (OD.out.keepsX kp').cells; obtain ⟨r1, r2⟩ := HCC'.out _ (KW'.out.trans kp') N E HE2.out; have KP := Lib.hid kp'; have HP := Lib.hid hp; clear kp kp' hp))
          clear q1 q2 x0 x1 x2 x3 x4 z0 z1 z2 z3 z4
          go_wp2_with fail
          go_region_held3 (fun w' => w'.cell? ⟨gx', N, none⟩ = some (.pointer (some ⟨E.c, 0, none⟩)) ∧ w'.cell? ⟨gy', N, none⟩ = some (.pointer (some ⟨E.y, 0, none⟩)))
            (first | exact ⟨r1, r2⟩ | exact ⟨t1, t2⟩)
            (first | (go_at_call 28; have hat := HP.out.below (Below.refl _ _).drew; refine (tells_any _ hat).mono ?_; clear hat; rintro e wt ⟨rfl, bt⟩; have bt' := bthen (Below.refl _ _).drew bt; obtain ⟨t1, t2⟩ := HCC'.out _ (KW'.out.trans (KP.out.trans (.below bt'))) N E HE2.out; have HT := Lib.hid (HP.out.below bt'); have KT := Lib.hid (KP.out.trans (.below bt')); clear bt bt'))
          obtain ⟨L1, s1, _⟩ := HX'.out.step HE2.out HT.out KT.out
          have S1 := Lib.hid s1
          clear s1 r1 r2 t1 t2
          go_wp2
          go_roundw
          case rel => exact ⟨j + 1, L1, by go_num, by omega, S1.out.mono (by omega)⟩
          case measure => simp [intOf]; omega
        · have h7' : (kd == 7) = false := by simp [h7]
          go_wp2_with fail
          have HO : Hid (OpFull (wr.alloc (.cells #[.int .i64 on, .int .i64 kd, .int .i64 oa, .int .i64 ob, .string ⟨os.toArray⟩] 47)) wr.heap.size on kd oa ob os) := heap_new wr _
          have HB := Lib.hid (balloc wr (.cells #[.int .i64 on, .int .i64 kd, .int .i64 oa, .int .i64 ob, .string ⟨os.toArray⟩] 47))
          generalize wr.alloc (.cells #[.int .i64 on, .int .i64 kd, .int .i64 oa, .int .i64 ob, .string ⟨os.toArray⟩] 47) = wx at HO HB ⊢
          have HX := Lib.hid (HR.out.below HB.out)
          have HXK := Lib.hid (KeepsX.below HB.out)
          generalize wr.heap.size = G at HO ⊢
          clear k0 k1 k2 k3 k4
          obtain ⟨x0, x1, x2, x3, x4⟩ := HO.out.cells
          go_wp2_with fail
          refine (place9_any on L.length wx (by omega) (by omega)).mono ?_
          rw [HN.out]
          rintro e wx' ⟨rfl, rfl⟩
          have KW := Lib.hid HXK.out
          obtain ⟨q1, q2⟩ := HCC.out _ KW.out N E HE.out
          go_wp2_with fail
          go_region_held3 (fun w' => w'.cell? ⟨gx, N, none⟩ = some (.pointer (some ⟨E.c, 0, none⟩)) ∧ w'.cell? ⟨gy, N, none⟩ = some (.pointer (some ⟨E.y, 0, none⟩)) ∧ w'.cell? ⟨G, 0, none⟩ = some (.int .i64 on) ∧ w'.cell? ⟨G, 1, none⟩ = some (.int .i64 kd) ∧ w'.cell? ⟨G, 2, none⟩ = some (.int .i64 oa) ∧ w'.cell? ⟨G, 3, none⟩ = some (.int .i64 ob) ∧ w'.cell? ⟨G, 4, none⟩ = some (.string ⟨os.toArray⟩))
            (first | exact ⟨q1, q2, x0, x1, x2, x3, x4⟩ | exact ⟨r1, r2, z0, z1, z2, z3, z4⟩)
            (first | (go_at_call 27; have hat := (HX.out.below (Below.refl _ _).drew).at HE.out; refine (plays_any _ ⟨on, kd, oa, ob, os⟩ hat FIT.out (by omega)).mono ?_; clear hat; rintro e wp ⟨rfl, hp, kp⟩; have kp' := KeepsX.trans (KeepsX.below (Below.refl _ _).drew) kp; obtain ⟨z0, z1, z2, z3, z4⟩ := (HO.out.keepsX kp').cells; obtain ⟨r1, r2⟩ := HCC.out _ (KW.out.trans kp') N E HE.out; have KP := Lib.hid kp'; have HP := Lib.hid hp; clear kp kp' hp))
          clear q1 q2 x0 x1 x2 x3 x4 z0 z1 z2 z3 z4
          go_wp2_with fail
          go_region_held3 (fun w' => w'.cell? ⟨gx, N, none⟩ = some (.pointer (some ⟨E.c, 0, none⟩)) ∧ w'.cell? ⟨gy, N, none⟩ = some (.pointer (some ⟨E.y, 0, none⟩)))
            (first | exact ⟨r1, r2⟩ | exact ⟨t1, t2⟩)
            (first | (go_at_call 28; have hat := HP.out.below (Below.refl _ _).drew; refine (tells_any _ hat).mono ?_; clear hat; rintro e wt ⟨rfl, bt⟩; have bt' := bthen (Below.refl _ _).drew bt; obtain ⟨t1, t2⟩ := HCC.out _ (KW.out.trans (KP.out.trans (.below bt'))) N E HE.out; have HT := Lib.hid (HP.out.below bt'); have KT := Lib.hid (KP.out.trans (.below bt')); clear bt bt'))
          obtain ⟨L1, s1, _⟩ := HX.out.step HE.out HT.out KT.out
          have S1 := Lib.hid s1
          clear s1 r1 r2 t1 t2
          go_wp2
          go_roundw
          case rel => exact ⟨j + 1, L1, by go_num, by omega, S1.out.mono (by omega)⟩
          case measure => simp [intOf]; omega
      · obtain rfl : j = s.length := by omega
        go_wp2
        obtain ⟨wo, hwo⟩ : ∃ wo : World, wo = wr := ⟨_, rfl⟩
        rw [← hwo] at HR HCC HOLD ⊢
        clear hwo
        go_loopw [17] (fun jv wr => ∃ i : Nat, jv = .int .i64 i ∧ i ≤ L.length ∧ Below wo.heap.size wo wr) (fun jv _ => L.length - (intOf jv).toNat)
        case atStart => exact ⟨0, rfl, by omega, Below.refl _ _⟩
        case round =>
          obtain ⟨i, rfl, hi, hb⟩ := hrel
          have HB := Lib.hid hb
          clear hb
          by_cases hil : i < L.length
          · obtain ⟨E, hE⟩ : ∃ E, L[i]? = some E := ⟨_, List.getElem?_eq_getElem hil⟩
            have HE := Lib.hid hE
            clear hE
            obtain ⟨r1, r2⟩ := HCC.out _ (.below HB.out) i E HE.out
            go_wp2_with fail
            go_region_held3 (fun w' => w'.cell? ⟨gx, i, none⟩ = some (.pointer (some ⟨E.c, 0, none⟩)) ∧ w'.cell? ⟨gy, i, none⟩ = some (.pointer (some ⟨E.y, 0, none⟩)))
              (first | exact ⟨r1, r2⟩ | exact ⟨t1, t2⟩)
              (first | (go_at_call 28; have hat := (HR.out.below (bthen HB.out (Below.refl _ _).drew)).at HE.out; refine (tells_any _ hat).mono ?_; clear hat; rintro e wt ⟨rfl, bt⟩; have bt' := bthen (bthen HB.out (Below.refl _ _).drew) bt; obtain ⟨t1, t2⟩ := HCC.out _ (.below bt') i E HE.out; have BT := Lib.hid bt'; clear bt bt'))
            go_wp2
            go_roundw
            case rel => exact ⟨i + 1, by go_num, by omega, BT.out⟩
            case measure => simp [intOf]; omega
          · obtain rfl : i = L.length := by omega
            go_wp2_with fail
            refine (fixed9_any _).mono ?_
            rintro e wf ⟨rfl, bf⟩
            have BF := Lib.hid (bthen HOLD.out (bthen HB.out bf))
            clear bf
            go_wp2
            go_ret
            exact ⟨rfl, BF.out⟩
end Go.Proofs.Ytpjpknndfhablaa
