/- Walk of next: one block of SHA-256. -/
import Derived.Test.YtommbdlkmkphpaaDoorHshK
import Derived.Test.YtommbdlkmkphpaaDoorShaE
import Derived.Deep.QuietTactic
import Derived.BigQuiet
import Derived.Deep.RegionHeld3
import Derived.Outline
import Derived.StillTailTactics
namespace Go.Proofs.YtommbdlkmkphpaaDoor
open Go.RowKit

/-- A region that reads, and calls what only reads, ahead of a tail: in one world under a new name. -/
theorem region_tail {P : Program} {id : Nat} {Q : Exit → Act → World → Prop} {a : Act} {w : World} {l : List Oper} (n : Nat) (hm : P.follows .mixedOrders = true) (hB : Region.lexTailB .any l.toArray n = true)
    (h : ∀ w2, Hid (w2 = w.drew) → wpStill P l.toArray w2 (fun a' => wpList P l.toArray Q (l.drop n) a' w2) (l.take n) a) : (Code.region id l.toArray true).wp P Q a w :=
  wp_region_still_tail n hm hB (h _ rfl)
theorem quiet_add_same {P : Program} {f : FuncId} {args : Array Value} {w : World} {a n : Nat} {v : Value}
    (h : Calls P f args (w.drewN (a + n)) fun e w' => e = .returned v ∧ w' = w.drewN (a + n)) :
    Calls P f args (w.drewN (a + n)) fun e w'' => e = .returned v ∧ ∃ m, w'' = w.drewN (a + m) :=
  h.mono fun _ _ ⟨he, hm⟩ => ⟨he, n, hm⟩
theorem ror_q (x : U32) (n : Nat) (w : World) (h0 : 1 ≤ n) (h1 : n ≤ 31) :
    Calls Tryd.prog 37 #[.int .u32 x.toNat, .int .i64 n] w fun e w' => e = .returned (.int .u32 (Sha.ror x n).toNat) ∧ w' = w :=
  (ror_any x n w h0 h1).mono fun _ _ h => ⟨h.1, h.2.symm⟩
/-- The state as an array's value. -/
def stV (s : Sha.St) : Value := .agg #[.int .u32 s.a.toNat, .int .u32 s.b.toNat, .int .u32 s.c.toNat, .int .u32 s.d.toNat, .int .u32 s.e.toNat, .int .u32 s.f.toNat, .int .u32 s.g.toNat, .int .u32 s.h.toNat]
def stO (s : Sha.St) : Obj := .cells #[.int .u32 s.a.toNat, .int .u32 s.b.toNat, .int .u32 s.c.toNat, .int .u32 s.d.toNat, .int .u32 s.e.toNat, .int .u32 s.f.toNat, .int .u32 s.g.toNat, .int .u32 s.h.toNat] 52 (0, 0)
theorem wcells_at {l : List U32} {j : Nat} (h : j < l.length) : (wcells l)[j]? = some (.int .u32 (l.getD j 0).toNat) := by
  simp [wcells, h]
theorem st_cells {w : World} {b : Nat} {s : Sha.St} (h : w.heap[b]? = some (stO s)) : w.cell? ⟨b, 0, none⟩ = some (.int .u32 s.a.toNat) ∧ w.cell? ⟨b, 1, none⟩ = some (.int .u32 s.b.toNat) ∧ w.cell? ⟨b, 2, none⟩ = some (.int .u32 s.c.toNat) ∧ w.cell? ⟨b, 3, none⟩ = some (.int .u32 s.d.toNat) ∧
    w.cell? ⟨b, 4, none⟩ = some (.int .u32 s.e.toNat) ∧ w.cell? ⟨b, 5, none⟩ = some (.int .u32 s.f.toNat) ∧ w.cell? ⟨b, 6, none⟩ = some (.int .u32 s.g.toNat) ∧ w.cell? ⟨b, 7, none⟩ = some (.int .u32 s.h.toNat) :=
  ⟨cell_of h rfl, cell_of h rfl, cell_of h rfl, cell_of h rfl, cell_of h rfl, cell_of h rfl, cell_of h rfl, cell_of h rfl⟩
theorem wcells_one (l : List U32) : (wcells l).toArray.all (·.oneCell') = true := by
  rw [Array.all_eq_true_iff_forall_mem]
  intro x hx
  simp [wcells] at hx
  obtain ⟨y, _, rfl⟩ := hx
  rfl
/-- Block b holds the words. -/
def Words (w : World) (b : Nat) (T : TypeId) (l : List U32) : Prop := w.heap[b]? = some (.cells (wcells l).toArray T (0, 0))
theorem Words.cell {w : World} {b : Nat} {T : TypeId} {l : List U32} (h : Words w b T l) {j : Nat} (hj : j < l.length) : w.cell? ⟨b, j, none⟩ = some (.int .u32 (l.getD j 0).toNat) :=
  cell_of h (by rw [List.getElem?_toArray]; exact wcells_at hj)
theorem Words.set {w : World} {b : Nat} {T : TypeId} {l : List U32} (h : Words w b T l) (j : Nat) (x : U32) : Words (w.setCell ⟨b, j, none⟩ (.int .u32 x.toNat)) b T (l.set j x) := by
  have := heap_set (i := j) (.int .u32 (x.toNat : Int)) h
  unfold Words
  rw [this]
  simp [wcells, List.map_set]
theorem Words.touch {S : Nat → Prop} {w w' : World} {b : Nat} {T : TypeId} {l : List U32} (h : Words w b T l) (ht : Touch S w w') (hS : ¬ S b) : Words w' b T l := (ht.block b (heap_lt h) hS).trans h
theorem take_set_snoc {l m : List U32} {k : Nat} {x : U32} (hk : k < l.length) (h : l.take k = m) : (l.set k x).take (k + 1) = m ++ [x] := by
  rw [List.take_succ_eq_append_getElem (by simpa using hk), List.take_set_of_le (Nat.le_refl _), h, List.getElem_set_self]
theorem touch_set1 {w : World} {q i : Nat} {v : Value} : Touch (· = q) w (w.setCell ⟨q, i, none⟩ v) := (Touch.refl _ _).setCell _ (fun _ => rfl)
theorem getD_take {α : Type} (l : List α) (d : α) {j k : Nat} (h : j < k) : (l.take k).getD j d = l.getD j d := by
  simp [List.getD_eq_getElem?_getD, h]
theorem nextW_take {l : List U32} {bs : List UInt8} {k : Nat} (h : l.take k = Sha.sched bs k) (h16 : 16 ≤ k) :
    Sha.nextW (Sha.sched bs k) = l.getD (k - 16) 0 + Sha.s0 (l.getD (k - 15) 0) + l.getD (k - 7) 0 + Sha.s1 (l.getD (k - 2) 0) := by
  unfold Sha.nextW
  rw [Sha.sched_length, ← h, getD_take _ _ (by omega), getD_take _ _ (by omega), getD_take _ _ (by omega), getD_take _ _ (by omega)]
/-- The state while the old one is added word by word. -/
def mix (v s : Sha.St) (k : Nat) : List U32 := [if 0 < k then v.a + s.a else v.a, if 1 < k then v.b + s.b else v.b, if 2 < k then v.c + s.c else v.c, if 3 < k then v.d + s.d else v.d, if 4 < k then v.e + s.e else v.e, if 5 < k then v.f + s.f else v.f, if 6 < k then v.g + s.g else v.g, if 7 < k then v.h + s.h else v.h]
theorem mix_get (v s : Sha.St) (k : Nat) (h : k < 8) : (mix v s k).getD k 0 = v.list.getD k 0 := by
  rcases (show k = 0 ∨ k = 1 ∨ k = 2 ∨ k = 3 ∨ k = 4 ∨ k = 5 ∨ k = 6 ∨ k = 7 by omega) with rfl | rfl | rfl | rfl | rfl | rfl | rfl | rfl <;> rfl
theorem mix_set (v s : Sha.St) (k : Nat) (h : k < 8) : (mix v s k).set k (v.list.getD k 0 + s.list.getD k 0) = mix v s (k + 1) := by
  rcases (show k = 0 ∨ k = 1 ∨ k = 2 ∨ k = 3 ∨ k = 4 ∨ k = 5 ∨ k = 6 ∨ k = 7 by omega) with rfl | rfl | rfl | rfl | rfl | rfl | rfl | rfl <;> rfl
theorem Tryd.stateSize : (Tryd.prog.info? 52).map (·.size) = some 8 := by kernel_rfl
/-- The block's bytes, where they lie. -/
def BytesAt (w : World) (g off : Nat) (bs : List UInt8) : Prop := g < w.heap.size ∧ ∀ j x, bs[j]? = some x → w.cell? ⟨g, off + j, none⟩ = some (.int .u8 x.toNat)
theorem BytesAt.below {w w' : World} {g off : Nat} {bs : List UInt8} (h : BytesAt w g off bs) (hb : Below w.heap.size w w') : BytesAt w' g off bs :=
  ⟨Nat.lt_of_lt_of_le h.1 hb.size, fun j x hx => cell_later hb (h.2 j x hx)⟩
theorem string_word {w : World} {g off cap k : Nat} {bs : List UInt8} (h : BytesAt w g off bs) (hl : bs.length = 64) (hk : k < 16) :
    (convert 32 9 (.slice (some ⟨g, off + 4 * k, none⟩) 4 cap)).run Tryd.prog w = .ok (.string ⟨((bs.drop (4 * k)).take 4).toArray⟩) w := by
  rw [← strOfNums_bytes]
  refine run_convert_bytes_arg w 32 5 Tryd.underlying32 Tryd.underlying5 g (off + 4 * k) 4 cap (((bs.drop (4 * k)).take 4).map fun x => (x.toNat : Int)) (by simp; omega) (fun i hi => ?_) 9 Tryd.underlying9
  have hi4 : i < 4 := hi
  have := h.2 (4 * k + i) (bs[4 * k + i]'(by omega)) (List.getElem?_eq_getElem (by omega))
  rw [Nat.add_assoc, this]
  have e : (List.map (fun x : UInt8 => (x.toNat : Int)) ((bs.drop (4 * k)).take 4))[i]? = some ((bs[4 * k + i]'(by omega)).toNat : Int) := by
    rw [List.getElem?_map, List.getElem?_take, if_pos hi4, List.getElem?_drop, List.getElem?_eq_getElem (by omega)]; rfl
  rw [List.getD_eq_getElem?_getD, e]; rfl
/-- A block is new; what comes behind knows it by what it holds. -/
theorem abs1 {C : World → Prop} {w : World} {o : Obj} (h : ∀ w1, Below w.heap.size w w1 → w1.heap[w.heap.size]? = some o → C w1) : C (w.alloc o) := h _ (balloc _ _) (heap_new _ _)
theorem st_free {w : World} {b : Nat} {s : Sha.St} (h : w.heap[b]? = some (stO s)) (i : Nat) : w.frozen? ⟨b, i, none⟩ = false := free_of h i
theorem abs_row {C : World → Prop} {w : World} {g : Nat} {old new : Array Value} {t : TypeId} (hg : w.heap[g]? = some (.cells old t (0, 0))) (h : ∀ w1, Touch (· = g) w w1 → w1.heap[g]? = some (.cells new t (0, 0)) → C w1) : C (w.setRow g new) :=
  h _ (setRow_touch w g new) (setRow_heap hg)
theorem Tryd.u32Size : (Tryd.prog.info? 48).map (·.size) = some 1 := by kernel_rfl
section
variable {P : Program}
theorem wpList_copy_row {w : World} {ops : Array Oper} {rest : List Oper} {o : Oper} {a : Act} {Q : Exit → Act → World → Prop} (hgd : o.guard = none) (d x : Operand) (dT sT : TypeId)
    (ho : o.op = .call { callee := .builtin .copy, args := #[d, x], argTypes := #[dT, sT] }) (elem : TypeId) (g at_ dLen dCap : Nat) (ad : Addr) (sLen sCap : Nat) (cur : Array Value) (t : TypeId) (cs : List Value)
    (hd : a.eval d = .slice (some ⟨g, at_, none⟩) dLen dCap) (hx : a.eval x = .slice (some ad) sLen sCap)
    (hu : P.underlying dT = some (.slice elem)) (hs : (P.info? elem).map (·.size) = some 1)
    (hg : w.heap[g]? = some (.cells cur t (0, 0))) (hn : cs.length = Nat.min sLen dLen)
    (hsrc : ∀ j v, cs[j]? = some v → w.cell? (ad.add j) = some v) (hfit : at_ + cs.length ≤ cur.size) (h1 : ∀ v ∈ cs, v.oneCell' = true) (new : Array Value) (hnew : (cur.toList.take at_ ++ cs ++ cur.toList.drop (at_ + cs.length)).toArray = new)
    (h : wpList P ops Q rest (a.put o.dst (goInt cs.length)) (w.setRow g new)) : wpList P ops Q (o :: rest) a w := by
  refine wpList_plain hgd fun K hK => ?_
  have hr := run_copy_row P w dT sT o.type elem g at_ dLen dCap ad sLen sCap cur t cs hu hs hg hn hsrc hfit h1
  unfold Oper.wp execOp
  simp only [ho, resolve, invoke, builtin, Sem.run_bind, Sem.run_pure, Result.andThen_ok, List.map_toArray, List.map_cons, List.map_nil, hd, hx, hr, hnew]
  exact hK _ _ h
end
/-- Three blocks are new; what comes behind knows them by what they hold. -/
theorem abs3 {C : World → Prop} {w : World} {o0 o1 : Obj} {cs : Array Value} {T : TypeId} (h : ∀ w3, Below w.heap.size w w3 → w3.heap[w.heap.size]? = some o0 → w3.heap[w.heap.size + 1]? = some o1 → w3.heap[w.heap.size + 1 + 1]? = some (.cells cs T (0, 0)) → C w3) :
    C (((w.alloc o0).alloc o1).alloc (.cells cs T)) := by
  have h1 := heap_new (w.alloc o0) o1
  have h2 := heap_new ((w.alloc o0).alloc o1) (.cells cs T)
  rw [World.size_alloc] at h1
  rw [World.size_alloc, World.size_alloc] at h2
  exact h _ (bthen (bthen (balloc _ _) (balloc _ _)) (balloc _ _)) (stays (stays (heap_new w o0) (balloc _ _)) (balloc _ _)) (stays h1 (balloc _ _)) h2

set_option maxHeartbeats 20000000 in
set_option maxRecDepth 100000 in
theorem next_any (w : World) (s : Sha.St) (bs : List UInt8) (g off cap kb : Nat) (ks : List U32) (hks : ks.length = 64) (hbs : bs.length = 64) (hcap : 64 ≤ cap) (hcm : cap ≤ 9223372036854775807) (hb : BytesAt w g off bs) (hk : Words w kb 49 ks) :
    Calls Tryd.prog 28 #[stV s, .slice (some ⟨g, off, none⟩) 64 cap, .pointer (some ⟨kb, 0, none⟩)] w fun e w' => e = .returned (stV (Sha.block ks s bs)) ∧ Below w.heap.size w w' := by
  have HB := Lib.hid hb
  have HK := Lib.hid hk
  have HKL := Lib.hid hks
  have HBL := Lib.hid hbs
  clear hb hk hks hbs
  unfold stV
  go_enter Tryd.func28, Tryd.ntmps28
  go_wp2_with fail
  refine abs3 ?_
  intro w3 b3 n0 n1 n2
  have N0 := Lib.hid n0
  have N1 := Lib.hid n1
  have N2 : Hid (Words w3 (w.heap.size + 1 + 1) 49 (List.replicate 64 0)) := n2
  have B3 := Lib.hid b3
  obtain ⟨B0, hB0⟩ : ∃ B0, w.heap.size = B0 := ⟨_, rfl⟩
  have HB0 := Lib.hid hB0
  have hs3 := heap_lt n2
  rw [hB0] at N0 N1 N2 hs3 ⊢
  clear n0 n1 n2 b3 hB0
  obtain ⟨B1, hB1⟩ : ∃ B1, B0 + 1 = B1 := ⟨_, rfl⟩
  have l01 : B0 < B1 := by omega
  rw [hB1] at N1 N2 hs3 ⊢
  clear hB1
  obtain ⟨B2, hB2⟩ : ∃ B2, B1 + 1 = B2 := ⟨_, rfl⟩
  have l12 : B1 < B2 := by omega
  rw [hB2] at N2 hs3 ⊢
  clear hB2
  have hgB : g < B0 := by have := HB.out.1; have := HB0.out; omega
  go_loopw [20] (fun i wr => ∃ (k : Nat) (ws : List U32), i = .int .i64 k ∧ k ≤ 16 ∧ Words wr B2 49 ws ∧ ws.length = 64 ∧ ws.take k = Sha.sched bs k ∧ Touch (· = B2) w3 wr) (fun i _ => 16 - (intOf i).toNat)
  case atStart => exact ⟨0, _, rfl, by omega, N2.out, by simp, rfl, Touch.refl _ _⟩
  case round =>
    obtain ⟨k, ws, rfl, hk16, hws, hwl, hwt, ht⟩ := hrel
    have HWS := Lib.hid hws
    have HWL := Lib.hid hwl
    have HWT := Lib.hid hwt
    have HT := Lib.hid ht
    have hfr := free_of hws
    have hlt2 := heap_lt hws
    clear hws hwl hwt ht
    by_cases hkl : k < 16
    · skip
      have hbw : BytesAt wr g off bs := ⟨by have := HT.out.size; omega, fun j x hx => by
        have h1 := (HB.out.below B3.out).2 j x hx
        exact (World.cell?_of_block (a := ⟨g, off + j, none⟩) (HT.out.block g (by omega) (by omega))).trans h1⟩
      have hcv := fun cap => string_word (cap := cap) hbw HBL.out hkl
      obtain ⟨u, hu⟩ := List.getElem?_eq_getElem (show k < ws.length by rw [HWL.out]; omega) |> fun h => (⟨_, h⟩ : ∃ u, ws[k]? = some u)
      have hcell := HWS.out.cell (show k < ws.length by rw [HWL.out]; omega)
      have HBW := Lib.hid hbw
      clear hbw hu
      go_wp2_with (first | (go_at_call 36; refine (value_any _ _ (by simp; omega)).mono ?_; rintro e wv ⟨rfl, rfl⟩))
      go_roundw
      case rel =>
        refine ⟨k + 1, ws.set k (Sha.word bs k), by go_num, by omega, ?_, by simpa using HWL.out, ?_, HT.out.trans touch_set1 (fun _ _ h => h)⟩
        · have h1 := HWS.out.set k (Sha.word bs k)
          rwa [show (((Sha.word bs k).toNat : Nat) : Int) = (Sha.val ((bs.drop (4 * k)).take 4) : Int) % 4294967296 by simp [Sha.word]] at h1
        · rw [take_set_snoc (by rw [HWL.out]; omega) HWT.out, Sha.sched, if_pos hkl]
      case measure => simp [intOf]; omega
    · obtain rfl : k = 16 := by omega
      clear hfr hlt2
      rw [show ((16 : Nat) : Int) = 16 from rfl]
      go_wp2_with fail
      go_loopw [10] (fun i wr => ∃ (k : Nat) (ws : List U32), i = .int .i64 k ∧ 16 ≤ k ∧ k ≤ 64 ∧ Words wr B2 49 ws ∧ ws.length = 64 ∧ ws.take k = Sha.sched bs k ∧ Touch (· = B2) w3 wr) (fun i _ => 64 - (intOf i).toNat)
      case atStart => exact ⟨16, ws, rfl, by omega, by omega, HWS.out, HWL.out, HWT.out, HT.out⟩
      case round =>
        clear HWS HWL HWT HT hk16 hkl
        obtain ⟨k, ws, rfl, hk16, hk64, hws, hwl, hwt, ht⟩ := hrel
        have HWS := Lib.hid hws
        have HWL := Lib.hid hwl
        have HWT := Lib.hid hwt
        have HT := Lib.hid ht
        have hfr := free_of hws
        have hlt2 := heap_lt hws
        clear hws hwl hwt ht
        by_cases hkl : k < 64
        · skip
          have c16 := HWS.out.cell (j := k - 16) (by rw [HWL.out]; omega)
          have c15 := HWS.out.cell (j := k - 15) (by rw [HWL.out]; omega)
          have c7 := HWS.out.cell (j := k - 7) (by rw [HWL.out]; omega)
          have c2 := HWS.out.cell (j := k - 2) (by rw [HWL.out]; omega)
          have c0 := HWS.out.cell (j := k) (by rw [HWL.out]; omega)
          have HNX := Lib.hid (nextW_take HWT.out hk16)
          generalize ws.getD (k - 16) 0 = x16 at c16 HNX
          generalize ws.getD (k - 15) 0 = x15 at c15 HNX
          generalize ws.getD (k - 7) 0 = x7 at c7 HNX
          generalize ws.getD (k - 2) 0 = x2 at c2 HNX
          generalize ws.getD k 0 = x0 at c0
          go_wp2_with fail
          go_quiet (fail)
          go_wp2_with fail
          have e16 : IntKind.i64.wrap ((k : Int) - 16) = (k : Int) - 16 := IntWalk.i64_in _ (by omega)
          have e7 : IntKind.i64.wrap ((k : Int) - 7) = (k : Int) - 7 := IntWalk.i64_in _ (by omega)
          have p16 : 16 ≤ (k : Int) := by omega
          have p7 : 7 ≤ (k : Int) := by omega
          have q16 : (k : Int) - 16 < 64 := by omega
          have q7 : (k : Int) - 7 < 64 := by omega
          have n16 : ((k : Int) - 16).toNat = k - 16 := by omega
          have n7 : ((k : Int) - 7).toNat = k - 7 := by omega
          refine region_tail 33 (by kernel_rfl) (by kernel_rfl) ?_
          intro wy hwy
          replace c16 : wy.cell? ⟨B2, k - 16, none⟩ = some (.int .u32 x16.toNat) := by rw [hwy.out]; exact c16
          replace c7 : wy.cell? ⟨B2, k - 7, none⟩ = some (.int .u32 x7.toNat) := by rw [hwy.out]; exact c7
          replace c0 : wy.cell? ⟨B2, k, none⟩ = some (.int .u32 x0.toNat) := by rw [hwy.out]; exact c0
          replace hfr : ∀ i, wy.frozen? ⟨B2, i, none⟩ = false := fun i => by rw [hwy.out]; exact hfr i
          clear c15 c2 hlt2
          simp only [List.take_succ_cons, List.take_zero, List.drop_succ_cons, List.drop_zero]
          iterate 33 (first | still_step | still_call (ror_q _ _ _ (by decide) (by decide)))
          refine wpStill_nil ?_
          clear e16 e7 n16 n7 c16 c7
          go_wp2_with fail
          go_roundw
          case rel =>
            refine ⟨k + 1, ws.set k (Sha.nextW (Sha.sched bs k)), by go_num, by omega, by omega, ?_, by simpa using HWL.out, ?_, ?_⟩
            · have h1 := (show Words wy B2 49 ws by rw [hwy.out]; exact HWS.out).set k (Sha.nextW (Sha.sched bs k))
              rw [HNX.out] at h1 ⊢
              have E : ((x16.toNat : Int) + bits .xor .u32 (bits .xor .u32 (Sha.ror x15 7).toNat (Sha.ror x15 18).toNat) ((x15.toNat : Int) / 8) + (x7.toNat : Int) +
                  bits .xor .u32 (bits .xor .u32 (Sha.ror x2 17).toNat (Sha.ror x2 19).toNat) ((x2.toNat : Int) / 1024)) % 4294967296 = ((x16 + Sha.s0 x15 + x7 + Sha.s1 x2).toNat : Int) := by
                simp only [x_xor, x_shr3, x_shr10, x_add4, Sha.s0, Sha.s1]
              rw [← E] at h1
              exact h1
            · rw [take_set_snoc (by rw [HWL.out]; omega) HWT.out, Sha.sched, if_neg (by omega)]
            · refine HT.out.trans (Touch.trans (T := (· = B2)) (Touch.of_below (S := (· = B2)) ?_) touch_set1 (fun _ _ h => h)) (fun _ _ h => h)
              rw [hwy.out]
              exact (below_drewN (Below.refl _ _) _).drew
          case measure => simp [intOf]; omega
        · obtain rfl : k = 64 := by omega
          clear hfr hlt2 hkl hk16 hk64
          rw [show ((64 : Nat) : Int) = 64 from rfl]
          obtain ⟨sch, hsch⟩ : ∃ sch, Sha.sched bs 64 = sch := ⟨_, rfl⟩
          have HSL : Hid (sch.length = 64) := by rw [← hsch]; exact Sha.sched_length bs 64
          have HW : Hid (Words wr B2 49 sch) := by
            have := HWT.out
            rw [List.take_of_length_le (by rw [HWL.out]; omega), hsch] at this
            rw [← this]; exact HWS.out
          have HSCH := Lib.hid hsch
          clear hsch
          have M0 : Hid (wr.heap[B0]? = some (stO s)) := (HT.out.block B0 (by omega) (by omega)).trans N0.out
          have M1 := Lib.hid ((HT.out.block B1 (by omega) (by omega)).trans N1.out)
          clear HWS HWL HWT
          obtain ⟨m0, m1, m2, m3, m4, m5, m6, m7⟩ := st_cells M0.out
          go_wp2_with fail
          refine abs1 ?_
          intro w4 b4 n4
          obtain ⟨B4, hB4⟩ : ∃ B4, wr.heap.size = B4 := ⟨_, rfl⟩
          have l24 : B2 < B4 := by have := heap_lt HW.out; omega
          have V4 : Hid (w4.heap[B4]? = some (stO s)) := by rw [← hB4]; exact n4
          have W4 : Hid (Words w4 B2 49 sch) := stays HW.out b4
          have P0 := Lib.hid (stays M0.out b4)
          have P1 := Lib.hid (stays M1.out b4)
          have P4 : Hid (Below w.heap.size w w4) := by
            have h1 := HT.out.below (B := w.heap.size) (Nat.le_trans B3.out.size (Nat.le_refl _)) (fun k hk e => by have := HB0.out; omega)
            exact (B3.out.trans h1).trans (b4.mono (Nat.le_trans B3.out.size HT.out.size))
          have K4 : Hid (Words w4 kb 49 ks) := stays HK.out P4.out
          have lkB : kb < B0 := by have := heap_lt HK.out; have := HB0.out; omega
          rw [hB4]
          clear n4 b4 hB4 HW M0 M1 HT m0 m1 m2 m3 m4 m5 m6 m7
          go_loopw [82] (fun i wr => ∃ (k : Nat) (v : Sha.St), i = .int .i64 k ∧ k ≤ 64 ∧ wr.heap[B4]? = some (stO v) ∧ v = Sha.rounds s ks sch k ∧ Touch (· = B4) w4 wr) (fun i _ => 64 - (intOf i).toNat)
          case atStart => exact ⟨0, _, rfl, by omega, V4.out, rfl, Touch.refl _ _⟩
          case round =>
            obtain ⟨k, v, rfl, hk3, hv, hvk, ht⟩ := hrel
            have HV := Lib.hid hv
            have HVK := Lib.hid hvk
            have HT := Lib.hid ht
            have hlt4 := heap_lt hv
            clear hv hvk ht
            by_cases hk3l : k < 64
            · skip
              obtain ⟨c0, c1, c2, c3, c4, c5, c6, c7⟩ := st_cells HV.out
              have ck : wr.cell? ⟨kb, k, none⟩ = some (.int .u32 (ks.getD k 0).toNat) := (World.cell?_of_block (a := ⟨kb, k, none⟩) (HT.out.block kb (heap_lt K4.out) (by omega))).trans (K4.out.cell (by rw [HKL.out]; omega))
              have cw : wr.cell? ⟨B2, k, none⟩ = some (.int .u32 (sch.getD k 0).toNat) := (World.cell?_of_block (a := ⟨B2, k, none⟩) (HT.out.block B2 (heap_lt W4.out) (by omega))).trans (W4.out.cell (by rw [HSL.out]; omega))
              obtain ⟨kk, hkk⟩ : ∃ kk, ks.getD k 0 = kk := ⟨_, rfl⟩
              obtain ⟨ww, hww⟩ : ∃ ww, sch.getD k 0 = ww := ⟨_, rfl⟩
              rw [hkk] at ck
              rw [hww] at cw
              have HKK := Lib.hid hkk
              have HWW := Lib.hid hww
              clear hkk hww
              obtain ⟨va, vb, vc, vd, ve, vf, vg, vh⟩ := v
              simp only [] at c0 c1 c2 c3 c4 c5 c6 c7
              have hq : (k : Int) < 64 := by omega
              go_wp2_with fail
              go_quiet (fail)
              go_wp2_with fail
              refine wp_region_quiet_lit (by kernel_rfl) (by kernel_rfl) ?_
              iterate 36 (first | go_big_quiet_step ((go_at_call 37; (first | exact Calls.quiet_of_same (ror_q _ _ _ (by decide) (by decide)) | exact quiet_add_same (ror_q _ _ _ (by decide) (by decide))))) | quiet_step ((go_at_call 37; (first | exact Calls.quiet_of_same (ror_q _ _ _ (by decide) (by decide)) | exact quiet_add_same (ror_q _ _ _ (by decide) (by decide))))))
              refine wpQuiet_nil ?_
              intro _ hw'
              obtain ⟨nq, hw''⟩ := hw'
              subst hw''
              iterate 3 go_step
              refine wp_region_quiet_lit (by kernel_rfl) (by kernel_rfl) ?_
              iterate 28 (first | go_big_quiet_step ((go_at_call 37; (first | exact Calls.quiet_of_same (ror_q _ _ _ (by decide) (by decide)) | exact quiet_add_same (ror_q _ _ _ (by decide) (by decide))))) | quiet_step ((go_at_call 37; (first | exact Calls.quiet_of_same (ror_q _ _ _ (by decide) (by decide)) | exact quiet_add_same (ror_q _ _ _ (by decide) (by decide))))))
              refine wpQuiet_nil ?_
              intro _ hw'
              obtain ⟨nq, hw''⟩ := hw'
              subst hw''
              iterate 3 go_step
              clear c0 c1 c2 c3 c4 c5 c6 c7 ck cw
              refine region_tail 2 (by kernel_rfl) (by kernel_rfl) ?_
              intro wy hwy
              have hvy : wy.heap[B4]? = some (stO ⟨va, vb, vc, vd, ve, vf, vg, vh⟩) := by rw [hwy.out]; exact HV.out
              have TY : Hid (Touch (· = B4) w4 wy) := HT.out.trans (Touch.of_below (S := (· = B4)) (by rw [hwy.out]; refine Below.drew ?_; repeat (first | exact Below.refl _ _ | refine below_drewN ?_ _))) (fun _ _ h => h)
              obtain ⟨y0, y1, y2, y3, y4, y5, y6, y7⟩ := st_cells hvy
              have HVY := Lib.hid hvy
              clear hvy
              simp only [List.take_succ_cons, List.take_zero, List.drop_succ_cons, List.drop_zero]
              iterate 2 still_step
              refine wpStill_nil ?_
              refine wpList_copy_row rfl (.tmp 151) (.tmp 152) 45 45 rfl 48 B4 1 7 7 ⟨B4, 0, none⟩ 7 8 _ _ [.int .u32 va.toNat, .int .u32 vb.toNat, .int .u32 vc.toNat, .int .u32 vd.toNat, .int .u32 ve.toNat, .int .u32 vf.toNat, .int .u32 vg.toNat] rfl rfl Tryd.underlying45 Tryd.u32Size HVY.out rfl ?_ (by simp) ?_
                #[.int .u32 va.toNat, .int .u32 va.toNat, .int .u32 vb.toNat, .int .u32 vc.toNat, .int .u32 vd.toNat, .int .u32 ve.toNat, .int .u32 vf.toNat, .int .u32 vg.toNat] rfl ?_
              · intro j u hj
                rw [addr_add, Nat.zero_add]
                match j, hj with
                | 0, hj => simp at hj; subst hj; exact y0
                | 1, hj => simp at hj; subst hj; exact y1
                | 2, hj => simp at hj; subst hj; exact y2
                | 3, hj => simp at hj; subst hj; exact y3
                | 4, hj => simp at hj; subst hj; exact y4
                | 5, hj => simp at hj; subst hj; exact y5
                | 6, hj => simp at hj; subst hj; exact y6
              · intro u hu
                simp at hu
                rcases hu with rfl | rfl | rfl | rfl | rfl | rfl | rfl <;> rfl
              refine abs_row HVY.out ?_
              intro w5 t5 n5
              have N5 := Lib.hid n5
              have T5 := Lib.hid (TY.out.trans t5 (fun _ _ h => h))
              have z0 := cell_of n5 (i := 0) rfl
              have z4 := cell_of n5 (i := 4) rfl
              have zf := free_of n5
              clear n5 t5 y0 y1 y2 y3 y4 y5 y6 y7
              go_wp2_with fail
              go_roundw
              case rel =>
                have key : ∀ X Y : Int, X = ((Sha.rnd ⟨va, vb, vc, vd, ve, vf, vg, vh⟩ kk ww).e.toNat : Int) → Y = ((Sha.rnd ⟨va, vb, vc, vd, ve, vf, vg, vh⟩ kk ww).a.toNat : Int) →
                    ((w5.setCell ⟨B4, 4, none⟩ (.int .u32 X)).setCell ⟨B4, 0, none⟩ (.int .u32 Y)).heap[B4]? = some (stO (Sha.rnd ⟨va, vb, vc, vd, ve, vf, vg, vh⟩ kk ww)) := by
                  intro X Y hX hY
                  subst hX; subst hY
                  exact heap_set (i := 0) _ (heap_set (i := 4) _ N5.out)
                exact ⟨k + 1, Sha.rnd ⟨va, vb, vc, vd, ve, vf, vg, vh⟩ kk ww, by go_num, by omega, key _ _ (x_rnd_e va vb vc vd ve vf vg vh kk ww) (x_rnd_a va vb vc vd ve vf vg vh kk ww), by rw [Sha.rounds, ← HVK.out, HKK.out, HWW.out],
                  T5.out.trans (touch_set1.trans touch_set1 (fun _ _ h => h)) (fun _ _ h => h)⟩
              case measure => simp [intOf]; omega
            · obtain rfl : k = 64 := by omega
              clear hk3l hk3
              rw [show ((64 : Nat) : Int) = 64 from rfl]
              have HBLK : Hid ((v.plus s) = Sha.block ks s bs) := by
                rw [Sha.block, HSCH.out, ← HVK.out]; exact rfl
              have Q0 : Hid (Words wr B0 52 s.list) := (HT.out.block B0 (heap_lt P0.out) (by omega)).trans P0.out
              have Q1 := Lib.hid ((HT.out.block B1 (heap_lt P1.out) (by omega)).trans P1.out)
              have Q4 : Hid (Words wr B4 52 (mix v s 0)) := HV.out
              have QT : Hid (Below w.heap.size w wr) := P4.out.trans (HT.out.below P4.out.size (fun k hk e => by have := HB0.out; omega))
              clear HVK HV W4 K4 P0 P1 V4
              go_wp2_with fail
              obtain ⟨wo, hwo⟩ : ∃ wo : World, wo = wr := ⟨_, rfl⟩
              rw [← hwo] at Q0 Q1 Q4 QT hlt4 ⊢
              clear hwo HT
              go_loopw [164] (fun i wr => ∃ k : Nat, i = .int .i64 k ∧ k ≤ 8 ∧ Words wr B4 52 (mix v s k) ∧ Touch (· = B4) wo wr) (fun i _ => 8 - (intOf i).toNat)
              case atStart => exact ⟨0, rfl, by omega, Q4.out, Touch.refl _ _⟩
              case round =>
                obtain ⟨k, rfl, hk8, hv, ht⟩ := hrel
                have HV := Lib.hid hv
                have HT := Lib.hid ht
                clear hv ht
                by_cases hkl : k < 8
                · have hq : (k : Int) < 8 := by omega
                  have cv := HV.out.cell (show k < (mix v s k).length from hkl)
                  rw [mix_get v s k hkl] at cv
                  have cs : wr.cell? ⟨B0, k, none⟩ = some (.int .u32 (s.list.getD k 0).toNat) := (World.cell?_of_block (a := ⟨B0, k, none⟩) (HT.out.block B0 (heap_lt Q0.out) (by omega))).trans (Q0.out.cell hkl)
                  have hfr := free_of HV.out
                  have HMS := Lib.hid (mix_set v s k hkl)
                  obtain ⟨x, hx⟩ : ∃ x, v.list.getD k 0 = x := ⟨_, rfl⟩
                  obtain ⟨y, hy⟩ : ∃ y, s.list.getD k 0 = y := ⟨_, rfl⟩
                  rw [hx] at cv HMS
                  rw [hy] at cs HMS
                  clear hx hy
                  go_wp2_with fail
                  refine region_tail 8 (by kernel_rfl) (by kernel_rfl) ?_
                  intro wy hwy
                  replace cv : wy.cell? ⟨B4, k, none⟩ = some (.int .u32 x.toNat) := by rw [hwy.out]; exact cv
                  replace cs : wy.cell? ⟨B0, k, none⟩ = some (.int .u32 y.toNat) := by rw [hwy.out]; exact cs
                  replace hfr : ∀ i, wy.frozen? ⟨B4, i, none⟩ = false := fun i => by rw [hwy.out]; exact hfr i
                  simp only [List.take_succ_cons, List.take_zero, List.drop_succ_cons, List.drop_zero]
                  iterate 8 still_step
                  refine wpStill_nil ?_
                  go_wp2_with fail
                  go_roundw
                  case rel =>
                    refine ⟨k + 1, by go_num, by omega, ?_, ?_⟩
                    · have h1 := (show Words wy B4 52 (mix v s k) by rw [hwy.out]; exact HV.out).set k (x + y)
                      rw [HMS.out, ← x_add] at h1
                      exact h1
                    · refine HT.out.trans (Touch.trans (T := (· = B4)) (Touch.of_below (S := (· = B4)) ?_) touch_set1 (fun _ _ h => h)) (fun _ _ h => h)
                      rw [hwy.out]
                      exact (Below.refl _ _).drew
                  case measure => simp [intOf]; omega
                · obtain rfl : k = 8 := by omega
                  clear hkl hk8
                  rw [show ((8 : Nat) : Int) = 8 from rfl]
                  have hvv : Words wr B4 52 (v.plus s).list := HV.out
                  rw [HBLK.out] at hvv
                  have HVV := Lib.hid hvv
                  have R1 := Lib.hid ((HT.out.block B1 (heap_lt Q1.out) (by omega)).trans Q1.out)
                  clear hvv HV
                  iterate 18 go_step
                  refine wpList_load_row rfl 52 (.tmp 13) rfl B4 rfl 52 (wcells (Sha.block ks s bs).list).toArray (0, 0) _ HVV.out Tryd.underlying52 rfl Tryd.stateSize ?_
                  refine wpList_store_row rfl 52 (.tmp 6) (.tmp 176) rfl B1 (wcells (Sha.block ks s bs).list).toArray rfl rfl 52 _ R1.out Tryd.stateSize rfl (wcells_one _) ?_
                  refine abs_row R1.out ?_
                  intro w9 t9 n9
                  have N9 := Lib.hid n9
                  have T9 := Lib.hid t9
                  clear n9 t9
                  go_wp2_with fail
                  refine bodyPost_ret (v := stV (Sha.block ks s bs)) (results_cell_row Tryd.results28 _ _ B1 _ _ _ _ rfl N9.out Tryd.underlying52 rfl Tryd.stateSize) rfl ⟨rfl, ?_⟩
                  have h1 := HT.out.below (B := w.heap.size) QT.out.size (fun k hk e => by have := HB0.out; omega)
                  have h2 := T9.out.below (B := w.heap.size) (Nat.le_trans QT.out.size HT.out.size) (fun k hk e => by have := HB0.out; omega)
                  exact (QT.out.trans h1).trans h2
end Go.Proofs.YtommbdlkmkphpaaDoor
