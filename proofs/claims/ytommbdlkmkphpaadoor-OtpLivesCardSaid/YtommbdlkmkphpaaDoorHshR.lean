/- Walk of bytes.Repeat at one byte, 64 times. -/
import Derived.Test.YtommbdlkmkphpaaDoorHshS
import Derived.Lib.MakeNoZero
import Derived.Test.YtommbdlkmkphpaaDoorReg
namespace Go.Proofs.YtommbdlkmkphpaaDoor
open Go.RowKit

set_option maxHeartbeats 1000000 in
theorem mul64_any (w : World) : Calls Tryd.prog 40 #[.int .u64 1, .int .u64 64] w fun e w' => e = .returned (.tuple #[.int .u64 0, .int .u64 64]) ∧ w = w' := by
  go_enter Tryd.func40, Tryd.ntmps40
  go_wp2
  go_ret2
  exact ⟨by kernel_rfl, rfl⟩
set_option maxHeartbeats 1000000 in
theorem mul_any (w : World) : Calls Tryd.prog 29 #[.int .u64 1, .int .u64 64] w fun e w' => e = .returned (.tuple #[.int .u64 0, .int .u64 64]) ∧ w = w' := by
  go_enter Tryd.func29, Tryd.ntmps29
  go_wp2_with fail
  refine (mul64_any w).mono ?_
  rintro e w' ⟨rfl, rfl⟩
  go_wp2
  go_ret2
  exact ⟨rfl, rfl⟩
/-- Block b begins with k times this byte. -/
def RowX (w : World) (b k : Nat) (x : UInt8) : Prop := ∃ cur : Array Value, w.heap[b]? = some (.cells cur 5 (0, 0)) ∧ 64 ≤ cur.size ∧ ∀ j, j < k → cur[j]? = some (.int .u8 x.toNat)
theorem rowX_copy {cur : Array Value} {x : UInt8} {k m : Nat} (hs : 64 ≤ cur.size) (hk : ∀ j, j < k → cur[j]? = some (Value.int .u8 x.toNat)) (hm : k + m ≤ 64) :
    64 ≤ (cur.toList.take k ++ List.replicate m (Value.int .u8 x.toNat) ++ cur.toList.drop (k + (List.replicate m (Value.int .u8 x.toNat)).length)).toArray.size ∧
    ∀ j, j < k + m → (cur.toList.take k ++ List.replicate m (Value.int .u8 x.toNat) ++ cur.toList.drop (k + (List.replicate m (Value.int .u8 x.toNat)).length)).toArray[j]? = some (Value.int .u8 x.toNat) := by
  constructor
  · simp; omega
  · intro j hj
    have hl : (cur.toList.take k).length = k := by simp; omega
    rw [List.getElem?_toArray, List.append_assoc]
    by_cases h1 : j < k
    · rw [List.getElem?_append_left (by omega), List.getElem?_take, if_pos h1]
      simpa using hk j h1
    · rw [List.getElem?_append_right (by omega), hl, List.getElem?_append_left (by simp; omega)]
      rw [List.getElem?_replicate, if_pos (by omega)]
section
variable {P : Program}
theorem wp_copy_row {w : World} {o : Oper} {a : Act} {K : Act → World → Prop} {Q : Exit → Act → World → Prop} (d x : Operand) (dT sT : TypeId)
    (ho : o.op = .call { callee := .builtin .copy, args := #[d, x], argTypes := #[dT, sT] }) (elem : TypeId) (g at_ dLen dCap : Nat) (ad : Addr) (sLen sCap : Nat) (cur : Array Value) (t : TypeId) (cs : List Value)
    (hd : a.eval d = .slice (some ⟨g, at_, none⟩) dLen dCap) (hx : a.eval x = .slice (some ad) sLen sCap)
    (hu : P.underlying dT = some (.slice elem)) (hs : (P.info? elem).map (·.size) = some 1)
    (hg : w.heap[g]? = some (.cells cur t (0, 0))) (hn : cs.length = Nat.min sLen dLen)
    (hsrc : ∀ j v, cs[j]? = some v → w.cell? (ad.add j) = some v) (hfit : at_ + cs.length ≤ cur.size) (h1 : ∀ v ∈ cs, v.oneCell' = true) (new : Array Value) (hnew : (cur.toList.take at_ ++ cs ++ cur.toList.drop (at_ + cs.length)).toArray = new)
    (h : K (a.put o.dst (goInt cs.length)) (w.setRow g new)) : o.wp P a w K Q := by
  have hr := run_copy_row P w dT sT o.type elem g at_ dLen dCap ad sLen sCap cur t cs hu hs hg hn hsrc hfit h1
  unfold Oper.wp execOp
  simp only [ho, resolve, invoke, builtin, Sem.run_bind, Sem.run_pure, Result.andThen_ok, List.map_toArray, List.map_cons, List.map_nil, hd, hx, hr, hnew]
  exact h
end
theorem Tryd.u8Size : (Tryd.prog.info? 5).map (·.size) = some 1 := by kernel_rfl
set_option maxHeartbeats 4000000 in
set_option maxRecDepth 100000 in
theorem repeat_any (w : World) (g : Nat) (x : UInt8) (hx : w.cell? ⟨g, 0, none⟩ = some (.int .u8 x.toNat)) :
    Calls Tryd.prog 21 #[.slice (some ⟨g, 0, none⟩) 1 1, .int .i64 64] w fun e w' => ∃ b, e = .returned (.slice (some ⟨b, 0, none⟩) 64 64) ∧ w.heap.size ≤ b ∧ RowX w' b 64 x ∧ Below w.heap.size w w' := by
  obtain ⟨cs, hrun, hle, _⟩ := Lib.run_makeNoZero (P := Tryd.prog) w #[3] 32 5 Tryd.underlying32 64 (by decide)
  have hcall : (callFunc 30 #[.int .i64 64]).run Tryd.prog w = .ok (.value (.slice (some ⟨w.heap.size, 0, none⟩) 64 cs.size)) (w.drew.drew.alloc (.cells cs 5)) := by
    rw [run_callFunc_extern Tryd.func30 (by kernel_rfl) (by kernel_rfl) (by kernel_rfl) (e := Extern.BytealgMakeNoZero.makeNoZero #[3] #[32]) (by kernel_rfl)]
    rw [show (Value.int .i64 64) = Value.int .i64 ((64 : Nat) : Int) from rfl, hrun]
    rfl
  clear hrun
  have HX := Lib.hid hx
  have hcz : (64 : Int) ≤ (cs.size : Int) := by omega
  go_enter Tryd.func21, Tryd.ntmps21
  have hn0 : (w.alloc (.cells cs 5)).drew.drew.heap[w.heap.size]? = some (.cells cs 5 (0, 0)) := heap_new w _
  have hb0 : Below w.heap.size w (w.alloc (.cells cs 5)).drew.drew := (balloc w _).drew.drew
  have HN0 := Lib.hid hn0
  have HB0 := Lib.hid hb0
  have HLE := Lib.hid hle
  have HSRC : Hid (∀ j v, (List.replicate 1 (Value.int .u8 (x.toNat : Int)))[j]? = some v → (w.alloc (.cells cs 5)).drew.drew.cell? ((⟨g, 0, none⟩ : Addr).add j) = some v) := fun j u hj => by
    match j, hj with
    | 0, hj => simp at hj; subst hj; rw [addr_add]; exact cell_later hb0 hx
  have HFIT : Hid (0 + (List.replicate 1 (Value.int .u8 (x.toNat : Int))).length ≤ cs.size) := by show 0 + 1 ≤ cs.size; omega
  have HONE : Hid (∀ v ∈ List.replicate 1 (Value.int .u8 (x.toNat : Int)), v.oneCell' = true) := by intro u hu; simp at hu; subst hu; rfl
  clear hn0 hb0 hle hx
  go_wp2_with (first | (go_at_call 29; refine (mul_any _).mono ?_; rintro e wm ⟨rfl, rfl⟩) | (refine wpList_copy_row rfl (.tmp 58) (.tmp 59) 32 32 rfl 5 w.heap.size 0 64 64 ⟨g, 0, none⟩ 1 1 cs 5 (List.replicate 1 (.int .u8 x.toNat)) rfl rfl Tryd.underlying32 Tryd.u8Size HN0.out rfl HSRC.out HFIT.out HONE.out _ rfl ?_; refine abs_row HN0.out ?_; intro w1 t1 n1; have T1 := Lib.hid t1; have N1 := Lib.hid n1; clear t1 n1))
  have R1 : Hid (RowX w1 w.heap.size 1 x) := by
    have h := rowX_copy (cur := cs) (x := x) (k := 0) (m := 1) HLE.out (fun j h => absurd h (by omega)) (by decide)
    exact ⟨_, N1.out, h.1, h.2⟩
  have B1 : Hid (Below w.heap.size w w1) := HB0.out.trans (T1.out.below HB0.out.size (fun q hq e => by omega))
  clear N1 T1 HN0 HB0 HSRC HFIT HONE hcall
  go_loopw [10] (fun v wr => ∃ k : Nat, v = .int .i64 k ∧ (k = 1 ∨ k = 2 ∨ k = 4 ∨ k = 8 ∨ k = 16 ∨ k = 32 ∨ k = 64) ∧ RowX wr w.heap.size k x ∧ Below w.heap.size w wr) (fun v _ => 64 - (intOf v).toNat)
  case atStart => exact ⟨1, rfl, by decide, R1.out, B1.out⟩
  case round =>
    obtain ⟨k, rfl, hk, ⟨cur, hc, hsz, hj⟩, hb⟩ := hrel
    have HC := Lib.hid hc
    have HSZ := Lib.hid hsz
    have HJ := Lib.hid hj
    have HBW := Lib.hid hb
    clear hc hsz hj hb R1 B1
    by_cases h64 : k = 64
    · subst h64
      clear hk
      rw [show ((64 : Nat) : Int) = 64 from rfl]
      go_wp2_with fail
      go_ret
      exact ⟨w.heap.size, rfl, Nat.le_refl _, ⟨cur, HC.out, HSZ.out, HJ.out⟩, HBW.out⟩
    · rcases (show k = 1 ∨ k = 2 ∨ k = 4 ∨ k = 8 ∨ k = 16 ∨ k = 32 by omega) with rfl | rfl | rfl | rfl | rfl | rfl
      all_goals clear hk h64
      · skip
        have HSRC : Hid (∀ j v, (List.replicate 1 (Value.int .u8 (x.toNat : Int)))[j]? = some v → wr.drew.cell? ((⟨w.heap.size, 0, none⟩ : Addr).add j) = some v) := fun j u hj => by
          rw [List.getElem?_replicate] at hj
          split at hj
          · cases hj; rw [addr_add, Nat.zero_add]; exact cell_of HC.out (HJ.out j (by omega))
          · cases hj
        have HFIT : Hid (1 + (List.replicate 1 (Value.int .u8 (x.toNat : Int))).length ≤ cur.size) := by have := HSZ.out; show 1 + (List.replicate 1 _).length ≤ _; rw [List.length_replicate]; omega
        have HONE : Hid (∀ v ∈ List.replicate 1 (Value.int .u8 (x.toNat : Int)), v.oneCell' = true) := by intro u hu; rw [List.mem_replicate] at hu; obtain ⟨_, rfl⟩ := hu; rfl
        have HRX := Lib.hid (rowX_copy (k := 1) (m := 1) HSZ.out HJ.out (by decide))
        go_wp2_with fail
        have hST : True := trivial
        refine wp_region_heldL (S := fun _ => True) (by kernel_rfl) ?_
        obtain ⟨wy, hwy⟩ : ∃ wy, wr.drew = wy := ⟨_, rfl⟩
        rw [hwy]
        have hcy : wy.heap[w.heap.size]? = some (.cells cur 5 (0, 0)) := by rw [← hwy]; exact HC.out
        have HCY := Lib.hid hcy
        have HSY : Hid (∀ j v, (List.replicate 1 (Value.int .u8 (x.toNat : Int)))[j]? = some v → wy.cell? ((⟨w.heap.size, 0, none⟩ : Addr).add j) = some v) := by rw [← hwy]; exact HSRC.out
        have HTY : Hid (Below w.heap.size w wy) := by rw [← hwy]; exact HBW.out.drew
        clear hcy hwy
        refine wpAnyH_takeL (i := 0) (v := ?_) rfl (by kernel_rfl) (by kernel_rfl) (by kernel_rfl) (fun _ _ _ h => h) ?_ (by assumption) ?_; rotate_left; focus (first | (refine Or.inr ⟨by rfl, ?_⟩; with_reducible rfl) | (refine Or.inl ⟨by rfl, ?_⟩; (intro w hSw; (try dsimp only at hSw); go_simp); try with_reducible rfl))
        simp only [Act.put, List.setIfInBounds_toArray, List.set_cons_zero, List.set_cons_succ]
        refine wpAnyH_takeL (i := 1) (v := ?_) rfl (by kernel_rfl) (by kernel_rfl) (by kernel_rfl) (fun _ _ _ h => h) ?_ (by assumption) ?_; rotate_left; focus (first | (refine Or.inr ⟨by rfl, ?_⟩; with_reducible rfl) | (refine Or.inl ⟨by rfl, ?_⟩; (intro w hSw; (try dsimp only at hSw); go_simp); try with_reducible rfl))
        simp only [Act.put, List.setIfInBounds_toArray, List.set_cons_zero, List.set_cons_succ]
        refine wpAnyH_takeL (i := 2) (v := ?_) rfl (by kernel_rfl) (by kernel_rfl) (by kernel_rfl) (fun _ _ _ h => h) ?_ (by assumption) ?_; rotate_left; focus (first | (refine Or.inr ⟨by rfl, ?_⟩; with_reducible rfl) | (refine Or.inl ⟨by rfl, ?_⟩; (intro w hSw; (try dsimp only at hSw); go_simp); try with_reducible rfl))
        simp only [Act.put, List.setIfInBounds_toArray, List.set_cons_zero, List.set_cons_succ]
        refine wpAnyH_takeL (i := 3) (v := ?_) rfl (by kernel_rfl) (by kernel_rfl) (by kernel_rfl) (fun _ _ _ h => h) ?_ (by assumption) ?_; rotate_left; focus (first | (refine Or.inr ⟨by rfl, ?_⟩; with_reducible rfl) | (refine Or.inl ⟨by rfl, ?_⟩; (intro w hSw; (try dsimp only at hSw); go_simp); try with_reducible rfl))
        simp only [Act.put, List.setIfInBounds_toArray, List.set_cons_zero, List.set_cons_succ]
        refine wpAnyH_takeL (i := 4) (v := ?_) rfl (by kernel_rfl) (by kernel_rfl) (by kernel_rfl) (fun _ _ _ h => h) ?_ (by assumption) ?_; rotate_left; focus (first | (refine Or.inr ⟨by rfl, ?_⟩; with_reducible rfl) | (refine Or.inl ⟨by rfl, ?_⟩; (intro w hSw; (try dsimp only at hSw); go_simp); try with_reducible rfl))
        simp only [Act.put, List.setIfInBounds_toArray, List.set_cons_zero, List.set_cons_succ]
        refine wpAnyH_takeL (i := 5) (v := ?_) rfl (by kernel_rfl) (by kernel_rfl) (by kernel_rfl) (fun _ _ _ h => h) ?_ (by assumption) ?_; rotate_left; focus (first | (refine Or.inr ⟨by rfl, ?_⟩; with_reducible rfl) | (refine Or.inl ⟨by rfl, ?_⟩; (intro w hSw; (try dsimp only at hSw); go_simp); try with_reducible rfl))
        simp only [Act.put, List.setIfInBounds_toArray, List.set_cons_zero, List.set_cons_succ]
        refine wpAnyH_takeL (i := 6) (v := ?_) rfl (by kernel_rfl) (by kernel_rfl) (by kernel_rfl) (fun _ _ _ h => h) ?_ (by assumption) ?_; rotate_left; focus (first | (refine Or.inr ⟨by rfl, ?_⟩; with_reducible rfl) | (refine Or.inl ⟨by rfl, ?_⟩; (intro w hSw; (try dsimp only at hSw); go_simp); try with_reducible rfl))
        simp only [Act.put, List.setIfInBounds_toArray, List.set_cons_zero, List.set_cons_succ]
        refine wpAnyH_oneL (i := 7) rfl (by kernel_rfl) ?_
        intro K hK
        rw [if_pos (by rfl)]
        refine wp_copy_row (.tmp 70) (.tmp 73) 32 32 rfl 5 w.heap.size 1 63 63 ⟨w.heap.size, 0, none⟩ 1 64 cur 5 (List.replicate 1 (.int .u8 x.toNat)) rfl rfl Tryd.underlying32 Tryd.u8Size HCY.out rfl HSY.out HFIT.out HONE.out _ rfl ?_
        refine abs_row HCY.out ?_
        intro w2 t2 n2
        have T2 := Lib.hid t2
        have N2 := Lib.hid n2
        clear t2 n2
        refine hK _ _ hST ?_
        clear hK K
        simp only [Act.put, List.setIfInBounds_toArray, List.set_cons_zero, List.set_cons_succ]
        refine wpAnyH_oneL (i := 8) rfl (by kernel_rfl) ?_
        intro K hK
        rw [if_pos (by rfl)]
        go_simp
        refine hK _ _ hST ?_
        clear hK K
        refine wpAnyH_oneL (i := 9) rfl (by kernel_rfl) ?_
        intro K hK
        rw [if_pos (by rfl)]
        go_simp
        refine hK _ _ hST ?_
        clear hK K
        refine wpAnyH_done (by kernel_rfl) ?_ _
        go_wp2_with fail
        go_roundw
        case rel => exact ⟨2, rfl, by decide, ⟨_, N2.out, HRX.out.1, HRX.out.2⟩, HTY.out.trans (T2.out.below HTY.out.size (fun q hq e => by omega))⟩
        case measure => simp [intOf, IntKind.wrap, IntKind.bits, IntKind.signed]
      · skip
        have HSRC : Hid (∀ j v, (List.replicate 2 (Value.int .u8 (x.toNat : Int)))[j]? = some v → wr.drew.cell? ((⟨w.heap.size, 0, none⟩ : Addr).add j) = some v) := fun j u hj => by
          rw [List.getElem?_replicate] at hj
          split at hj
          · cases hj; rw [addr_add, Nat.zero_add]; exact cell_of HC.out (HJ.out j (by omega))
          · cases hj
        have HFIT : Hid (2 + (List.replicate 2 (Value.int .u8 (x.toNat : Int))).length ≤ cur.size) := by have := HSZ.out; show 2 + (List.replicate 2 _).length ≤ _; rw [List.length_replicate]; omega
        have HONE : Hid (∀ v ∈ List.replicate 2 (Value.int .u8 (x.toNat : Int)), v.oneCell' = true) := by intro u hu; rw [List.mem_replicate] at hu; obtain ⟨_, rfl⟩ := hu; rfl
        have HRX := Lib.hid (rowX_copy (k := 2) (m := 2) HSZ.out HJ.out (by decide))
        go_wp2_with fail
        have hST : True := trivial
        refine wp_region_heldL (S := fun _ => True) (by kernel_rfl) ?_
        obtain ⟨wy, hwy⟩ : ∃ wy, wr.drew = wy := ⟨_, rfl⟩
        rw [hwy]
        have hcy : wy.heap[w.heap.size]? = some (.cells cur 5 (0, 0)) := by rw [← hwy]; exact HC.out
        have HCY := Lib.hid hcy
        have HSY : Hid (∀ j v, (List.replicate 2 (Value.int .u8 (x.toNat : Int)))[j]? = some v → wy.cell? ((⟨w.heap.size, 0, none⟩ : Addr).add j) = some v) := by rw [← hwy]; exact HSRC.out
        have HTY : Hid (Below w.heap.size w wy) := by rw [← hwy]; exact HBW.out.drew
        clear hcy hwy
        refine wpAnyH_takeL (i := 0) (v := ?_) rfl (by kernel_rfl) (by kernel_rfl) (by kernel_rfl) (fun _ _ _ h => h) ?_ (by assumption) ?_; rotate_left; focus (first | (refine Or.inr ⟨by rfl, ?_⟩; with_reducible rfl) | (refine Or.inl ⟨by rfl, ?_⟩; (intro w hSw; (try dsimp only at hSw); go_simp); try with_reducible rfl))
        simp only [Act.put, List.setIfInBounds_toArray, List.set_cons_zero, List.set_cons_succ]
        refine wpAnyH_takeL (i := 1) (v := ?_) rfl (by kernel_rfl) (by kernel_rfl) (by kernel_rfl) (fun _ _ _ h => h) ?_ (by assumption) ?_; rotate_left; focus (first | (refine Or.inr ⟨by rfl, ?_⟩; with_reducible rfl) | (refine Or.inl ⟨by rfl, ?_⟩; (intro w hSw; (try dsimp only at hSw); go_simp); try with_reducible rfl))
        simp only [Act.put, List.setIfInBounds_toArray, List.set_cons_zero, List.set_cons_succ]
        refine wpAnyH_takeL (i := 2) (v := ?_) rfl (by kernel_rfl) (by kernel_rfl) (by kernel_rfl) (fun _ _ _ h => h) ?_ (by assumption) ?_; rotate_left; focus (first | (refine Or.inr ⟨by rfl, ?_⟩; with_reducible rfl) | (refine Or.inl ⟨by rfl, ?_⟩; (intro w hSw; (try dsimp only at hSw); go_simp); try with_reducible rfl))
        simp only [Act.put, List.setIfInBounds_toArray, List.set_cons_zero, List.set_cons_succ]
        refine wpAnyH_takeL (i := 3) (v := ?_) rfl (by kernel_rfl) (by kernel_rfl) (by kernel_rfl) (fun _ _ _ h => h) ?_ (by assumption) ?_; rotate_left; focus (first | (refine Or.inr ⟨by rfl, ?_⟩; with_reducible rfl) | (refine Or.inl ⟨by rfl, ?_⟩; (intro w hSw; (try dsimp only at hSw); go_simp); try with_reducible rfl))
        simp only [Act.put, List.setIfInBounds_toArray, List.set_cons_zero, List.set_cons_succ]
        refine wpAnyH_takeL (i := 4) (v := ?_) rfl (by kernel_rfl) (by kernel_rfl) (by kernel_rfl) (fun _ _ _ h => h) ?_ (by assumption) ?_; rotate_left; focus (first | (refine Or.inr ⟨by rfl, ?_⟩; with_reducible rfl) | (refine Or.inl ⟨by rfl, ?_⟩; (intro w hSw; (try dsimp only at hSw); go_simp); try with_reducible rfl))
        simp only [Act.put, List.setIfInBounds_toArray, List.set_cons_zero, List.set_cons_succ]
        refine wpAnyH_takeL (i := 5) (v := ?_) rfl (by kernel_rfl) (by kernel_rfl) (by kernel_rfl) (fun _ _ _ h => h) ?_ (by assumption) ?_; rotate_left; focus (first | (refine Or.inr ⟨by rfl, ?_⟩; with_reducible rfl) | (refine Or.inl ⟨by rfl, ?_⟩; (intro w hSw; (try dsimp only at hSw); go_simp); try with_reducible rfl))
        simp only [Act.put, List.setIfInBounds_toArray, List.set_cons_zero, List.set_cons_succ]
        refine wpAnyH_takeL (i := 6) (v := ?_) rfl (by kernel_rfl) (by kernel_rfl) (by kernel_rfl) (fun _ _ _ h => h) ?_ (by assumption) ?_; rotate_left; focus (first | (refine Or.inr ⟨by rfl, ?_⟩; with_reducible rfl) | (refine Or.inl ⟨by rfl, ?_⟩; (intro w hSw; (try dsimp only at hSw); go_simp); try with_reducible rfl))
        simp only [Act.put, List.setIfInBounds_toArray, List.set_cons_zero, List.set_cons_succ]
        refine wpAnyH_oneL (i := 7) rfl (by kernel_rfl) ?_
        intro K hK
        rw [if_pos (by rfl)]
        refine wp_copy_row (.tmp 70) (.tmp 73) 32 32 rfl 5 w.heap.size 2 62 62 ⟨w.heap.size, 0, none⟩ 2 64 cur 5 (List.replicate 2 (.int .u8 x.toNat)) rfl rfl Tryd.underlying32 Tryd.u8Size HCY.out rfl HSY.out HFIT.out HONE.out _ rfl ?_
        refine abs_row HCY.out ?_
        intro w2 t2 n2
        have T2 := Lib.hid t2
        have N2 := Lib.hid n2
        clear t2 n2
        refine hK _ _ hST ?_
        clear hK K
        simp only [Act.put, List.setIfInBounds_toArray, List.set_cons_zero, List.set_cons_succ]
        refine wpAnyH_oneL (i := 8) rfl (by kernel_rfl) ?_
        intro K hK
        rw [if_pos (by rfl)]
        go_simp
        refine hK _ _ hST ?_
        clear hK K
        refine wpAnyH_oneL (i := 9) rfl (by kernel_rfl) ?_
        intro K hK
        rw [if_pos (by rfl)]
        go_simp
        refine hK _ _ hST ?_
        clear hK K
        refine wpAnyH_done (by kernel_rfl) ?_ _
        go_wp2_with fail
        go_roundw
        case rel => exact ⟨4, rfl, by decide, ⟨_, N2.out, HRX.out.1, HRX.out.2⟩, HTY.out.trans (T2.out.below HTY.out.size (fun q hq e => by omega))⟩
        case measure => simp [intOf, IntKind.wrap, IntKind.bits, IntKind.signed]
      · skip
        have HSRC : Hid (∀ j v, (List.replicate 4 (Value.int .u8 (x.toNat : Int)))[j]? = some v → wr.drew.cell? ((⟨w.heap.size, 0, none⟩ : Addr).add j) = some v) := fun j u hj => by
          rw [List.getElem?_replicate] at hj
          split at hj
          · cases hj; rw [addr_add, Nat.zero_add]; exact cell_of HC.out (HJ.out j (by omega))
          · cases hj
        have HFIT : Hid (4 + (List.replicate 4 (Value.int .u8 (x.toNat : Int))).length ≤ cur.size) := by have := HSZ.out; show 4 + (List.replicate 4 _).length ≤ _; rw [List.length_replicate]; omega
        have HONE : Hid (∀ v ∈ List.replicate 4 (Value.int .u8 (x.toNat : Int)), v.oneCell' = true) := by intro u hu; rw [List.mem_replicate] at hu; obtain ⟨_, rfl⟩ := hu; rfl
        have HRX := Lib.hid (rowX_copy (k := 4) (m := 4) HSZ.out HJ.out (by decide))
        go_wp2_with fail
        have hST : True := trivial
        refine wp_region_heldL (S := fun _ => True) (by kernel_rfl) ?_
        obtain ⟨wy, hwy⟩ : ∃ wy, wr.drew = wy := ⟨_, rfl⟩
        rw [hwy]
        have hcy : wy.heap[w.heap.size]? = some (.cells cur 5 (0, 0)) := by rw [← hwy]; exact HC.out
        have HCY := Lib.hid hcy
        have HSY : Hid (∀ j v, (List.replicate 4 (Value.int .u8 (x.toNat : Int)))[j]? = some v → wy.cell? ((⟨w.heap.size, 0, none⟩ : Addr).add j) = some v) := by rw [← hwy]; exact HSRC.out
        have HTY : Hid (Below w.heap.size w wy) := by rw [← hwy]; exact HBW.out.drew
        clear hcy hwy
        refine wpAnyH_takeL (i := 0) (v := ?_) rfl (by kernel_rfl) (by kernel_rfl) (by kernel_rfl) (fun _ _ _ h => h) ?_ (by assumption) ?_; rotate_left; focus (first | (refine Or.inr ⟨by rfl, ?_⟩; with_reducible rfl) | (refine Or.inl ⟨by rfl, ?_⟩; (intro w hSw; (try dsimp only at hSw); go_simp); try with_reducible rfl))
        simp only [Act.put, List.setIfInBounds_toArray, List.set_cons_zero, List.set_cons_succ]
        refine wpAnyH_takeL (i := 1) (v := ?_) rfl (by kernel_rfl) (by kernel_rfl) (by kernel_rfl) (fun _ _ _ h => h) ?_ (by assumption) ?_; rotate_left; focus (first | (refine Or.inr ⟨by rfl, ?_⟩; with_reducible rfl) | (refine Or.inl ⟨by rfl, ?_⟩; (intro w hSw; (try dsimp only at hSw); go_simp); try with_reducible rfl))
        simp only [Act.put, List.setIfInBounds_toArray, List.set_cons_zero, List.set_cons_succ]
        refine wpAnyH_takeL (i := 2) (v := ?_) rfl (by kernel_rfl) (by kernel_rfl) (by kernel_rfl) (fun _ _ _ h => h) ?_ (by assumption) ?_; rotate_left; focus (first | (refine Or.inr ⟨by rfl, ?_⟩; with_reducible rfl) | (refine Or.inl ⟨by rfl, ?_⟩; (intro w hSw; (try dsimp only at hSw); go_simp); try with_reducible rfl))
        simp only [Act.put, List.setIfInBounds_toArray, List.set_cons_zero, List.set_cons_succ]
        refine wpAnyH_takeL (i := 3) (v := ?_) rfl (by kernel_rfl) (by kernel_rfl) (by kernel_rfl) (fun _ _ _ h => h) ?_ (by assumption) ?_; rotate_left; focus (first | (refine Or.inr ⟨by rfl, ?_⟩; with_reducible rfl) | (refine Or.inl ⟨by rfl, ?_⟩; (intro w hSw; (try dsimp only at hSw); go_simp); try with_reducible rfl))
        simp only [Act.put, List.setIfInBounds_toArray, List.set_cons_zero, List.set_cons_succ]
        refine wpAnyH_takeL (i := 4) (v := ?_) rfl (by kernel_rfl) (by kernel_rfl) (by kernel_rfl) (fun _ _ _ h => h) ?_ (by assumption) ?_; rotate_left; focus (first | (refine Or.inr ⟨by rfl, ?_⟩; with_reducible rfl) | (refine Or.inl ⟨by rfl, ?_⟩; (intro w hSw; (try dsimp only at hSw); go_simp); try with_reducible rfl))
        simp only [Act.put, List.setIfInBounds_toArray, List.set_cons_zero, List.set_cons_succ]
        refine wpAnyH_takeL (i := 5) (v := ?_) rfl (by kernel_rfl) (by kernel_rfl) (by kernel_rfl) (fun _ _ _ h => h) ?_ (by assumption) ?_; rotate_left; focus (first | (refine Or.inr ⟨by rfl, ?_⟩; with_reducible rfl) | (refine Or.inl ⟨by rfl, ?_⟩; (intro w hSw; (try dsimp only at hSw); go_simp); try with_reducible rfl))
        simp only [Act.put, List.setIfInBounds_toArray, List.set_cons_zero, List.set_cons_succ]
        refine wpAnyH_takeL (i := 6) (v := ?_) rfl (by kernel_rfl) (by kernel_rfl) (by kernel_rfl) (fun _ _ _ h => h) ?_ (by assumption) ?_; rotate_left; focus (first | (refine Or.inr ⟨by rfl, ?_⟩; with_reducible rfl) | (refine Or.inl ⟨by rfl, ?_⟩; (intro w hSw; (try dsimp only at hSw); go_simp); try with_reducible rfl))
        simp only [Act.put, List.setIfInBounds_toArray, List.set_cons_zero, List.set_cons_succ]
        refine wpAnyH_oneL (i := 7) rfl (by kernel_rfl) ?_
        intro K hK
        rw [if_pos (by rfl)]
        refine wp_copy_row (.tmp 70) (.tmp 73) 32 32 rfl 5 w.heap.size 4 60 60 ⟨w.heap.size, 0, none⟩ 4 64 cur 5 (List.replicate 4 (.int .u8 x.toNat)) rfl rfl Tryd.underlying32 Tryd.u8Size HCY.out rfl HSY.out HFIT.out HONE.out _ rfl ?_
        refine abs_row HCY.out ?_
        intro w2 t2 n2
        have T2 := Lib.hid t2
        have N2 := Lib.hid n2
        clear t2 n2
        refine hK _ _ hST ?_
        clear hK K
        simp only [Act.put, List.setIfInBounds_toArray, List.set_cons_zero, List.set_cons_succ]
        refine wpAnyH_oneL (i := 8) rfl (by kernel_rfl) ?_
        intro K hK
        rw [if_pos (by rfl)]
        go_simp
        refine hK _ _ hST ?_
        clear hK K
        refine wpAnyH_oneL (i := 9) rfl (by kernel_rfl) ?_
        intro K hK
        rw [if_pos (by rfl)]
        go_simp
        refine hK _ _ hST ?_
        clear hK K
        refine wpAnyH_done (by kernel_rfl) ?_ _
        go_wp2_with fail
        go_roundw
        case rel => exact ⟨8, rfl, by decide, ⟨_, N2.out, HRX.out.1, HRX.out.2⟩, HTY.out.trans (T2.out.below HTY.out.size (fun q hq e => by omega))⟩
        case measure => simp [intOf, IntKind.wrap, IntKind.bits, IntKind.signed]
      · skip
        have HSRC : Hid (∀ j v, (List.replicate 8 (Value.int .u8 (x.toNat : Int)))[j]? = some v → wr.drew.cell? ((⟨w.heap.size, 0, none⟩ : Addr).add j) = some v) := fun j u hj => by
          rw [List.getElem?_replicate] at hj
          split at hj
          · cases hj; rw [addr_add, Nat.zero_add]; exact cell_of HC.out (HJ.out j (by omega))
          · cases hj
        have HFIT : Hid (8 + (List.replicate 8 (Value.int .u8 (x.toNat : Int))).length ≤ cur.size) := by have := HSZ.out; show 8 + (List.replicate 8 _).length ≤ _; rw [List.length_replicate]; omega
        have HONE : Hid (∀ v ∈ List.replicate 8 (Value.int .u8 (x.toNat : Int)), v.oneCell' = true) := by intro u hu; rw [List.mem_replicate] at hu; obtain ⟨_, rfl⟩ := hu; rfl
        have HRX := Lib.hid (rowX_copy (k := 8) (m := 8) HSZ.out HJ.out (by decide))
        go_wp2_with fail
        have hST : True := trivial
        refine wp_region_heldL (S := fun _ => True) (by kernel_rfl) ?_
        obtain ⟨wy, hwy⟩ : ∃ wy, wr.drew = wy := ⟨_, rfl⟩
        rw [hwy]
        have hcy : wy.heap[w.heap.size]? = some (.cells cur 5 (0, 0)) := by rw [← hwy]; exact HC.out
        have HCY := Lib.hid hcy
        have HSY : Hid (∀ j v, (List.replicate 8 (Value.int .u8 (x.toNat : Int)))[j]? = some v → wy.cell? ((⟨w.heap.size, 0, none⟩ : Addr).add j) = some v) := by rw [← hwy]; exact HSRC.out
        have HTY : Hid (Below w.heap.size w wy) := by rw [← hwy]; exact HBW.out.drew
        clear hcy hwy
        refine wpAnyH_takeL (i := 0) (v := ?_) rfl (by kernel_rfl) (by kernel_rfl) (by kernel_rfl) (fun _ _ _ h => h) ?_ (by assumption) ?_; rotate_left; focus (first | (refine Or.inr ⟨by rfl, ?_⟩; with_reducible rfl) | (refine Or.inl ⟨by rfl, ?_⟩; (intro w hSw; (try dsimp only at hSw); go_simp); try with_reducible rfl))
        simp only [Act.put, List.setIfInBounds_toArray, List.set_cons_zero, List.set_cons_succ]
        refine wpAnyH_takeL (i := 1) (v := ?_) rfl (by kernel_rfl) (by kernel_rfl) (by kernel_rfl) (fun _ _ _ h => h) ?_ (by assumption) ?_; rotate_left; focus (first | (refine Or.inr ⟨by rfl, ?_⟩; with_reducible rfl) | (refine Or.inl ⟨by rfl, ?_⟩; (intro w hSw; (try dsimp only at hSw); go_simp); try with_reducible rfl))
        simp only [Act.put, List.setIfInBounds_toArray, List.set_cons_zero, List.set_cons_succ]
        refine wpAnyH_takeL (i := 2) (v := ?_) rfl (by kernel_rfl) (by kernel_rfl) (by kernel_rfl) (fun _ _ _ h => h) ?_ (by assumption) ?_; rotate_left; focus (first | (refine Or.inr ⟨by rfl, ?_⟩; with_reducible rfl) | (refine Or.inl ⟨by rfl, ?_⟩; (intro w hSw; (try dsimp only at hSw); go_simp); try with_reducible rfl))
        simp only [Act.put, List.setIfInBounds_toArray, List.set_cons_zero, List.set_cons_succ]
        refine wpAnyH_takeL (i := 3) (v := ?_) rfl (by kernel_rfl) (by kernel_rfl) (by kernel_rfl) (fun _ _ _ h => h) ?_ (by assumption) ?_; rotate_left; focus (first | (refine Or.inr ⟨by rfl, ?_⟩; with_reducible rfl) | (refine Or.inl ⟨by rfl, ?_⟩; (intro w hSw; (try dsimp only at hSw); go_simp); try with_reducible rfl))
        simp only [Act.put, List.setIfInBounds_toArray, List.set_cons_zero, List.set_cons_succ]
        refine wpAnyH_takeL (i := 4) (v := ?_) rfl (by kernel_rfl) (by kernel_rfl) (by kernel_rfl) (fun _ _ _ h => h) ?_ (by assumption) ?_; rotate_left; focus (first | (refine Or.inr ⟨by rfl, ?_⟩; with_reducible rfl) | (refine Or.inl ⟨by rfl, ?_⟩; (intro w hSw; (try dsimp only at hSw); go_simp); try with_reducible rfl))
        simp only [Act.put, List.setIfInBounds_toArray, List.set_cons_zero, List.set_cons_succ]
        refine wpAnyH_takeL (i := 5) (v := ?_) rfl (by kernel_rfl) (by kernel_rfl) (by kernel_rfl) (fun _ _ _ h => h) ?_ (by assumption) ?_; rotate_left; focus (first | (refine Or.inr ⟨by rfl, ?_⟩; with_reducible rfl) | (refine Or.inl ⟨by rfl, ?_⟩; (intro w hSw; (try dsimp only at hSw); go_simp); try with_reducible rfl))
        simp only [Act.put, List.setIfInBounds_toArray, List.set_cons_zero, List.set_cons_succ]
        refine wpAnyH_takeL (i := 6) (v := ?_) rfl (by kernel_rfl) (by kernel_rfl) (by kernel_rfl) (fun _ _ _ h => h) ?_ (by assumption) ?_; rotate_left; focus (first | (refine Or.inr ⟨by rfl, ?_⟩; with_reducible rfl) | (refine Or.inl ⟨by rfl, ?_⟩; (intro w hSw; (try dsimp only at hSw); go_simp); try with_reducible rfl))
        simp only [Act.put, List.setIfInBounds_toArray, List.set_cons_zero, List.set_cons_succ]
        refine wpAnyH_oneL (i := 7) rfl (by kernel_rfl) ?_
        intro K hK
        rw [if_pos (by rfl)]
        refine wp_copy_row (.tmp 70) (.tmp 73) 32 32 rfl 5 w.heap.size 8 56 56 ⟨w.heap.size, 0, none⟩ 8 64 cur 5 (List.replicate 8 (.int .u8 x.toNat)) rfl rfl Tryd.underlying32 Tryd.u8Size HCY.out rfl HSY.out HFIT.out HONE.out _ rfl ?_
        refine abs_row HCY.out ?_
        intro w2 t2 n2
        have T2 := Lib.hid t2
        have N2 := Lib.hid n2
        clear t2 n2
        refine hK _ _ hST ?_
        clear hK K
        simp only [Act.put, List.setIfInBounds_toArray, List.set_cons_zero, List.set_cons_succ]
        refine wpAnyH_oneL (i := 8) rfl (by kernel_rfl) ?_
        intro K hK
        rw [if_pos (by rfl)]
        go_simp
        refine hK _ _ hST ?_
        clear hK K
        refine wpAnyH_oneL (i := 9) rfl (by kernel_rfl) ?_
        intro K hK
        rw [if_pos (by rfl)]
        go_simp
        refine hK _ _ hST ?_
        clear hK K
        refine wpAnyH_done (by kernel_rfl) ?_ _
        go_wp2_with fail
        go_roundw
        case rel => exact ⟨16, rfl, by decide, ⟨_, N2.out, HRX.out.1, HRX.out.2⟩, HTY.out.trans (T2.out.below HTY.out.size (fun q hq e => by omega))⟩
        case measure => simp [intOf, IntKind.wrap, IntKind.bits, IntKind.signed]
      · skip
        have HSRC : Hid (∀ j v, (List.replicate 16 (Value.int .u8 (x.toNat : Int)))[j]? = some v → wr.drew.cell? ((⟨w.heap.size, 0, none⟩ : Addr).add j) = some v) := fun j u hj => by
          rw [List.getElem?_replicate] at hj
          split at hj
          · cases hj; rw [addr_add, Nat.zero_add]; exact cell_of HC.out (HJ.out j (by omega))
          · cases hj
        have HFIT : Hid (16 + (List.replicate 16 (Value.int .u8 (x.toNat : Int))).length ≤ cur.size) := by have := HSZ.out; show 16 + (List.replicate 16 _).length ≤ _; rw [List.length_replicate]; omega
        have HONE : Hid (∀ v ∈ List.replicate 16 (Value.int .u8 (x.toNat : Int)), v.oneCell' = true) := by intro u hu; rw [List.mem_replicate] at hu; obtain ⟨_, rfl⟩ := hu; rfl
        have HRX := Lib.hid (rowX_copy (k := 16) (m := 16) HSZ.out HJ.out (by decide))
        go_wp2_with fail
        have hST : True := trivial
        refine wp_region_heldL (S := fun _ => True) (by kernel_rfl) ?_
        obtain ⟨wy, hwy⟩ : ∃ wy, wr.drew = wy := ⟨_, rfl⟩
        rw [hwy]
        have hcy : wy.heap[w.heap.size]? = some (.cells cur 5 (0, 0)) := by rw [← hwy]; exact HC.out
        have HCY := Lib.hid hcy
        have HSY : Hid (∀ j v, (List.replicate 16 (Value.int .u8 (x.toNat : Int)))[j]? = some v → wy.cell? ((⟨w.heap.size, 0, none⟩ : Addr).add j) = some v) := by rw [← hwy]; exact HSRC.out
        have HTY : Hid (Below w.heap.size w wy) := by rw [← hwy]; exact HBW.out.drew
        clear hcy hwy
        refine wpAnyH_takeL (i := 0) (v := ?_) rfl (by kernel_rfl) (by kernel_rfl) (by kernel_rfl) (fun _ _ _ h => h) ?_ (by assumption) ?_; rotate_left; focus (first | (refine Or.inr ⟨by rfl, ?_⟩; with_reducible rfl) | (refine Or.inl ⟨by rfl, ?_⟩; (intro w hSw; (try dsimp only at hSw); go_simp); try with_reducible rfl))
        simp only [Act.put, List.setIfInBounds_toArray, List.set_cons_zero, List.set_cons_succ]
        refine wpAnyH_takeL (i := 1) (v := ?_) rfl (by kernel_rfl) (by kernel_rfl) (by kernel_rfl) (fun _ _ _ h => h) ?_ (by assumption) ?_; rotate_left; focus (first | (refine Or.inr ⟨by rfl, ?_⟩; with_reducible rfl) | (refine Or.inl ⟨by rfl, ?_⟩; (intro w hSw; (try dsimp only at hSw); go_simp); try with_reducible rfl))
        simp only [Act.put, List.setIfInBounds_toArray, List.set_cons_zero, List.set_cons_succ]
        refine wpAnyH_takeL (i := 2) (v := ?_) rfl (by kernel_rfl) (by kernel_rfl) (by kernel_rfl) (fun _ _ _ h => h) ?_ (by assumption) ?_; rotate_left; focus (first | (refine Or.inr ⟨by rfl, ?_⟩; with_reducible rfl) | (refine Or.inl ⟨by rfl, ?_⟩; (intro w hSw; (try dsimp only at hSw); go_simp); try with_reducible rfl))
        simp only [Act.put, List.setIfInBounds_toArray, List.set_cons_zero, List.set_cons_succ]
        refine wpAnyH_takeL (i := 3) (v := ?_) rfl (by kernel_rfl) (by kernel_rfl) (by kernel_rfl) (fun _ _ _ h => h) ?_ (by assumption) ?_; rotate_left; focus (first | (refine Or.inr ⟨by rfl, ?_⟩; with_reducible rfl) | (refine Or.inl ⟨by rfl, ?_⟩; (intro w hSw; (try dsimp only at hSw); go_simp); try with_reducible rfl))
        simp only [Act.put, List.setIfInBounds_toArray, List.set_cons_zero, List.set_cons_succ]
        refine wpAnyH_takeL (i := 4) (v := ?_) rfl (by kernel_rfl) (by kernel_rfl) (by kernel_rfl) (fun _ _ _ h => h) ?_ (by assumption) ?_; rotate_left; focus (first | (refine Or.inr ⟨by rfl, ?_⟩; with_reducible rfl) | (refine Or.inl ⟨by rfl, ?_⟩; (intro w hSw; (try dsimp only at hSw); go_simp); try with_reducible rfl))
        simp only [Act.put, List.setIfInBounds_toArray, List.set_cons_zero, List.set_cons_succ]
        refine wpAnyH_takeL (i := 5) (v := ?_) rfl (by kernel_rfl) (by kernel_rfl) (by kernel_rfl) (fun _ _ _ h => h) ?_ (by assumption) ?_; rotate_left; focus (first | (refine Or.inr ⟨by rfl, ?_⟩; with_reducible rfl) | (refine Or.inl ⟨by rfl, ?_⟩; (intro w hSw; (try dsimp only at hSw); go_simp); try with_reducible rfl))
        simp only [Act.put, List.setIfInBounds_toArray, List.set_cons_zero, List.set_cons_succ]
        refine wpAnyH_takeL (i := 6) (v := ?_) rfl (by kernel_rfl) (by kernel_rfl) (by kernel_rfl) (fun _ _ _ h => h) ?_ (by assumption) ?_; rotate_left; focus (first | (refine Or.inr ⟨by rfl, ?_⟩; with_reducible rfl) | (refine Or.inl ⟨by rfl, ?_⟩; (intro w hSw; (try dsimp only at hSw); go_simp); try with_reducible rfl))
        simp only [Act.put, List.setIfInBounds_toArray, List.set_cons_zero, List.set_cons_succ]
        refine wpAnyH_oneL (i := 7) rfl (by kernel_rfl) ?_
        intro K hK
        rw [if_pos (by rfl)]
        refine wp_copy_row (.tmp 70) (.tmp 73) 32 32 rfl 5 w.heap.size 16 48 48 ⟨w.heap.size, 0, none⟩ 16 64 cur 5 (List.replicate 16 (.int .u8 x.toNat)) rfl rfl Tryd.underlying32 Tryd.u8Size HCY.out rfl HSY.out HFIT.out HONE.out _ rfl ?_
        refine abs_row HCY.out ?_
        intro w2 t2 n2
        have T2 := Lib.hid t2
        have N2 := Lib.hid n2
        clear t2 n2
        refine hK _ _ hST ?_
        clear hK K
        simp only [Act.put, List.setIfInBounds_toArray, List.set_cons_zero, List.set_cons_succ]
        refine wpAnyH_oneL (i := 8) rfl (by kernel_rfl) ?_
        intro K hK
        rw [if_pos (by rfl)]
        go_simp
        refine hK _ _ hST ?_
        clear hK K
        refine wpAnyH_oneL (i := 9) rfl (by kernel_rfl) ?_
        intro K hK
        rw [if_pos (by rfl)]
        go_simp
        refine hK _ _ hST ?_
        clear hK K
        refine wpAnyH_done (by kernel_rfl) ?_ _
        go_wp2_with fail
        go_roundw
        case rel => exact ⟨32, rfl, by decide, ⟨_, N2.out, HRX.out.1, HRX.out.2⟩, HTY.out.trans (T2.out.below HTY.out.size (fun q hq e => by omega))⟩
        case measure => simp [intOf, IntKind.wrap, IntKind.bits, IntKind.signed]
      · skip
        have HSRC : Hid (∀ j v, (List.replicate 32 (Value.int .u8 (x.toNat : Int)))[j]? = some v → wr.drew.cell? ((⟨w.heap.size, 0, none⟩ : Addr).add j) = some v) := fun j u hj => by
          rw [List.getElem?_replicate] at hj
          split at hj
          · cases hj; rw [addr_add, Nat.zero_add]; exact cell_of HC.out (HJ.out j (by omega))
          · cases hj
        have HFIT : Hid (32 + (List.replicate 32 (Value.int .u8 (x.toNat : Int))).length ≤ cur.size) := by have := HSZ.out; show 32 + (List.replicate 32 _).length ≤ _; rw [List.length_replicate]; omega
        have HONE : Hid (∀ v ∈ List.replicate 32 (Value.int .u8 (x.toNat : Int)), v.oneCell' = true) := by intro u hu; rw [List.mem_replicate] at hu; obtain ⟨_, rfl⟩ := hu; rfl
        have HRX := Lib.hid (rowX_copy (k := 32) (m := 32) HSZ.out HJ.out (by decide))
        go_wp2_with fail
        have hST : True := trivial
        refine wp_region_heldL (S := fun _ => True) (by kernel_rfl) ?_
        obtain ⟨wy, hwy⟩ : ∃ wy, wr.drew = wy := ⟨_, rfl⟩
        rw [hwy]
        have hcy : wy.heap[w.heap.size]? = some (.cells cur 5 (0, 0)) := by rw [← hwy]; exact HC.out
        have HCY := Lib.hid hcy
        have HSY : Hid (∀ j v, (List.replicate 32 (Value.int .u8 (x.toNat : Int)))[j]? = some v → wy.cell? ((⟨w.heap.size, 0, none⟩ : Addr).add j) = some v) := by rw [← hwy]; exact HSRC.out
        have HTY : Hid (Below w.heap.size w wy) := by rw [← hwy]; exact HBW.out.drew
        clear hcy hwy
        refine wpAnyH_takeL (i := 0) (v := ?_) rfl (by kernel_rfl) (by kernel_rfl) (by kernel_rfl) (fun _ _ _ h => h) ?_ (by assumption) ?_; rotate_left; focus (first | (refine Or.inr ⟨by rfl, ?_⟩; with_reducible rfl) | (refine Or.inl ⟨by rfl, ?_⟩; (intro w hSw; (try dsimp only at hSw); go_simp); try with_reducible rfl))
        simp only [Act.put, List.setIfInBounds_toArray, List.set_cons_zero, List.set_cons_succ]
        refine wpAnyH_takeL (i := 1) (v := ?_) rfl (by kernel_rfl) (by kernel_rfl) (by kernel_rfl) (fun _ _ _ h => h) ?_ (by assumption) ?_; rotate_left; focus (first | (refine Or.inr ⟨by rfl, ?_⟩; with_reducible rfl) | (refine Or.inl ⟨by rfl, ?_⟩; (intro w hSw; (try dsimp only at hSw); go_simp); try with_reducible rfl))
        simp only [Act.put, List.setIfInBounds_toArray, List.set_cons_zero, List.set_cons_succ]
        refine wpAnyH_takeL (i := 2) (v := ?_) rfl (by kernel_rfl) (by kernel_rfl) (by kernel_rfl) (fun _ _ _ h => h) ?_ (by assumption) ?_; rotate_left; focus (first | (refine Or.inr ⟨by rfl, ?_⟩; with_reducible rfl) | (refine Or.inl ⟨by rfl, ?_⟩; (intro w hSw; (try dsimp only at hSw); go_simp); try with_reducible rfl))
        simp only [Act.put, List.setIfInBounds_toArray, List.set_cons_zero, List.set_cons_succ]
        refine wpAnyH_takeL (i := 3) (v := ?_) rfl (by kernel_rfl) (by kernel_rfl) (by kernel_rfl) (fun _ _ _ h => h) ?_ (by assumption) ?_; rotate_left; focus (first | (refine Or.inr ⟨by rfl, ?_⟩; with_reducible rfl) | (refine Or.inl ⟨by rfl, ?_⟩; (intro w hSw; (try dsimp only at hSw); go_simp); try with_reducible rfl))
        simp only [Act.put, List.setIfInBounds_toArray, List.set_cons_zero, List.set_cons_succ]
        refine wpAnyH_takeL (i := 4) (v := ?_) rfl (by kernel_rfl) (by kernel_rfl) (by kernel_rfl) (fun _ _ _ h => h) ?_ (by assumption) ?_; rotate_left; focus (first | (refine Or.inr ⟨by rfl, ?_⟩; with_reducible rfl) | (refine Or.inl ⟨by rfl, ?_⟩; (intro w hSw; (try dsimp only at hSw); go_simp); try with_reducible rfl))
        simp only [Act.put, List.setIfInBounds_toArray, List.set_cons_zero, List.set_cons_succ]
        refine wpAnyH_takeL (i := 5) (v := ?_) rfl (by kernel_rfl) (by kernel_rfl) (by kernel_rfl) (fun _ _ _ h => h) ?_ (by assumption) ?_; rotate_left; focus (first | (refine Or.inr ⟨by rfl, ?_⟩; with_reducible rfl) | (refine Or.inl ⟨by rfl, ?_⟩; (intro w hSw; (try dsimp only at hSw); go_simp); try with_reducible rfl))
        simp only [Act.put, List.setIfInBounds_toArray, List.set_cons_zero, List.set_cons_succ]
        refine wpAnyH_takeL (i := 6) (v := ?_) rfl (by kernel_rfl) (by kernel_rfl) (by kernel_rfl) (fun _ _ _ h => h) ?_ (by assumption) ?_; rotate_left; focus (first | (refine Or.inr ⟨by rfl, ?_⟩; with_reducible rfl) | (refine Or.inl ⟨by rfl, ?_⟩; (intro w hSw; (try dsimp only at hSw); go_simp); try with_reducible rfl))
        simp only [Act.put, List.setIfInBounds_toArray, List.set_cons_zero, List.set_cons_succ]
        refine wpAnyH_oneL (i := 7) rfl (by kernel_rfl) ?_
        intro K hK
        rw [if_pos (by rfl)]
        refine wp_copy_row (.tmp 70) (.tmp 73) 32 32 rfl 5 w.heap.size 32 32 32 ⟨w.heap.size, 0, none⟩ 32 64 cur 5 (List.replicate 32 (.int .u8 x.toNat)) rfl rfl Tryd.underlying32 Tryd.u8Size HCY.out rfl HSY.out HFIT.out HONE.out _ rfl ?_
        refine abs_row HCY.out ?_
        intro w2 t2 n2
        have T2 := Lib.hid t2
        have N2 := Lib.hid n2
        clear t2 n2
        refine hK _ _ hST ?_
        clear hK K
        simp only [Act.put, List.setIfInBounds_toArray, List.set_cons_zero, List.set_cons_succ]
        refine wpAnyH_oneL (i := 8) rfl (by kernel_rfl) ?_
        intro K hK
        rw [if_pos (by rfl)]
        go_simp
        refine hK _ _ hST ?_
        clear hK K
        refine wpAnyH_oneL (i := 9) rfl (by kernel_rfl) ?_
        intro K hK
        rw [if_pos (by rfl)]
        go_simp
        refine hK _ _ hST ?_
        clear hK K
        refine wpAnyH_done (by kernel_rfl) ?_ _
        go_wp2_with fail
        go_roundw
        case rel => exact ⟨64, rfl, by decide, ⟨_, N2.out, HRX.out.1, HRX.out.2⟩, HTY.out.trans (T2.out.below HTY.out.size (fun q hq e => by omega))⟩
        case measure => simp [intOf, IntKind.wrap, IntKind.bits, IntKind.signed]
end Go.Proofs.YtommbdlkmkphpaaDoor
