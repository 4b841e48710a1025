/- Walk of Mac. -/
import Derived.Test.YtommbdlkmkphpaaDoorHshR
namespace Go.Proofs.YtommbdlkmkphpaaDoor
open Go.RowKit

/-- Block b begins with these bytes. -/
def RowL (w : World) (b : Nat) (l : List UInt8) : Prop := ∃ cur : Array Value, w.heap[b]? = some (.cells cur 5 (0, 0)) ∧ l.length ≤ cur.size ∧ ∀ (j : Nat) (x : UInt8), l[j]? = some x → cur[j]? = some (Value.int .u8 x.toNat)
theorem RowX.list {w : World} {b k : Nat} {x : UInt8} (h : RowX w b k x) (hk : k ≤ 64) : RowL w b (List.replicate k x) := by
  obtain ⟨cur, hb, hs, hc⟩ := h
  refine ⟨cur, hb, by simp; omega, fun j y hj => ?_⟩
  rw [List.getElem?_replicate] at hj
  split at hj
  · cases hj; exact hc j (by omega)
  · cases hj
theorem RowL.below {w w' : World} {b : Nat} {l : List UInt8} (h : RowL w b l) (hb : Below w.heap.size w w') : RowL w' b l := by
  obtain ⟨cur, h0, h1, h2⟩ := h; exact ⟨cur, stays h0 hb, h1, h2⟩
theorem RowL.touch {S : Nat → Prop} {w w' : World} {b : Nat} {l : List UInt8} (h : RowL w b l) (ht : Touch S w w') (hS : ¬ S b) : RowL w' b l := by
  obtain ⟨cur, h0, h1, h2⟩ := h; exact ⟨cur, (ht.block b (heap_lt h0) hS).trans h0, h1, h2⟩
theorem RowL.cell {w : World} {b : Nat} {l : List UInt8} (h : RowL w b l) {j : Nat} {x : UInt8} (hj : l[j]? = some x) : w.cell? ⟨b, j, none⟩ = some (.int .u8 x.toNat) := by
  obtain ⟨cur, h0, h1, h2⟩ := h; exact cell_of h0 (h2 j x hj)
theorem RowL.free {w : World} {b : Nat} {l : List UInt8} (h : RowL w b l) (i : Nat) : w.frozen? ⟨b, i, none⟩ = false := by
  obtain ⟨cur, h0, _⟩ := h; exact free_of h0 i
theorem RowL.lt {w : World} {b : Nat} {l : List UInt8} (h : RowL w b l) : b < w.heap.size := by
  obtain ⟨cur, h0, _⟩ := h; exact heap_lt h0
theorem RowL.set {w : World} {b : Nat} {l : List UInt8} (h : RowL w b l) (j : Nat) (x : UInt8) : RowL (w.setCell ⟨b, j, none⟩ (.int .u8 x.toNat)) b (l.set j x) := by
  obtain ⟨cur, h0, h1, h2⟩ := h
  refine ⟨_, heap_set _ h0, by simpa using h1, fun i y hi => ?_⟩
  by_cases hij : j = i
  · subst hij
    rw [List.getElem?_set_self'] at hi
    cases hl : l[j]? with
    | none => rw [hl] at hi; cases hi
    | some z =>
      rw [hl] at hi
      have hy : x = y := by simpa using hi
      subst hy
      have := (List.getElem?_eq_some_iff.1 hl).1
      rw [Array.getElem?_setIfInBounds, if_pos rfl, if_pos (by omega)]
  · rw [List.getElem?_set_ne hij] at hi
    rw [Array.getElem?_setIfInBounds_ne hij]
    exact h2 i y hi
theorem RowL.string {w : World} {b cap : Nat} {l : List UInt8} (h : RowL w b l) : (convert 32 9 (.slice (some ⟨b, 0, none⟩) l.length cap)).run Tryd.prog w = .ok (.string ⟨l.toArray⟩) w := by
  rw [← strOfNums_bytes]
  refine run_convert_bytes_arg w 32 5 Tryd.underlying32 Tryd.underlying5 b 0 l.length cap (l.map fun x => (x.toNat : Int)) (by simp) (fun i hi => ?_) 9 Tryd.underlying9
  have := h.cell (List.getElem?_eq_getElem hi)
  rw [Nat.zero_add, this, List.getD_eq_getElem?_getD, List.getElem?_map, List.getElem?_eq_getElem hi]
  rfl
/-- What stands behind k rounds of xor: the first k bytes with the key's, then the byte alone. -/
def xored (kk : List UInt8) (x : UInt8) (k : Nat) : List UInt8 := (kk.take k).map (· ^^^ x) ++ List.replicate (64 - k) x
theorem xored_length (kk : List UInt8) (x : UInt8) (k : Nat) (h : k ≤ kk.length) (h64 : kk.length ≤ 64) : (xored kk x k).length = 64 := by simp [xored]; omega
theorem xored_at (kk : List UInt8) (x : UInt8) (k : Nat) (h : k < kk.length) (h64 : kk.length ≤ 64) : (xored kk x k)[k]? = some x := by
  have hl : ((kk.take k).map (· ^^^ x)).length = k := by simp; omega
  rw [xored, List.getElem?_append_right (by omega), hl, List.getElem?_replicate, if_pos (by omega)]
theorem xored_set (kk : List UInt8) (x : UInt8) (k : Nat) (h : k < kk.length) (h64 : kk.length ≤ 64) : (xored kk x k).set k (kk[k] ^^^ x) = xored kk x (k + 1) := by
  have hl : ((kk.take k).map (· ^^^ x)).length = k := by simp; omega
  obtain ⟨m, hm⟩ : ∃ m, 64 - k = m + 1 := ⟨63 - k, by omega⟩
  rw [xored, xored, List.set_append_right _ _ (by omega), hl, Nat.sub_self, hm, show 64 - (k + 1) = m by omega, List.replicate_succ, List.set_cons_zero, List.take_succ_eq_append_getElem h, List.map_append, List.append_assoc]
  rfl
theorem xored_end (kk : List UInt8) (x : UInt8) : xored kk x kk.length = (kk ++ List.replicate (64 - kk.length) 0).map (· ^^^ x) := by
  simp [xored]
theorem u8_xor (x y : UInt8) : bits .xor .u8 (x.toNat : Int) (y.toNat : Int) = ((x ^^^ y).toNat : Int) := by
  have hx : BitVec.ofInt 8 (x.toNat : Int) = x.toBitVec := by simp
  have hy : BitVec.ofInt 8 (y.toNat : Int) = y.toBitVec := by simp
  show IntKind.u8.wrap ((BitVec.ofInt 8 (x.toNat : Int) ^^^ BitVec.ofInt 8 (y.toNat : Int)).toNat : Int) = _
  rw [hx, hy, ← UInt8.toBitVec_xor, IntKind.wrap_u8]
  have := (x ^^^ y).toNat_lt
  show ((x ^^^ y).toNat : Int) % 256 = _
  omega
end Go.Proofs.YtommbdlkmkphpaaDoor
