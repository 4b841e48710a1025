/- Rows of words; the plain facts that the walk of the document's sum uses. -/
import Derived.Test.YtommbdlkmkphpaaDoorRtF
import Derived.Test.YtommbdlkmkphpaaDoorHshS
import Derived.Test.YtommbdlkmkphpaaDoorQTail
namespace Go.Proofs.YtommbdlkmkphpaaDoor
open Go.RowKit
section
variable {w w' : World} {g : Nat} {l : List U32}
theorem RowV.w32 (h : RowV w g (wcells l)) {j : Nat} (hj : j < l.length) : w.cell? ⟨g, j, none⟩ = some (.int .u32 (l.getD j 0).toNat) ∧ w.frozen? ⟨g, j, none⟩ = false := h.2 j _ (wcells_at hj)
theorem RowV.set32 (h : RowV w g (wcells l)) (j : Nat) (x : U32) : RowV (w.setCell ⟨g, j, none⟩ (.int .u32 x.toNat)) g (wcells (l.set j x)) := by
  have := RowV.set h j (.int .u32 (x.toNat : Int))
  rwa [show (wcells l).set j (.int .u32 (x.toNat : Int)) = wcells (l.set j x) by simp [wcells, List.map_set]] at this
theorem RowV.st {s : Sha.St} (h : RowV w g (wcells s.list)) : w.cell? ⟨g, 0, none⟩ = some (.int .u32 s.a.toNat) ∧ w.cell? ⟨g, 1, none⟩ = some (.int .u32 s.b.toNat) ∧ w.cell? ⟨g, 2, none⟩ = some (.int .u32 s.c.toNat) ∧ w.cell? ⟨g, 3, none⟩ = some (.int .u32 s.d.toNat) ∧
    w.cell? ⟨g, 4, none⟩ = some (.int .u32 s.e.toNat) ∧ w.cell? ⟨g, 5, none⟩ = some (.int .u32 s.f.toNat) ∧ w.cell? ⟨g, 6, none⟩ = some (.int .u32 s.g.toNat) ∧ w.cell? ⟨g, 7, none⟩ = some (.int .u32 s.h.toNat) :=
  ⟨(h.2 0 _ rfl).1, (h.2 1 _ rfl).1, (h.2 2 _ rfl).1, (h.2 3 _ rfl).1, (h.2 4 _ rfl).1, (h.2 5 _ rfl).1, (h.2 6 _ rfl).1, (h.2 7 _ rfl).1⟩
end
theorem make32 (n : Nat) (m : Int) (hm : m = n) (hn : n ≤ 1000) (w : World) : ∃ w', (Instr.makeSlice 45 (.int .i64 m) (.int .i64 m)).run Tryd.prog w = .ok (.slice (some ⟨w.heap.size, 0, none⟩) n n) w' ∧ RowV w' w.heap.size (wcells (List.replicate n 0)) ∧ Below w.heap.size w w' := by
  subst hm
  refine ⟨_, run_make_row' 45 48 (.int .u32 0) 4 Tryd.underlying45 Tryd.info32 rfl .i64 .i64 n (by omega) (by omega) w, ?_, balloc _ _⟩
  refine ⟨heap_lt (heap_new w _), fun j v hj => ⟨cell_of (heap_new w _) ?_, free_of (heap_new w _) j⟩⟩
  have hjn : j < n := by have := (List.getElem?_eq_some_iff.1 hj).1; simpa [wcells] using this
  simp [wcells, hjn] at hj
  subst hj
  simp [madeCells, hjn, Nat.mod_one]
namespace Sha
theorem big_split (n : Nat) : big n 8 = big (n / 4294967296) 4 ++ big (n % 4294967296) 4 := by
  have e : big n 8 = [UInt8.ofNat (n / 256 / 256 / 256 / 256 / 256 / 256 / 256), UInt8.ofNat (n / 256 / 256 / 256 / 256 / 256 / 256), UInt8.ofNat (n / 256 / 256 / 256 / 256 / 256), UInt8.ofNat (n / 256 / 256 / 256 / 256), UInt8.ofNat (n / 256 / 256 / 256), UInt8.ofNat (n / 256 / 256), UInt8.ofNat (n / 256), UInt8.ofNat n] := rfl
  have e1 : ∀ m, big m 4 = [UInt8.ofNat (m / 256 / 256 / 256), UInt8.ofNat (m / 256 / 256), UInt8.ofNat (m / 256), UInt8.ofNat m] := fun m => rfl
  have u : ∀ a b : Nat, a % 256 = b % 256 → UInt8.ofNat a = UInt8.ofNat b := fun a b h => by
    apply UInt8.toNat_inj.1
    rw [UInt8.toNat_ofNat', UInt8.toNat_ofNat']
    exact h
  rw [e, e1, e1]
  simp only [List.cons_append, List.nil_append]
  rw [u (n / 256 / 256 / 256 / 256 / 256 / 256 / 256) (n / 4294967296 / 256 / 256 / 256) (by omega), u (n / 256 / 256 / 256 / 256 / 256 / 256) (n / 4294967296 / 256 / 256) (by omega), u (n / 256 / 256 / 256 / 256 / 256) (n / 4294967296 / 256) (by omega), u (n / 256 / 256 / 256 / 256) (n / 4294967296) (by omega),
    u (n / 256 / 256 / 256) (n % 4294967296 / 256 / 256 / 256) (by omega), u (n / 256 / 256) (n % 4294967296 / 256 / 256) (by omega), u (n / 256) (n % 4294967296 / 256) (by omega), u n (n % 4294967296) (by omega)]
/-- Two halves of the length's number, as words. -/
theorem halves (n : Nat) (h : n < 1125899906842624) : ∃ hi lo : U32, big n 8 = big hi.toNat 4 ++ big lo.toNat 4 ∧ (hi.toNat : Int) = (n : Int) / 4294967296 ∧ (lo.toNat : Int) = (n : Int) % 4294967296 := by
  refine ⟨BitVec.ofNat 32 (n / 4294967296), BitVec.ofNat 32 n, ?_, ?_, ?_⟩
  · rw [big_split, BitVec.toNat_ofNat, BitVec.toNat_ofNat, Nat.mod_eq_of_lt (show n / 4294967296 < 2 ^ 32 by omega)]
  · rw [BitVec.toNat_ofNat]; omega
  · rw [BitVec.toNat_ofNat]; omega
/-- A word out of its four bytes, as the walk spells them. -/
theorem word_or (x0 x1 x2 x3 : UInt8) : bits .or .u32 (bits .or .u32 (bits .or .u32 ((x0.toNat : Int) * 16777216) ((x1.toNat : Int) * 65536)) ((x2.toNat : Int) * 256)) (x3.toNat : Int) = ((BitVec.ofNat 32 (val [x0, x1, x2, x3])).toNat : Int) := by
  have h0 := x0.toNat_lt; have h1 := x1.toNat_lt; have h2 := x2.toNat_lt; have h3 := x3.toNat_lt
  have c : ∀ a b : Int, bits .or .u32 a b = bits .or .u32 b a := fun a b => by simp [bits, BitVec.or_comm]
  rw [c, c (bits .or .u32 ((x0.toNat : Int) * 16777216) ((x1.toNat : Int) * 65536)), c ((x0.toNat : Int) * 16777216)]
  have e1 := u32_or24 ((x1.toNat : Int) * 65536) ((x0.toNat : Int) * 16777216) (by omega) (by omega) (by omega) (by omega) (by omega)
  have e2 := u32_or16 ((x2.toNat : Int) * 256) ((x1.toNat : Int) * 65536 + (x0.toNat : Int) * 16777216) (by omega) (by omega) (by omega) (by omega) (by omega)
  have e3 := u32_or8 (x3.toNat : Int) ((x2.toNat : Int) * 256 + ((x1.toNat : Int) * 65536 + (x0.toNat : Int) * 16777216)) (by omega) (by omega) (by omega) (by omega) (by omega)
  rw [e1, e2, e3]
  rw [BitVec.toNat_ofNat]
  simp only [val, List.foldl_cons, List.foldl_nil]
  omega
theorem word_or' (x0 x1 x2 x3 : UInt8) : bits .or .u32 (bits .or .u32 (bits .or .u32 ((x0.toNat : Int) % 4294967296 * 16777216 % 4294967296) ((x1.toNat : Int) % 4294967296 * 65536 % 4294967296)) ((x2.toNat : Int) % 4294967296 * 256 % 4294967296)) ((x3.toNat : Int) % 4294967296) = ((BitVec.ofNat 32 (val [x0, x1, x2, x3])).toNat : Int) := by
  have h0 := x0.toNat_lt; have h1 := x1.toNat_lt; have h2 := x2.toNat_lt; have h3 := x3.toNat_lt
  rw [show ((x0.toNat : Int) % 4294967296 * 16777216 % 4294967296) = (x0.toNat : Int) * 16777216 by omega, show ((x1.toNat : Int) % 4294967296 * 65536 % 4294967296) = (x1.toNat : Int) * 65536 by omega, show ((x2.toNat : Int) % 4294967296 * 256 % 4294967296) = (x2.toNat : Int) * 256 by omega, show ((x3.toNat : Int) % 4294967296) = (x3.toNat : Int) by omega]
  exact word_or x0 x1 x2 x3
theorem take4 (bs : List UInt8) (k : Nat) (h : 4 * k + 4 ≤ bs.length) : (bs.drop (4 * k)).take 4 = [bs[4 * k], bs[4 * k + 1], bs[4 * k + 2], bs[4 * k + 3]] := by
  rw [List.drop_eq_getElem_cons (by omega), List.drop_eq_getElem_cons (by omega), List.drop_eq_getElem_cons (by omega), List.drop_eq_getElem_cons (by omega)]
  rfl
theorem outs_next (s : St) (k : Nat) (h : k < 8) : outs s (k + 1) = outs s k ++ big (s.list.getD k 0).toNat 4 := by
  rcases (show k = 0 ∨ k = 1 ∨ k = 2 ∨ k = 3 ∨ k = 4 ∨ k = 5 ∨ k = 6 ∨ k = 7 by omega) with rfl | rfl | rfl | rfl | rfl | rfl | rfl | rfl <;> simp [outs, St.list]
/-- The state while a block's is added word by word. -/
theorem mix_comm (s v : St) : v.plus s = s.plus v := by
  simp only [St.plus, St.mk.injEq]
  refine ⟨?_, ?_, ?_, ?_, ?_, ?_, ?_, ?_⟩ <;> exact BitVec.add_comm _ _
end Sha
theorem mix_zero (v s : Sha.St) : mix v s 0 = v.list := rfl
theorem mix_eight (v s : Sha.St) : mix v s 8 = (v.plus s).list := rfl
theorem start_next (i : Nat) (h : i < 8) : (Sha.start.list.take i ++ List.replicate (8 - i) 0).set i (Sha.start.list.getD i 0) = Sha.start.list.take (i + 1) ++ List.replicate (8 - (i + 1)) 0 := by
  rcases (show i = 0 ∨ i = 1 ∨ i = 2 ∨ i = 3 ∨ i = 4 ∨ i = 5 ∨ i = 6 ∨ i = 7 by omega) with rfl | rfl | rfl | rfl | rfl | rfl | rfl | rfl <;> rfl
theorem start_root (i : Nat) (h : i < 8) : Rt.root ((Rt.pl.take 8).getD i 0) 2 41 0 % 4294967296 = (Sha.start.list.getD i 0).toNat := by
  have h1 : i < (Rt.pl.take 8).length := h
  have h2 : i < Sha.start.list.length := h
  have := Rt.start_at i h1 h2
  rw [List.getD_eq_getElem?_getD, List.getD_eq_getElem?_getD, List.getElem?_eq_getElem h1, List.getElem?_eq_getElem h2]
  exact this
end Go.Proofs.YtommbdlkmkphpaaDoor
