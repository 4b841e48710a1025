/- Plain facts on Stretch and Same. No program in sight. -/
import Derived.Test.YtommbdlkmkphpaaDoorShaM
namespace Go.Proofs.YtommbdlkmkphpaaDoor
namespace Sha
theorem iter_succ (pass : List UInt8) (n : Nat) (p : List UInt8 × List UInt8) : iter pass (n + 1) p = (mac pass (iter pass n p).1, List.zipWith (· ^^^ ·) (iter pass n p).2 (mac pass (iter pass n p).1)) := by
  induction n generalizing p with
  | zero => rfl
  | succ n ih => rw [iter, ih]; rfl
theorem iter_lengths (pass : List UInt8) (n : Nat) (p : List UInt8 × List UInt8) (h1 : p.1.length = 32) (h2 : p.2.length = 32) : (iter pass n p).1.length = 32 ∧ (iter pass n p).2.length = 32 := by
  induction n with
  | zero => exact ⟨h1, h2⟩
  | succ n ih => rw [iter_succ]; simp [mac_length, ih.2]
theorem chunk_length (pass salt : List UInt8) (r j : Nat) : (chunk pass salt r j).length = 32 :=
  (iter_lengths pass _ _ (mac_length _ _) (mac_length _ _)).2
/-- The first j chunks. -/
def chunks (pass salt : List UInt8) (r : Nat) : Nat → List UInt8
  | 0 => []
  | j + 1 => chunks pass salt r j ++ chunk pass salt r (j + 1)
theorem chunks_length (pass salt : List UInt8) (r j : Nat) : (chunks pass salt r j).length = 32 * j := by
  induction j with
  | zero => rfl
  | succ j ih => simp [chunks, ih, chunk_length]; omega
theorem chunks_three (pass salt : List UInt8) (r : Nat) : chunks pass salt r 3 = chunk pass salt r 1 ++ chunk pass salt r 2 ++ chunk pass salt r 3 := by simp [chunks]
theorem chunks_take (pass salt : List UInt8) (r j n : Nat) (h : n ≤ 32 * j) (hj : j ≤ 3) : (chunks pass salt r j).take n = (chunks pass salt r 3).take n := by
  have key : ∀ k, j ≤ k → (chunks pass salt r k).take n = (chunks pass salt r j).take n := by
    intro k hk
    induction k with
    | zero => obtain rfl : j = 0 := by omega
              rfl
    | succ k ih =>
      by_cases e : j = k + 1
      · subst e; rfl
      · rw [chunks, List.take_append_of_le_length (by rw [chunks_length]; omega)]
        exact ih (by omega)
  exact (key 3 hj).symm
theorem stretch_ok (pass salt : List UInt8) (r n : Nat) (h1 : 1 ≤ r) (h2 : r ≤ 64) (h3 : 1 ≤ n) (h4 : n ≤ 96) : stretch pass salt r n = ((chunks pass salt r 3).take n, 0) := by
  unfold stretch
  rw [if_neg (by omega), if_neg (by omega), ← chunks_three]
  rfl
/-- The first k of a block xored with those of another. -/
def mixed (b u : List UInt8) (k : Nat) : List UInt8 := List.zipWith (· ^^^ ·) (b.take k) (u.take k) ++ b.drop k
theorem mixed_length (b u : List UInt8) (k : Nat) (h : b.length = u.length) : (mixed b u k).length = b.length := by simp [mixed]; omega
theorem mixed_zero (b u : List UInt8) : mixed b u 0 = b := by simp [mixed]
theorem mixed_at (b u : List UInt8) (k : Nat) (h : b.length = u.length) (hk : k < b.length) : (mixed b u k)[k]? = some b[k] := by
  have hl : (List.zipWith (· ^^^ ·) (b.take k) (u.take k)).length = k := by simp; omega
  rw [mixed, List.getElem?_append_right (by omega), hl]
  simp [hk]
theorem mixed_set (b u : List UInt8) (k : Nat) (h : b.length = u.length) (hk : k < b.length) : (mixed b u k).set k (b[k] ^^^ u[k]'(h ▸ hk)) = mixed b u (k + 1) := by
  have hl : (List.zipWith (· ^^^ ·) (b.take k) (u.take k)).length = k := by simp; omega
  rw [mixed, mixed, List.set_append_right _ _ (by omega), hl, Nat.sub_self, List.drop_eq_getElem_cons hk, List.set_cons_zero,
    List.take_succ_eq_append_getElem hk, List.take_succ_eq_append_getElem (h ▸ hk), List.zipWith_append (by simp; omega)]
  simp
theorem mixed_end (b u : List UInt8) (h : b.length = u.length) : mixed b u b.length = List.zipWith (· ^^^ ·) b u := by
  rw [mixed, List.take_length, List.drop_length, h, List.take_length, List.append_nil]
theorem padded_short (key : List UInt8) (x : UInt8) (h : key.length ≤ 64) : padded key x = (key ++ List.replicate (64 - key.length) 0).map (· ^^^ x) := by
  unfold padded; rw [if_neg (by omega)]
theorem mac_zeros (key s : List UInt8) (z : Nat) (h : key.length + z ≤ 64) : mac (key ++ List.replicate z 0) s = mac key s := by
  have e : ∀ x, padded (key ++ List.replicate z 0) x = padded key x := fun x => by
    rw [padded_short _ _ (by simpa using h), padded_short _ _ (by omega), List.append_assoc, List.replicate_append_replicate]
    have : z + (64 - (key ++ List.replicate z 0).length) = 64 - key.length := by simp; omega
    rw [this]
  unfold mac; rw [e, e]
theorem mac_long (key s : List UInt8) (h : key.length > 64) : mac (sum key) s = mac key s := by
  have e : ∀ x, padded (sum key) x = padded key x := fun x => by
    rw [padded_short _ _ (by rw [sum_length]; decide)]
    unfold padded; rw [if_pos h]
  unfold mac; rw [e, e]
/-- The first i of a key's 64 bytes xor x. -/
def front (key : List UInt8) (x : UInt8) (i : Nat) : List UInt8 := (List.range i).map fun j => key.getD j 0 ^^^ x
theorem front_succ (key : List UInt8) (x : UInt8) (i : Nat) : front key x (i + 1) = front key x i ++ [key.getD i 0 ^^^ x] := by simp [front, List.range_succ]
theorem front_length (key : List UInt8) (x : UInt8) (i : Nat) : (front key x i).length = i := by simp [front]
theorem front_end (key : List UInt8) (x : UInt8) (h : key.length ≤ 64) : front key x 64 = padded key x := by
  rw [padded_short _ _ h]
  apply List.ext_getElem
  · simp [front]; omega
  · intro i h1 h2
    have hi : i < 64 := by simpa [front] using h1
    simp only [front, List.getElem_map, List.getElem_range]
    congr 1
    rw [List.getElem_append]
    split
    · rename_i hk; simp [List.getD_eq_getElem?_getD, hk]
    · rename_i hk; simp [List.getD_eq_getElem?_getD, Nat.le_of_not_lt hk]
theorem begins_one (pass salt : List UInt8) : (chunks pass salt 1 3).take 32 = mac pass (salt ++ [0, 0, 0, 1]) := by
  rw [← chunks_take _ _ _ 1 32 (by decide) (by decide)]
  simp only [chunks, List.nil_append]
  rw [List.take_of_length_le (by rw [chunk_length]; exact Nat.le_refl _)]
  rfl
theorem begins_two (pass salt : List UInt8) : (chunks pass salt 2 3).take 32 = List.zipWith (· ^^^ ·) (mac pass (salt ++ [0, 0, 0, 1])) (mac pass (mac pass (salt ++ [0, 0, 0, 1]))) := by
  rw [← chunks_take _ _ _ 1 32 (by decide) (by decide)]
  simp only [chunks, List.nil_append]
  rw [List.take_of_length_le (by rw [chunk_length]; exact Nat.le_refl _)]
  rfl
end Sha
theorem nat_xor_zero (x y : Nat) : x ^^^ y = 0 ↔ x = y := by
  constructor
  · intro h
    have h1 : x ^^^ y ^^^ y = 0 ^^^ y := by rw [h]
    rw [Nat.xor_assoc, Nat.xor_self, Nat.xor_zero, Nat.zero_xor] at h1
    exact h1
  · rintro rfl; exact Nat.xor_self x
/-- What Same has together behind k rounds. -/
def diff (a b : List UInt8) : Nat → Nat
  | 0 => a.length ^^^ b.length
  | k + 1 => diff a b k ||| (a.getD k 0 ^^^ b.getD k 0).toNat
theorem diff_lt (a b : List UInt8) (k : Nat) (ha : a.length < 2 ^ 63) (hb : b.length < 2 ^ 63) : diff a b k < 2 ^ 63 := by
  induction k with
  | zero => exact Nat.xor_lt_two_pow ha hb
  | succ k ih => exact Nat.or_lt_two_pow ih (by have := (a.getD k 0 ^^^ b.getD k 0).toNat_lt; omega)
theorem diff_zero (a b : List UInt8) (k : Nat) : diff a b k = 0 ↔ a.length = b.length ∧ ∀ j, j < k → a.getD j 0 = b.getD j 0 := by
  induction k with
  | zero => simp [diff, nat_xor_zero]
  | succ k ih =>
    have e : (a.getD k 0 ^^^ b.getD k 0).toNat = 0 ↔ a.getD k 0 = b.getD k 0 := by
      rw [UInt8.toNat_xor, nat_xor_zero, UInt8.toNat_inj]
    rw [diff, Nat.or_eq_zero_iff, ih, e]
    constructor
    · rintro ⟨⟨h1, h2⟩, h3⟩
      refine ⟨h1, fun j hj => ?_⟩
      by_cases hjk : j = k
      · subst hjk; exact h3
      · exact h2 j (by omega)
    · rintro ⟨h1, h2⟩
      exact ⟨⟨h1, fun j hj => h2 j (by omega)⟩, h2 k (by omega)⟩
theorem diff_end (a b : List UInt8) : (diff a b a.length == 0) = decide (a = b) := by
  rw [Bool.eq_iff_iff]
  simp only [beq_iff_eq, decide_eq_true_eq]
  rw [diff_zero]
  constructor
  · rintro ⟨h1, h2⟩
    apply List.ext_getElem h1
    intro i hi hi'
    have := h2 i hi
    simpa [List.getD_eq_getElem?_getD, hi, hi'] using this
  · rintro rfl
    exact ⟨rfl, fun _ _ => rfl⟩
end Go.Proofs.YtommbdlkmkphpaaDoor
