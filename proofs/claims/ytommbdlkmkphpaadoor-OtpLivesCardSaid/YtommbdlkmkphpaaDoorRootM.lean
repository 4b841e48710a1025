/- Numbers in digits of sixteen bits, primes and roots as plain Lean. No program in sight. -/
namespace Go.Proofs.YtommbdlkmkphpaaDoor
namespace Rt
/-- The number of digits, the lowest first. -/
def val : List Nat → Nat
  | [] => 0
  | d :: l => d + 65536 * val l
def Dig (l : List Nat) : Prop := ∀ x ∈ l, x < 65536
theorem val_append (l m : List Nat) : val (l ++ m) = val l + 65536 ^ l.length * val m := by
  induction l with
  | nil => simp [val]
  | cons d l ih => simp [val, ih, Nat.pow_succ, Nat.mul_add]; rw [Nat.add_assoc, ← Nat.mul_assoc, ← Nat.mul_comm 65536]
theorem val_lt (l : List Nat) (h : Dig l) : val l < 65536 ^ l.length := by
  induction l with
  | nil => simp [val]
  | cons d l ih =>
    have h1 := ih (fun x hx => h x (by simp [hx]))
    have h2 := h d (by simp)
    simp only [val, List.length_cons, Nat.pow_succ]
    omega
theorem val_zeros (n : Nat) : val (List.replicate n 0) = 0 := by
  induction n with
  | zero => rfl
  | succ n ih => rw [List.replicate_succ, val, ih]
theorem val_set (l : List Nat) (i x : Nat) (h : i < l.length) : val (l.set i x) + 65536 ^ i * l[i] = val l + 65536 ^ i * x := by
  induction l generalizing i with
  | nil => simp at h
  | cons d l ih =>
    cases i with
    | zero => simp [val]; omega
    | succ i =>
      simp only [List.set_cons_succ, val, List.getElem_cons_succ]
      have := ih i (by simpa using h)
      have e : ∀ z, 65536 ^ (i + 1) * z = 65536 * (65536 ^ i * z) := fun z => by rw [Nat.pow_succ, Nat.mul_comm (65536 ^ i), Nat.mul_assoc]
      rw [e, e]
      omega
theorem Dig.set {l : List Nat} (h : Dig l) (i x : Nat) (hx : x < 65536) : Dig (l.set i x) := by
  intro y hy
  rcases List.mem_or_eq_of_mem_set hy with h1 | h1
  · exact h y h1
  · omega
theorem Dig.zeros (n : Nat) : Dig (List.replicate n 0) := by
  intro y hy
  have := (List.mem_replicate.1 hy).2
  omega
/-- One step of the inner loop keeps what the digits and the carry say together. -/
theorem step_val (out : List Nat) (p q a b c : Nat) (hp : p < out.length) (h0 : val out + 65536 ^ p * c = q) :
    val (out.set p ((c + (out[p] + a * b)) % 65536)) + 65536 ^ (p + 1) * ((c + (out[p] + a * b)) / 65536) = q + 65536 ^ p * (a * b) := by
  have h1 := val_set out p ((c + (out[p] + a * b)) % 65536) hp
  have h2 := Nat.mod_add_div (c + (out[p] + a * b)) 65536
  generalize (c + (out[p] + a * b)) % 65536 = r at *
  generalize (c + (out[p] + a * b)) / 65536 = s at *
  have h3 : 65536 ^ p * (r + 65536 * s) = 65536 ^ p * (c + (out[p] + a * b)) := by rw [h2]
  have e : 65536 ^ (p + 1) * s = 65536 ^ p * (65536 * s) := by rw [Nat.pow_succ, Nat.mul_assoc]
  rw [e]
  simp only [Nat.mul_add] at *
  omega
theorem step_lt (c o a b : Nat) (hc : c < 65536) (ho : o < 65536) (ha : a < 65536) (hb : b < 65536) : c + (o + a * b) < 4294967296 := by
  have : a * b ≤ 65535 * 65535 := Nat.mul_le_mul (by omega) (by omega)
  omega
/-- The list that above compares with. -/
def goal (len p n : Nat) : List Nat := (List.replicate len 0).set n p
theorem goal_length (len p n : Nat) : (goal len p n).length = len := by simp [goal]
theorem goal_val (len p n : Nat) (h : n < len) : val (goal len p n) = p * 65536 ^ n := by
  have := val_set (List.replicate len 0) n p (by simpa using h)
  rw [val_zeros] at this
  simp at this
  rw [goal, this, Nat.mul_comm]
theorem goal_at (len p n i : Nat) (h : i < len) : (goal len p n)[i]? = some (if i = n then p else 0) := by
  unfold goal
  rw [List.getElem?_set]
  by_cases e : n = i
  · subst e; simp [h]
  · simp [e, h, Ne.symm e]
theorem val_gt (a t : List Nat) (i : Nat) (ht : Dig t) (hl : a.length = t.length) (hi : i < a.length) (hd : a.drop (i + 1) = t.drop (i + 1)) (hg : t[i]'(hl ▸ hi) < a[i]) : val t < val a := by
  have e1 : a = a.take i ++ (a[i] :: a.drop (i + 1)) := by rw [← List.drop_eq_getElem_cons hi, List.take_append_drop]
  have e2 : t = t.take i ++ (t[i]'(hl ▸ hi) :: t.drop (i + 1)) := by rw [← List.drop_eq_getElem_cons (hl ▸ hi), List.take_append_drop]
  rw [e1, e2, val_append, val_append, ← hd]
  have hlt := val_lt (t.take i) (fun x hx => ht x (List.mem_of_mem_take hx))
  have l1 : (a.take i).length = i := by simp; omega
  have l2 : (t.take i).length = i := by simp; omega
  rw [l2] at hlt
  rw [l1, l2]
  simp only [val]
  have : 65536 ^ i * (t[i]'(hl ▸ hi) + 65536 * val (a.drop (i + 1))) + 65536 ^ i ≤ 65536 ^ i * (a[i] + 65536 * val (a.drop (i + 1))) := by
    rw [← Nat.mul_succ]; exact Nat.mul_le_mul_left _ (by omega)
  omega
/-- The root, bit by bit: what stands behind the bits k and above. -/
def root (p n : Nat) : Nat → Nat → Nat
  | 0, x => x
  | k + 1, x => root p n k (if (x + 2 ^ k) ^ n ≤ p * 65536 ^ (2 * n) then x + 2 ^ k else x)
def pl : List Nat := [2, 3, 5, 7, 11, 13, 17, 19, 23, 29, 31, 37, 41, 43, 47, 53, 59, 61, 67, 71, 73, 79, 83, 89, 97, 101, 103, 107, 109, 113, 127, 131, 137, 139, 149, 151, 157, 163, 167, 173, 179, 181, 191, 193, 197, 199, 211, 223, 227, 229, 233, 239, 241, 251, 257, 263, 269, 271, 277, 281, 283, 293, 307, 311]
def K : List Nat := [0x428a2f98, 0x71374491, 0xb5c0fbcf, 0xe9b5dba5, 0x3956c25b, 0x59f111f1, 0x923f82a4, 0xab1c5ed5, 0xd807aa98, 0x12835b01, 0x243185be, 0x550c7dc3, 0x72be5d74, 0x80deb1fe, 0x9bdc06a7, 0xc19bf174, 0xe49b69c1, 0xefbe4786, 0x0fc19dc6, 0x240ca1cc, 0x2de92c6f, 0x4a7484aa, 0x5cb0a9dc, 0x76f988da, 0x983e5152, 0xa831c66d, 0xb00327c8, 0xbf597fc7, 0xc6e00bf3, 0xd5a79147, 0x06ca6351, 0x14292967, 0x27b70a85, 0x2e1b2138, 0x4d2c6dfc, 0x53380d13, 0x650a7354, 0x766a0abb, 0x81c2c92e, 0x92722c85, 0xa2bfe8a1, 0xa81a664b, 0xc24b8b70, 0xc76c51a3, 0xd192e819, 0xd6990624, 0xf40e3585, 0x106aa070, 0x19a4c116, 0x1e376c08, 0x2748774c, 0x34b0bcb5, 0x391c0cb3, 0x4ed8aa4a, 0x5b9cca4f, 0x682e6ff3, 0x748f82ee, 0x78a5636f, 0x84c87814, 0x8cc70208, 0x90befffa, 0xa4506ceb, 0xbef9a3f7, 0xc67178f2]
def S : List Nat := [0x6a09e667, 0xbb67ae85, 0x3c6ef372, 0xa54ff53a, 0x510e527f, 0x9b05688c, 0x1f83d9ab, 0x5be0cd19]
theorem keys_are : pl.map (fun p => root p 3 41 0 % 4294967296) = K := by decide +kernel
theorem start_is : (pl.take 8).map (fun p => root p 2 41 0 % 4294967296) = S := by decide +kernel
/-- How many of them are below p. -/
def cnt (p : Nat) : Nat := (pl.filter (· < p)).length
theorem cnt_step : ∀ p : Fin 312, 2 ≤ p.val → ((pl.take (cnt p.val)).all (fun q => p.val % q != 0) = pl.contains p.val ∧ (pl.contains p.val → pl[cnt p.val]? = some p.val ∧ cnt (p.val + 1) = cnt p.val + 1) ∧ (!pl.contains p.val → cnt (p.val + 1) = cnt p.val)) := by decide +kernel
theorem cnt_end : cnt 312 = 64 := by decide +kernel
end Rt
end Go.Proofs.YtommbdlkmkphpaaDoor
