/- Codes of six digits, windows of steps: as plain Lean. No program in sight. -/
import Derived.Test.YtommbdlkmkphpaaDoorShaM
import Derived.Lib.ItoaNum
namespace Go.Proofs.YtommbdlkmkphpaaDoor
namespace Otp
/-- Six digits. -/
def six (v : Nat) : List UInt8 := [UInt8.ofNat (48 + v / 100000 % 10), UInt8.ofNat (48 + v / 10000 % 10), UInt8.ofNat (48 + v / 1000 % 10), UInt8.ofNat (48 + v / 100 % 10), UInt8.ofNat (48 + v / 10 % 10), UInt8.ofNat (48 + v % 10)]
theorem dec_step (u : Nat) (h : 10 ≤ u) : Lib.decDigits u = Lib.decDigits (u / 10) ++ [UInt8.ofNat (48 + u % 10)] := by rw [Lib.decDigits, dif_neg (by omega)]
theorem dec_one (u : Nat) (h : u < 10) : Lib.decDigits u = [UInt8.ofNat (48 + u)] := by rw [Lib.decDigits, dif_pos h]
theorem itoa_six (v : Nat) (h : v < 1000000) : Lib.itoa ((v : Int) + 1000000) = 49 :: six v := by
  have e : (v : Int) + 1000000 = ((v + 1000000 : Nat) : Int) := by omega
  rw [e, Lib.itoa, if_neg (by omega), Int.toNat_natCast]
  rw [dec_step _ (by omega), dec_step _ (by omega), dec_step _ (by omega), dec_step _ (by omega), dec_step _ (by omega), dec_step _ (by omega), dec_one _ (by omega)]
  have h1 : (v + 1000000) / 10 / 10 / 10 / 10 / 10 / 10 = 1 := by omega
  have h2 : (v + 1000000) / 10 / 10 / 10 / 10 / 10 % 10 = v / 100000 % 10 := by omega
  have h3 : (v + 1000000) / 10 / 10 / 10 / 10 % 10 = v / 10000 % 10 := by omega
  have h4 : (v + 1000000) / 10 / 10 / 10 % 10 = v / 1000 % 10 := by omega
  have h5 : (v + 1000000) / 10 / 10 % 10 = v / 100 % 10 := by omega
  have h6 : (v + 1000000) / 10 % 10 = v / 10 % 10 := by omega
  have h7 : (v + 1000000) % 10 = v % 10 := by omega
  rw [h1, h2, h3, h4, h5, h6, h7]
  rfl
theorem six_length (v : Nat) : (six v).length = 6 := rfl
theorem six_digit (v : Nat) : ∀ x ∈ six v, 48 ≤ x.toNat ∧ x.toNat ≤ 57 := by
  intro x hx
  have d : ∀ a : Nat, 48 ≤ (UInt8.ofNat (48 + a % 10)).toNat ∧ (UInt8.ofNat (48 + a % 10)).toNat ≤ 57 := fun a => by
    rw [UInt8.toNat_ofNat']; omega
  simp only [six, List.mem_cons, List.not_mem_nil, or_false] at hx
  rcases hx with rfl | rfl | rfl | rfl | rfl | rfl <;> exact d _
/-- The step as 64 bits. -/
def tick (s : Int) : Nat := (s % 18446744073709551616).toNat
def at_ (m : List UInt8) : Nat := (m.getD 31 0).toNat % 16
def num (m : List UInt8) : Nat := Sha.val ((m.drop (at_ m)).take 4) % 2147483648 % 1000000
def code (secret : List UInt8) (s : Int) : List UInt8 := six (num (Sha.mac secret (Sha.big (tick s) 8)))
theorem code_length (secret : List UInt8) (s : Int) : (code secret s).length = 6 := rfl
/-- n steps from s downwards: the first that p takes. -/
def look (p : Int → Bool) : Nat → Int → Option Int
  | 0, _ => none
  | n + 1, s => if p s then some s else look p n (s - 1)
theorem look_some {p : Int → Bool} : ∀ {n : Nat} {s r : Int}, look p n s = some r → s - n < r ∧ r ≤ s ∧ p r = true ∧ ∀ t, r < t → t ≤ s → p t = false
  | 0, s, r, h => by simp [look] at h
  | n + 1, s, r, h => by
    rw [look] at h
    split at h
    · rename_i hp
      cases h
      exact ⟨by omega, by omega, hp, fun t h1 h2 => by omega⟩
    · rename_i hp
      obtain ⟨h1, h2, h3, h4⟩ := look_some h
      refine ⟨by omega, by omega, h3, fun t h5 h6 => ?_⟩
      by_cases e : t = s
      · subst e; simpa using hp
      · exact h4 t h5 (by omega)
theorem look_none {p : Int → Bool} : ∀ {n : Nat} {s : Int}, look p n s = none → ∀ t, s - n < t → t ≤ s → p t = false
  | 0, s, _, t, h1, h2 => by omega
  | n + 1, s, h, t, h1, h2 => by
    rw [look] at h
    split at h
    · cases h
    · rename_i hp
      by_cases e : t = s
      · subst e; simpa using hp
      · exact look_none h t (by omega) (by omega)
/-- How many steps a window has. -/
def span (step win : Int) : Nat := (step + win - max 0 (step - win) + 1).toNat
def good (step win : Int) : Prop := 0 ≤ step ∧ step ≤ 1099511627776 ∧ 0 ≤ win ∧ win ≤ 10
instance (step win : Int) : Decidable (good step win) := by unfold good; exact inferInstance
def find (secret c : List UInt8) (step win : Int) : Option Int := if good step win then look (fun s => code secret s == c) (span step win) (step + win) else none
theorem find_some {secret c : List UInt8} {step win r : Int} (h : find secret c step win = some r) : good step win ∧ 0 ≤ r ∧ step - win ≤ r ∧ r ≤ step + win ∧ code secret r = c ∧ ∀ t, r < t → t ≤ step + win → code secret t ≠ c := by
  unfold find at h
  split at h
  · rename_i hg
    obtain ⟨h1, h2, h3, h4⟩ := look_some h
    obtain ⟨g1, g2, g3, g4⟩ := hg
    have hsp : ((span step win : Nat) : Int) = step + win - max 0 (step - win) + 1 := by unfold span; omega
    refine ⟨⟨g1, g2, g3, g4⟩, by omega, by omega, h2, by simpa using h3, fun t h5 h6 => by simpa using h4 t h5 h6⟩
  · cases h
theorem find_none {secret c : List UInt8} {step win : Int} (h : find secret c step win = none) (hg : good step win) : ∀ t, 0 ≤ t → step - win ≤ t → t ≤ step + win → code secret t ≠ c := by
  intro t h1 h2 h3
  unfold find at h
  rw [if_pos hg] at h
  obtain ⟨g1, g2, g3, g4⟩ := hg
  have hsp : ((span step win : Nat) : Int) = step + win - max 0 (step - win) + 1 := by unfold span; omega
  simpa using look_none h t (by omega) h3
/-- What is within the window is found, or a later one. -/
theorem find_has {secret c : List UInt8} {step win t : Int} (hg : good step win) (h0 : 0 ≤ t) (h1 : step - win ≤ t) (h2 : t ≤ step + win) (hc : code secret t = c) : ∃ r, find secret c step win = some r ∧ t ≤ r := by
  cases h : find secret c step win with
  | none => exact absurd hc (find_none h hg t h0 h1 h2)
  | some r =>
    obtain ⟨_, _, _, _, _, h7⟩ := find_some h
    refine ⟨r, rfl, ?_⟩
    rcases Int.lt_or_le r t with h8 | h8
    · exact absurd hc (h7 t h8 h2)
    · exact h8
/-- A wider window finds no earlier one. -/
theorem find_wider {secret c : List UInt8} {step win r : Int} (h : find secret c step win = some r) (hw : win < 10) : ∃ m, find secret c step (win + 1) = some m ∧ r ≤ m := by
  obtain ⟨⟨g1, g2, g3, g4⟩, h1, h2, h3, h4, _⟩ := find_some h
  exact find_has ⟨g1, g2, by omega, by omega⟩ h1 (by omega) (by omega) h4
theorem find_form {secret c : List UInt8} {step win r : Int} (h : find secret c step win = some r) : c.length = 6 ∧ ∀ x ∈ c, 48 ≤ x.toNat ∧ x.toNat ≤ 57 := by
  obtain ⟨_, _, _, _, h4, _⟩ := find_some h
  rw [← h4]
  exact ⟨rfl, six_digit _⟩
end Otp
end Go.Proofs.YtommbdlkmkphpaaDoor
