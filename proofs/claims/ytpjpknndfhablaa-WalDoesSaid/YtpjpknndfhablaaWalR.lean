/- Reading records one by one. Plain Lean. -/
import Derived.Test.YtpjpknndfhablaaWalM
namespace Go.Proofs.Ytpjpknndfhablaa
namespace Wal
theorem whole_le {file : List UInt8} {p most : Nat} (h : (whole file p most).2 = true) : p + 8 + (whole file p most).1.length ≤ file.length ∧ (whole file p most).1.length ≤ most := by
  unfold whole at h ⊢
  split at h
  · cases h
  · rename_i h1
    split at h
    · cases h
    · rename_i h2
      rw [if_neg h1, if_neg h2]
      simp only [List.length_take, List.length_drop]
      omega
theorem reads_fuel {file : List UInt8} : ∀ {k j p : Nat}, file.length + 1 - p ≤ k → file.length + 1 - p ≤ j → reads file k p = reads file j p
  | 0, 0, _, _, _ => rfl
  | 0, j + 1, p, h1, h2 => by
    have hw : (whole file p 65536).2 = false := by
      cases hb : (whole file p 65536).2
      · rfl
      · have := (whole_le hb).1; omega
    simp [reads, hw]
  | k + 1, 0, p, h1, h2 => by
    have hw : (whole file p 65536).2 = false := by
      cases hb : (whole file p 65536).2
      · rfl
      · have := (whole_le hb).1; omega
    simp [reads, hw]
  | k + 1, j + 1, p, h1, h2 => by
    cases hb : (whole file p 65536).2
    · simp [reads, hb]
    · have := (whole_le hb).1
      simp only [reads, hb, if_true]
      rw [reads_fuel (k := k) (j := j) (by omega) (by omega)]
theorem recs_done {file : List UInt8} {p : Nat} (h : (whole file p 65536).2 = false) : recs file p = ([], p) := by
  unfold recs
  cases file.length + 1 - p with
  | zero => rfl
  | succ k => simp [reads, h]
theorem recs_more {file : List UInt8} {p : Nat} (h : (whole file p 65536).2 = true) : recs file p = ((whole file p 65536).1 :: (recs file (p + 8 + (whole file p 65536).1.length)).1, (recs file (p + 8 + (whole file p 65536).1.length)).2) := by
  have hle := (whole_le h).1
  unfold recs
  obtain ⟨k, hk⟩ : ∃ k, file.length + 1 - p = k + 1 := ⟨file.length - p, by omega⟩
  rw [hk]
  simp only [reads, h, if_true]
  rw [reads_fuel (k := k) (j := file.length + 1 - (p + 8 + (whole file p 65536).1.length)) (by omega) (by omega)]
theorem recs_end_le {file : List UInt8} : ∀ (n p : Nat), file.length + 1 - p ≤ n → p ≤ file.length → (recs file p).2 ≤ file.length
  | 0, p, h, hp => by omega
  | n + 1, p, h, hp => by
    cases hb : (whole file p 65536).2
    · rw [recs_done hb]; exact hp
    · rw [recs_more hb]
      have := (whole_le hb).1
      exact recs_end_le n _ (by omega) (by omega)
theorem recs_count {file : List UInt8} : ∀ (n p : Nat), file.length + 1 - p ≤ n → (recs file p).1.length ≤ file.length
  | 0, p, h => by
    have hw : (whole file p 65536).2 = false := by
      cases hb : (whole file p 65536).2
      · rfl
      · have := (whole_le hb).1; omega
    rw [recs_done hw]; simp
  | n + 1, p, h => by
    have key : ∀ (n p : Nat), file.length + 1 - p ≤ n → (recs file p).1.length ≤ file.length - p := by
      intro n
      induction n with
      | zero =>
        intro p h
        have hw : (whole file p 65536).2 = false := by
          cases hb : (whole file p 65536).2
          · rfl
          · have := (whole_le hb).1; omega
        rw [recs_done hw]; simp
      | succ n ih =>
        intro p h
        cases hb : (whole file p 65536).2
        · rw [recs_done hb]; simp
        · rw [recs_more hb]
          have h1 := (whole_le hb).1
          have h2 := ih (p + 8 + (whole file p 65536).1.length) (by omega)
          simp only [List.length_cons]
          omega
    exact Nat.le_trans (key (n + 1) p h) (by omega)
/-- What is read on from a place. -/
def Onward (file : List UInt8) (p0 p : Nat) (pre : List (List UInt8)) : Prop := (recs file p0).1 = pre ++ (recs file p).1 ∧ (recs file p0).2 = (recs file p).2
theorem Onward.start (file : List UInt8) (p : Nat) : Onward file p p [] := ⟨rfl, rfl⟩
theorem Onward.step {file : List UInt8} {p0 p : Nat} {pre : List (List UInt8)} (h : Onward file p0 p pre) {s : List UInt8} (hs : whole file p 65536 = (s, true)) : Onward file p0 (p + 8 + s.length) (pre ++ [s]) := by
  have h2 := recs_more (file := file) (p := p) (by rw [hs])
  rw [hs] at h2
  exact ⟨by rw [h.1, h2]; simp, by rw [h.2, h2]⟩
theorem Onward.done {file : List UInt8} {p0 p : Nat} {pre : List (List UInt8)} (h : Onward file p0 p pre) (hs : (whole file p 65536).2 = false) : recs file p0 = (pre, p) := by
  have h2 := recs_done hs
  exact Prod.ext (by rw [h.1, h2]; simp) (by rw [h.2, h2])
end Wal
end Go.Proofs.Ytpjpknndfhablaa
