/- The log of chapter 10: what the power's going leaves of it is what some beginning of its records made. Plain Lean. -/
import Derived.Test.YtpjpknndfhablaaWalM
namespace Go.Proofs.Ytpjpknndfhablaa
namespace Wal
def frames (rs : List (List UInt8)) : List UInt8 := rs.flatMap frame
theorem frames_append (a b : List (List UInt8)) : frames (a ++ b) = frames a ++ frames b := by simp [frames]
theorem frames_cons (s : List UInt8) (rs : List (List UInt8)) : frames (s :: rs) = frame s ++ frames rs := by simp [frames]
theorem frames_nil : frames [] = [] := rfl
def Short (rs : List (List UInt8)) : Prop := ∀ s ∈ rs, s.length ≤ 65536
/-- A beginning of frames is some whole ones and a beginning of one. -/
theorem take_frames (rs : List (List UInt8)) (h : Short rs) (K : Nat) : ∃ j x k, j ≤ rs.length ∧ x.length ≤ 65536 ∧ k < (frame x).length ∧ (frames rs).take K = frames (rs.take j) ++ (frame x).take k := by
  induction rs generalizing K with
  | nil => exact ⟨0, [], 0, Nat.le_refl _, by simp, by simp [frame_length], by simp [frames]⟩
  | cons s rs ih =>
    by_cases hK : K < (frame s).length
    · refine ⟨0, s, K, by omega, h s (by simp), hK, ?_⟩
      rw [frames_cons, List.take_append_of_le_length (by omega)]; simp [frames]
    · obtain ⟨j, x, k, h1, h2, h3, h4⟩ := ih (fun s hs => h s (by simp [hs])) (K - (frame s).length)
      refine ⟨j + 1, x, k, by simp; omega, h2, h3, ?_⟩
      rw [frames_cons, List.take_append, List.take_of_length_le (by omega), h4, List.take_succ_cons, frames_cons, List.append_assoc]
theorem counts_head {g : Nat} {snap r : List UInt8} (hg : g ≤ 4611686018427387904) (hs : snap.length ≤ 524288) : counts (head g snap ++ r) = (g, snap, 20 + snap.length) := by
  have hw : whole (head g snap ++ r) 12 524288 = (snap, true) := by
    have h := whole_frame (a := magic ++ Sha.big g 8) (s := snap) (r := r) (most := 524288) hs (by omega)
    have e : (magic ++ Sha.big g 8).length = 12 := by simp [magic, Sha.big_length]
    rw [e] at h
    simpa [head, List.append_assoc] using h
  have e1 : (head g snap ++ r).take 4 = magic := by simp [head, magic]
  have e2 : ((head g snap ++ r).drop 4).take 8 = Sha.big g 8 := by
    have h : head g snap ++ r = magic ++ (Sha.big g 8 ++ (frame snap ++ r)) := by simp [head, List.append_assoc]
    rw [h, List.drop_left' (by rfl), List.take_left' (Sha.big_length _ _)]
  have v : Sha.val (Sha.big g 8) = g := val_big_of (by
    have : (256 : Nat) ^ 8 = 18446744073709551616 := rfl
    omega)
  unfold counts
  rw [if_neg (by rw [e1]; simp [head_length]; omega), e2, v, hw, if_neg (by simp; omega)]
theorem counts_nil : counts [] = (0, [], 0) := rfl
theorem counts_part {g : Nat} {snap : List UInt8} {k : Nat} (hk : k < (head g snap).length) (hs : snap.length ≤ 524288) : counts ((head g snap).take k) = (0, [], 0) := by
  unfold counts
  rw [head_length] at hk
  split
  · rfl
  · rename_i h
    have h12 : ¬ (k < 12) := fun h2 => h (.inl (by simp [head_length]; omega))
    rw [if_pos]
    left
    have e : (magic ++ Sha.big g 8).length = 12 := by simp [magic, Sha.big_length]
    have h := whole_none (a := magic ++ Sha.big g 8) (s := snap) (most := 524288) (k := k - 12) (by rw [frame_length]; omega) (by omega)
    rw [e] at h
    have e2 : (head g snap).take k = (magic ++ Sha.big g 8) ++ (frame snap).take (k - 12) := by
      rw [head, List.take_append, e, List.take_of_length_le (by omega)]
    rw [e2, h]
theorem reads_frames (rs : List (List UInt8)) (h : Short rs) (a x : List UInt8) (k n : Nat) (hx : x.length ≤ 65536) (hk : k < (frame x).length) (hn : rs.length < n) :
    reads (a ++ (frames rs ++ (frame x).take k)) n a.length = (rs, a.length + (frames rs).length) := by
  induction rs generalizing a n with
  | nil =>
    obtain ⟨n, rfl⟩ : ∃ m, n = m + 1 := ⟨n - 1, by simp at hn; omega⟩
    have := whole_none (a := a) (s := x) (most := 65536) hk (by omega)
    simp only [frames_nil, List.nil_append, reads, this]
    simp
  | cons s rs ih =>
    obtain ⟨n, rfl⟩ : ∃ m, n = m + 1 := ⟨n - 1, by simp at hn; omega⟩
    have hs := h s (by simp)
    have hw := whole_frame (a := a) (s := s) (r := frames rs ++ (frame x).take k) (most := 65536) hs (by omega)
    have hr := ih (fun s hs => h s (by simp [hs])) (a ++ frame s) n (by simp at hn; omega)
    have e : a ++ (frames (s :: rs) ++ (frame x).take k) = a ++ (frame s ++ (frames rs ++ (frame x).take k)) := by rw [frames_cons, List.append_assoc]
    rw [e, reads, hw]
    simp only [if_true]
    have e2 : a.length + 8 + s.length = (a ++ frame s).length := by simp [frame_length]; omega
    rw [e2]
    rw [show a ++ (frame s ++ (frames rs ++ (frame x).take k)) = (a ++ frame s) ++ (frames rs ++ (frame x).take k) by simp [List.append_assoc], hr]
    simp [frames_cons]; omega
theorem frames_length_le (rs : List (List UInt8)) : rs.length * 8 ≤ (frames rs).length := by
  induction rs with
  | nil => simp
  | cons s rs ih => rw [frames_cons, List.length_append, frame_length, List.length_cons]; omega
theorem recs_frames (rs : List (List UInt8)) (h : Short rs) (a x : List UInt8) (k : Nat) (hx : x.length ≤ 65536) (hk : k < (frame x).length) :
    recs (a ++ (frames rs ++ (frame x).take k)) a.length = (rs, a.length + (frames rs).length) := by
  refine reads_frames rs h a x k _ hx hk ?_
  have := frames_length_le rs
  simp only [List.length_append]; omega

/-- A disk without unsafe bytes, on which a log stands, perhaps with something behind it or beside it that does not count. -/
structure Sits (d : DS) (f : Bool) (g : Nat) (snap : List UInt8) (rs : List (List UInt8)) : Prop where
  u : d.u = []
  g1 : 1 ≤ g
  g2 : g ≤ 4611686018427387904
  sl : snap.length ≤ 524288
  short : Short rs
  file : ∃ x k, x.length ≤ 65536 ∧ k < (frame x).length ∧ d.base f = head g snap ++ (frames rs ++ (frame x).take k)
  other : (counts (d.base (!f))).1 < g
theorem file_base {d : DS} (h : d.u = []) (f : Bool) : d.file f = d.base f := by simp [DS.file, h, DS.of]
theorem Sits.best {d : DS} {f : Bool} {g : Nat} {snap : List UInt8} {rs : List (List UInt8)} (h : Sits d f g snap rs) : best d = f := by
  obtain ⟨x, k, _, _, hf⟩ := h.file
  have h1 : (counts (d.base f)).1 = g := by rw [hf, counts_head h.g2 h.sl]
  have h2 := h.other
  unfold Wal.best
  rw [file_base h.u, file_base h.u]
  cases f
  · simp only [Bool.not_false] at h2; rw [h1]; simp; omega
  · simp only [Bool.not_true] at h2; rw [h1]; simp; omega
theorem Sits.shown {d : DS} {f : Bool} {g : Nat} {snap : List UInt8} {rs : List (List UInt8)} (h : Sits d f g snap rs) : shown d = (g, snap, 20 + snap.length) ∧ shownRecs d = (rs, 20 + snap.length + (frames rs).length) := by
  obtain ⟨x, k, hx, hk, hf⟩ := h.file
  have e : Wal.shown d = (g, snap, 20 + snap.length) := by rw [Wal.shown, h.best, file_base h.u, hf, counts_head h.g2 h.sl]
  refine ⟨e, ?_⟩
  rw [shownRecs, e, h.best, file_base h.u, hf]
  have := recs_frames rs h.short (head g snap) x k hx hk
  rwa [head_length] at this
/-- All is safe, nothing stands behind the log or beside it. -/
structure Clean (d : DS) (f : Bool) (g : Nat) (snap : List UInt8) (rs : List (List UInt8)) : Prop where
  u : d.u = []
  g1 : 1 ≤ g
  g2 : g ≤ 4611686018427387904
  sl : snap.length ≤ 524288
  short : Short rs
  file : d.base f = head g snap ++ frames rs
  other : d.base (!f) = []
theorem Clean.sits {d : DS} {f : Bool} {g : Nat} {snap : List UInt8} {rs : List (List UInt8)} (h : Clean d f g snap rs) : Sits d f g snap rs :=
  ⟨h.u, h.g1, h.g2, h.sl, h.short, ⟨[], 0, by simp, by simp [frame_length], by simp [h.file]⟩, by rw [h.other, counts_nil]; exact h.g1⟩
theorem die_nil {d : DS} (h : d.u = []) (k : Nat) : (d.die k).base false = d.base false ∧ (d.die k).base true = d.base true ∧ (d.die k).u = [] := by
  simp [DS.die, DS.base, DS.left, h, DS.of]
theorem die_base {d : DS} (h : d.u = []) (k : Nat) (f : Bool) : (d.die k).base f = d.base f := by
  cases f
  · exact (die_nil h k).1
  · exact (die_nil h k).2.1
theorem Sits.same {d d' : DS} {f : Bool} {g : Nat} {snap : List UInt8} {rs : List (List UInt8)} (h : Sits d f g snap rs) (hu : d'.u = []) (hb : ∀ f, d'.base f = d.base f) : Sits d' f g snap rs := by
  obtain ⟨x, k, hx, hk, hf⟩ := h.file
  exact ⟨hu, h.g1, h.g2, h.sl, h.short, ⟨x, k, hx, hk, by rw [hb, hf]⟩, by rw [hb]; exact h.other⟩
theorem Sits.revive {d : DS} {f : Bool} {g : Nat} {snap : List UInt8} {rs : List (List UInt8)} (h : Sits d f g snap rs) : Sits d.revive f g snap rs := h.same h.u (fun f => by cases f <;> rfl)
/-- A cut of a file without unsafe bytes: it is done, or the power goes and nothing has changed. -/
theorem cut_cases {d : DS} (hu : d.u = []) (hd : d.dead = false) {f : Bool} {p : Nat} (hp : p ≤ (d.base f).length) :
    (d.goes = false ∧ d.cut (DS.fi f) p = (d.tick.short f p, 0)) ∨ (d.goes = true ∧ d.cut (DS.fi f) p = (d.tick.die d.keep, 2)) := by
  unfold DS.cut
  rw [if_neg (by simp [hd]), DS.fileNo_of]
  have hs : d.size f = (d.base f).length := by simp [DS.size, file_base hu]
  simp only
  rw [if_neg (by rw [hs, hu]; simp [DS.of]; omega)]
  cases hg : d.goes
  · left; simp
  · right; simp
theorem short_base (d : DS) (f : Bool) (p : Nat) : (d.short f p).base f = (d.base f).take p ∧ (d.short f p).base (!f) = d.base (!f) ∧ (d.short f p).u = d.u ∧ (d.short f p).dead = d.dead ∧ (d.short f p).armed = d.armed := by
  cases f <;> simp [DS.short, DS.base]
theorem goes_armed {d : DS} (h : d.armed = 0) : d.goes = false := (DS.goes_zero h).1
theorem goes_true {d : DS} (h : d.goes = true) : d.armed ≠ 0 := by intro h0; rw [goes_armed h0] at h; cases h
end Wal
end Go.Proofs.Ytpjpknndfhablaa
