/- The log of chapter 10 as plain Lean: frames, files that count, what a log does to a disk. No program in sight. -/
import Derived.Test.YtpjpknndfhablaaCrcM
import Derived.Test.YtpjpknndfhablaaDiskM
namespace Go.Proofs.Ytpjpknndfhablaa
namespace Wal
def crc (s : List UInt8) : Nat := (Crc.sum s).toNat
def frame (s : List UInt8) : List UInt8 := Sha.big s.length 4 ++ Sha.big (crc s) 4 ++ s
def magic : List UInt8 := [83, 78, 76, 49]
def head (g : Nat) (snap : List UInt8) : List UInt8 := magic ++ Sha.big g 8 ++ frame snap
/-- The frame that stands at a place, of at most so many bytes. -/
def whole (file : List UInt8) (p most : Nat) : List UInt8 × Bool :=
  if file.length < p + 8 then ([], false) else
  if most < Sha.val ((file.drop p).take 4) ∨ file.length - p - 8 < Sha.val ((file.drop p).take 4) then ([], false) else
  ((file.drop (p + 8)).take (Sha.val ((file.drop p).take 4)), crc ((file.drop (p + 8)).take (Sha.val ((file.drop p).take 4))) == Sha.val ((file.drop (p + 4)).take 4))
/-- A file's generation, its snapshot, where its records begin; 0: it does not count. -/
def counts (file : List UInt8) : Nat × List UInt8 × Nat :=
  if file.length < 12 ∨ file.take 4 ≠ magic then (0, [], 0) else
  if (whole file 12 524288).2 = false ∨ 4611686018427387904 < Sha.val ((file.drop 4).take 8) then (0, [], 0) else
  (Sha.val ((file.drop 4).take 8), (whole file 12 524288).1, 20 + (whole file 12 524288).1.length)
/-- The records from a place on, and where they end. -/
def reads (file : List UInt8) : Nat → Nat → List (List UInt8) × Nat
  | 0, p => ([], p)
  | k + 1, p => if (whole file p 65536).2 then ((whole file p 65536).1 :: (reads file k (p + 8 + (whole file p 65536).1.length)).1, (reads file k (p + 8 + (whole file p 65536).1.length)).2) else ([], p)
def recs (file : List UInt8) (p : Nat) : List (List UInt8) × Nat := reads file (file.length + 1 - p) p
/-- An open log: its file, its generation, how many records, is it dead? -/
structure LS where
  f : Bool := false
  g : Nat := 0
  n : Nat := 0
  dead : Bool := false
/-- Lay a file of a generation, and sync. -/
def lays (d : DS) (f : Bool) (g : Nat) (snap : List UInt8) : DS × Int :=
  if (d.append (DS.fi f) (head g snap)).2 ≠ 0 then d.append (DS.fi f) (head g snap) else (d.append (DS.fi f) (head g snap)).1.sync
def append (l : LS) (d : DS) (s : List UInt8) : LS × DS × Int :=
  if l.dead then (l, d, 2) else
  if 65536 < s.length then (l, d, 101) else
  if 1048576 < d.size l.f + 8 + s.length then (l, d, 102) else
  if (d.append (DS.fi l.f) (frame s)).2 ≠ 0 then ({ l with dead := true }, (d.append (DS.fi l.f) (frame s)).1, 2) else ({ l with n := l.n + 1 }, (d.append (DS.fi l.f) (frame s)).1, 0)
def sync (l : LS) (d : DS) : LS × DS × Int :=
  if l.dead then (l, d, 2) else
  if d.sync.2 ≠ 0 then ({ l with dead := true }, d.sync.1, 2) else (l, d.sync.1, 0)
def checkpoint (l : LS) (d : DS) (snap : List UInt8) : LS × DS × Int :=
  if l.dead then (l, d, 2) else
  if 524288 < snap.length then (l, d, 101) else
  if l.g = 4611686018427387904 then (l, d, 102) else
  if (lays d (!l.f) (l.g + 1) snap).2 ≠ 0 then ({ l with dead := true }, (lays d (!l.f) (l.g + 1) snap).1, 2) else
  if ((lays d (!l.f) (l.g + 1) snap).1.cut (DS.fi l.f) 0).2 ≠ 0 then ({ l with dead := true }, ((lays d (!l.f) (l.g + 1) snap).1.cut (DS.fi l.f) 0).1, 2) else
  ({ l with f := !l.f, g := l.g + 1, n := 0 }, ((lays d (!l.f) (l.g + 1) snap).1.cut (DS.fi l.f) 0).1, 0)
def room (l : LS) (d : DS) : Int := max (-1) (min 65536 (1048576 - d.size l.f - 8))
def new (d : DS) : Option LS × DS × Int :=
  if d.dead then (none, d, 2) else
  if 0 < d.size false + d.size true then (none, d, 100) else
  if (lays d false 1 []).2 ≠ 0 then (none, (lays d false 1 []).1, 2) else (some { f := false, g := 1, n := 0, dead := false }, (lays d false 1 []).1, 0)
/-- Which file counts more, and what stands in it. -/
def best (d : DS) : Bool := decide ((counts (d.file false)).1 < (counts (d.file true)).1)
def cutEnd (d : DS) (f : Bool) (p : Nat) : DS × Int := if p < (d.file f).length then d.cut (DS.fi f) p else (d, 0)
def cutOther (d : DS) (f : Bool) (other : List UInt8) : DS × Int := if other ≠ [] then d.cut (DS.fi f) 0 else (d, 0)
/-- The cuts of an opening. -/
def cuts (d : DS) (f : Bool) (p : Nat) : DS × Int :=
  if (cutEnd d f p).2 ≠ 0 then cutEnd d f p else cutOther (cutEnd d f p).1 (!f) (d.file (!f))
structure Opened where
  l : LS
  snap : List UInt8
  rs : List (List UInt8)
def shown (d : DS) : Nat × List UInt8 × Nat := counts (d.file (best d))
def shownRecs (d : DS) : List (List UInt8) × Nat := recs (d.file (best d)) (shown d).2.2
def open_ (d : DS) : Option Opened × DS × Int :=
  if d.dead then (none, d, 2) else
  if (shown d).1 = 0 then (none, d, 100) else
  if (cuts d (best d) (shownRecs d).2).2 ≠ 0 then (none, (cuts d (best d) (shownRecs d).2).1, 2) else
  (some ⟨{ f := best d, g := (shown d).1, n := (shownRecs d).1.length, dead := false }, (shown d).2.1, (shownRecs d).1⟩, (cuts d (best d) (shownRecs d).2).1, 0)

/-! Numbers as bytes. -/
theorem val_from (b : List UInt8) (n : Nat) : b.foldl (fun n x => n * 256 + x.toNat) n = n * 256 ^ b.length + Sha.val b := by
  induction b generalizing n with
  | nil => simp [Sha.val]
  | cons x b ih =>
    have h1 := ih (n * 256 + x.toNat)
    have h2 := ih (0 * 256 + x.toNat)
    simp only [Sha.val, List.foldl_cons, List.length_cons] at h1 h2 ⊢
    rw [h1, h2, Nat.pow_succ, Nat.add_mul, Nat.zero_mul, Nat.zero_add, Nat.mul_assoc, Nat.mul_comm 256 (256 ^ b.length)]; omega
theorem val_lt (l : List UInt8) : Sha.val l < 256 ^ l.length := by
  induction l with
  | nil => simp [Sha.val]
  | cons x l ih =>
    have h := val_from l x.toNat
    have e : Sha.val (x :: l) = l.foldl (fun n x => n * 256 + x.toNat) x.toNat := by simp [Sha.val]
    rw [e, h, List.length_cons, Nat.pow_succ]
    have hx := x.toNat_lt
    have : x.toNat * 256 ^ l.length ≤ 255 * 256 ^ l.length := Nat.mul_le_mul_right _ (by omega)
    omega
theorem val_big (n k : Nat) : Sha.val (Sha.big n k) = n % 256 ^ k := by
  induction k generalizing n with
  | zero => simp [Sha.big, Sha.val, Nat.mod_one]
  | succ k ih =>
    have h : Sha.val (Sha.big (n / 256) k ++ [UInt8.ofNat n]) = Sha.val (Sha.big (n / 256) k) * 256 + (UInt8.ofNat n).toNat := by simp [Sha.val]
    rw [Sha.big, h, ih, Nat.pow_succ, UInt8.toNat_ofNat']
    have h1 := Nat.div_add_mod n 256
    have h2 : n % (256 ^ k * 256) = n / 256 % 256 ^ k * 256 + n % 256 := by
      rw [Nat.mul_comm (256 ^ k) 256, Nat.mod_mul, Nat.mul_comm 256 (n / 256 % 256 ^ k)]; omega
    rw [h2]
theorem val_big_of {n k : Nat} (h : n < 256 ^ k) : Sha.val (Sha.big n k) = n := by rw [val_big, Nat.mod_eq_of_lt h]
theorem crc_lt (s : List UInt8) : crc s < 4294967296 := (Crc.sum s).isLt
theorem frame_length (s : List UInt8) : (frame s).length = 8 + s.length := by simp [frame, Sha.big_length]; omega
theorem head_length (g : Nat) (s : List UInt8) : (head g s).length = 20 + s.length := by simp [head, magic, frame_length, Sha.big_length]; omega
/-! A frame where one stands; none where only a beginning of one does. -/
theorem whole_frame {a s r : List UInt8} {most : Nat} (hs : s.length ≤ most) (h4 : s.length < 4294967296) : whole (a ++ (frame s ++ r)) a.length most = (s, true) := by
  have e1 : ((a ++ (frame s ++ r)).drop a.length).take 4 = Sha.big s.length 4 := by
    simp only [List.drop_left, frame, List.append_assoc]
    rw [List.take_left' (Sha.big_length _ _)]
  have e2 : ((a ++ (frame s ++ r)).drop (a.length + 4)).take 4 = Sha.big (crc s) 4 := by
    rw [← List.drop_drop, List.drop_left]
    simp only [frame, List.append_assoc]
    rw [List.drop_left' (Sha.big_length _ _), List.take_left' (Sha.big_length _ _)]
  have e3 : ((a ++ (frame s ++ r)).drop (a.length + 8)).take s.length = s := by
    rw [← List.drop_drop, List.drop_left]
    simp only [frame]
    rw [List.append_assoc, List.drop_left' (by simp [Sha.big_length])]
    simp
  have v1 : Sha.val (Sha.big s.length 4) = s.length := val_big_of (by simpa using h4)
  have v2 : Sha.val (Sha.big (crc s) 4) = crc s := val_big_of (by simpa using crc_lt s)
  unfold whole
  rw [e1, v1, e2, v2, e3, if_neg (by simp [frame_length]; omega), if_neg (by simp [frame_length]; omega)]
  simp
theorem whole_short {file : List UInt8} {p most : Nat} (h : file.length < p + 8) : whole file p most = ([], false) := by
  unfold whole; rw [if_pos h]
theorem whole_none {a s : List UInt8} {most k : Nat} (hk : k < (frame s).length) (h4 : s.length < 4294967296) : whole (a ++ (frame s).take k) a.length most = ([], false) := by
  rw [frame_length] at hk
  by_cases h8 : k < 8
  · refine whole_short ?_
    simp [frame_length]; omega
  · have e1 : ((a ++ (frame s).take k).drop a.length).take 4 = Sha.big s.length 4 := by
      rw [List.drop_left, List.take_take, Nat.min_eq_left (by omega), frame, List.append_assoc, List.take_left' (Sha.big_length _ _)]
    have v1 : Sha.val (Sha.big s.length 4) = s.length := val_big_of (by simpa using h4)
    unfold whole
    rw [e1, v1, if_neg (by simp [frame_length]; omega), if_pos]
    right
    simp [frame_length]; omega
end Wal
end Go.Proofs.Ytpjpknndfhablaa
