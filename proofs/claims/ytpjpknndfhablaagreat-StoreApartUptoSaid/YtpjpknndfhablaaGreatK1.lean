/- SHA-256 as plain Lean over words of 32 bits, HMAC and PBKDF2 by it. No program in sight. CRC-32 as plain Lean: as the program reckons it and as the document does; both are one. No program in sight. The disk of chapter 09 as plain Lean: what each call does to two files, unsafe bytes, what is armed. No program in sight. The log of chapter 10 as plain Lean: frames, files that count, what a log does to a disk. No program in sight. The store of chapter 11 as plain Lean: pairs by rising keys, changes, their bytes. No program in sight. Laws of the plain store: changes make of the first pairs the second ones; the bytes of changes are read as those changes. Laws of the plain store: the bytes of changes are read as those changes. The store of chapter 11 as plain Lean: an open store, a transaction, what calls do. No program in sight. -/
import GoSem.Op.String
namespace Go.Proofs.YtpjpknndfhablaaGreat

abbrev U32 := BitVec 32
namespace Sha
def ror (x : U32) (n : Nat) : U32 := x >>> n ||| x <<< (32 - n)
def s0 (x : U32) : U32 := ror x 7 ^^^ ror x 18 ^^^ x >>> 3
def s1 (x : U32) : U32 := ror x 17 ^^^ ror x 19 ^^^ x >>> 10
def e1 (x : U32) : U32 := ror x 6 ^^^ ror x 11 ^^^ ror x 25
def e0 (x : U32) : U32 := ror x 2 ^^^ ror x 13 ^^^ ror x 22
def ch (e f g : U32) : U32 := (e &&& f) ^^^ (~~~e &&& g)
def maj (a b c : U32) : U32 := (a &&& b) ^^^ (a &&& c) ^^^ (b &&& c)
/-- Bytes as a number, the highest first. -/
def val (l : List UInt8) : Nat := l.foldl (fun n b => n * 256 + b.toNat) 0
/-- A number as so many bytes, the highest first. -/
def big (n : Nat) : Nat → List UInt8
  | 0 => []
  | k + 1 => big (n / 256) k ++ [UInt8.ofNat n]
def word (bs : List UInt8) (k : Nat) : U32 := BitVec.ofNat 32 (val ((bs.drop (4 * k)).take 4))
def nextW (w : List U32) : U32 :=
  w.getD (w.length - 16) 0 + s0 (w.getD (w.length - 15) 0) + w.getD (w.length - 7) 0 + s1 (w.getD (w.length - 2) 0)
/-- The first k words of a block's schedule. -/
def sched (bs : List UInt8) : Nat → List U32
  | 0 => []
  | k + 1 => sched bs k ++ [if k < 16 then word bs k else nextW (sched bs k)]
structure St where
  a : U32
  b : U32
  c : U32
  d : U32
  e : U32
  f : U32
  g : U32
  h : U32
def tOf (v : St) (k w : U32) : U32 := v.h + e1 v.e + ch v.e v.f v.g + k + w
def uOf (v : St) : U32 := e0 v.a + maj v.a v.b v.c
def rnd (v : St) (k w : U32) : St := ⟨tOf v k w + uOf v, v.a, v.b, v.c, v.d + tOf v k w, v.e, v.f, v.g⟩
def rounds (s : St) (ks ws : List U32) : Nat → St
  | 0 => s
  | k + 1 => rnd (rounds s ks ws k) (ks.getD k 0) (ws.getD k 0)
def St.plus (v s : St) : St := ⟨v.a + s.a, v.b + s.b, v.c + s.c, v.d + s.d, v.e + s.e, v.f + s.f, v.g + s.g, v.h + s.h⟩
def block (ks : List U32) (s : St) (bs : List UInt8) : St := (rounds s ks (sched bs 64) 64).plus s
def St.list (s : St) : List U32 := [s.a, s.b, s.c, s.d, s.e, s.f, s.g, s.h]
def St.bytes (s : St) : List UInt8 := s.list.flatMap fun x => big x.toNat 4
/-- n blocks of bytes, one behind the other. -/
def blocks (ks : List U32) (s : St) : Nat → List UInt8 → St
  | 0, _ => s
  | n + 1, b => blocks ks (block ks s (b.take 64)) n (b.drop 64)
/-- How many bytes 0 stand behind the 128. -/
def gap (n : Nat) : Nat := (119 - n % 64) % 64
def pad (s : List UInt8) : List UInt8 := s ++ [128] ++ List.replicate (gap s.length) 0 ++ big (8 * s.length) 8
def K : List U32 := [0x428a2f98, 0x71374491, 0xb5c0fbcf, 0xe9b5dba5, 0x3956c25b, 0x59f111f1, 0x923f82a4, 0xab1c5ed5, 0xd807aa98, 0x12835b01, 0x243185be, 0x550c7dc3, 0x72be5d74, 0x80deb1fe, 0x9bdc06a7, 0xc19bf174, 0xe49b69c1, 0xefbe4786, 0x0fc19dc6, 0x240ca1cc, 0x2de92c6f, 0x4a7484aa, 0x5cb0a9dc, 0x76f988da, 0x983e5152, 0xa831c66d, 0xb00327c8, 0xbf597fc7, 0xc6e00bf3, 0xd5a79147, 0x06ca6351, 0x14292967, 0x27b70a85, 0x2e1b2138, 0x4d2c6dfc, 0x53380d13, 0x650a7354, 0x766a0abb, 0x81c2c92e, 0x92722c85, 0xa2bfe8a1, 0xa81a664b, 0xc24b8b70, 0xc76c51a3, 0xd192e819, 0xd6990624, 0xf40e3585, 0x106aa070, 0x19a4c116, 0x1e376c08, 0x2748774c, 0x34b0bcb5, 0x391c0cb3, 0x4ed8aa4a, 0x5b9cca4f, 0x682e6ff3, 0x748f82ee, 0x78a5636f, 0x84c87814, 0x8cc70208, 0x90befffa, 0xa4506ceb, 0xbef9a3f7, 0xc67178f2]
def start : St := ⟨0x6a09e667, 0xbb67ae85, 0x3c6ef372, 0xa54ff53a, 0x510e527f, 0x9b05688c, 0x1f83d9ab, 0x5be0cd19⟩
def sum (s : List UInt8) : List UInt8 := (blocks K start ((pad s).length / 64) (pad s)).bytes
def padded (key : List UInt8) (x : UInt8) : List UInt8 :=
  let k := if key.length > 64 then sum key else key
  (k ++ List.replicate (64 - k.length) 0).map (· ^^^ x)
def mac (key s : List UInt8) : List UInt8 := sum (padded key 92 ++ sum (padded key 54 ++ s))
/-- Round by round: the last mac, and all of them so far together. -/
def iter (pass : List UInt8) : Nat → List UInt8 × List UInt8 → List UInt8 × List UInt8
  | 0, p => p
  | n + 1, p => iter pass n (mac pass p.1, List.zipWith (· ^^^ ·) p.2 (mac pass p.1))
def chunk (pass salt : List UInt8) (rounds j : Nat) : List UInt8 :=
  let u := mac pass (salt ++ big j 4)
  (iter pass (rounds - 1) (u, u)).2
def stretch (pass salt : List UInt8) (rounds n : Int) : List UInt8 × Int :=
  if rounds < 1 ∨ rounds > 64 then ([], 40) else if n < 1 ∨ n > 96 then ([], 41) else
    ((chunk pass salt rounds.toNat 1 ++ chunk pass salt rounds.toNat 2 ++ chunk pass salt rounds.toNat 3).take n.toNat, 0)

theorem big_length (n k : Nat) : (big n k).length = k := by
  induction k generalizing n with
  | zero => rfl
  | succ k ih => simp [big, ih]
theorem sched_length (bs : List UInt8) (k : Nat) : (sched bs k).length = k := by
  induction k with
  | zero => rfl
  | succ k ih => simp [sched, ih]
theorem St.bytes_length (s : St) : s.bytes.length = 32 := by simp [St.bytes, St.list, big_length]
theorem sum_length (s : List UInt8) : (sum s).length = 32 := St.bytes_length _
theorem mac_length (k s : List UInt8) : (mac k s).length = 32 := sum_length _
theorem pad_length (s : List UInt8) : (pad s).length = s.length + 9 + gap s.length := by simp [pad, big_length]; omega
theorem pad_mod (s : List UInt8) : (pad s).length % 64 = 0 := by rw [pad_length]; unfold gap; omega
theorem padded_length (key : List UInt8) (x : UInt8) : (padded key x).length = 64 := by
  simp only [padded, List.length_map, List.length_append, List.length_replicate]
  split
  · rw [sum_length]
  · omega
end Sha
end Go.Proofs.YtpjpknndfhablaaGreat
namespace Go.Proofs.YtpjpknndfhablaaGreat
namespace Crc
def poly : U32 := 0xEDB88320
/-- One bit, the byte mixed in before. -/
def step (r : U32) : U32 := if r &&& 1 = 1 then r >>> 1 ^^^ poly else r >>> 1
def steps : Nat → U32 → U32
  | 0, r => r
  | k + 1, r => step (steps k r)
/-- One bit, mixed in bit by bit: the document's. -/
def bit (r : U32) (b : Bool) : U32 := if (r.getLsbD 0 != b) then r >>> 1 ^^^ poly else r >>> 1
def bits (x : UInt8) : Nat → U32 → U32
  | 0, r => r
  | k + 1, r => bit (bits x k r) (x.toNat.testBit k)
def byte (r : U32) (x : UInt8) : U32 := steps 8 (r ^^^ BitVec.ofNat 32 x.toNat)
def sum (s : List UInt8) : U32 := ~~~ (s.foldl byte 0xffffffff)
def rbyte (r : U32) (x : UInt8) : U32 := bits x 8 r
theorem and_one (r : U32) : (r &&& 1 = 1) ↔ r.getLsbD 0 = true := by
  constructor
  · intro h
    have : (r &&& 1).getLsbD 0 = (1 : U32).getLsbD 0 := by rw [h]
    simpa using this
  · intro h
    apply BitVec.eq_of_getLsbD_eq
    intro i hi
    rw [BitVec.getLsbD_and]
    cases i with
    | zero => rw [h]; rfl
    | succ i =>
      have : (1 : U32).getLsbD (i + 1) = false := by
        rw [show (1 : U32) = BitVec.ofNat 32 1 from rfl, BitVec.getLsbD_ofNat, Nat.testBit_succ]
        simp
      rw [this]; simp
theorem steps_bits (r : U32) (x : UInt8) (k : Nat) : steps k (r ^^^ BitVec.ofNat 32 x.toNat) = bits x k r ^^^ (BitVec.ofNat 32 x.toNat >>> k) := by
  induction k with
  | zero => simp [steps, bits]
  | succ k ih =>
    rw [steps, ih, bits]
    generalize bits x k r = q
    have hb : (BitVec.ofNat 32 x.toNat >>> k).getLsbD 0 = x.toNat.testBit k := by
      rw [BitVec.getLsbD_ushiftRight, BitVec.getLsbD_ofNat, Nat.add_zero]
      by_cases hk : k < 32
      · simp [hk]
      · have : x.toNat.testBit k = false := Nat.testBit_lt_two_pow (Nat.lt_of_lt_of_le x.toNat_lt (Nat.pow_le_pow_right (by decide) (by omega)))
        simp [this]
    have hs : (BitVec.ofNat 32 x.toNat) >>> (k + 1) = (BitVec.ofNat 32 x.toNat >>> k) >>> 1 := by rw [← BitVec.shiftRight_add]
    rw [hs]
    generalize BitVec.ofNat 32 x.toNat >>> k = y at hb ⊢
    unfold step bit
    simp only [and_one, BitVec.getLsbD_xor, hb, BitVec.ushiftRight_xor_distrib]
    split
    · rw [BitVec.xor_assoc, BitVec.xor_comm (y >>> 1), ← BitVec.xor_assoc]
    · rfl
theorem byte_eq : byte = rbyte := by
  funext r x
  rw [byte, steps_bits, rbyte]
  have : BitVec.ofNat 32 x.toNat >>> 8 = 0 := by
    apply BitVec.eq_of_toNat_eq
    have := x.toNat_lt
    simp [BitVec.toNat_ushiftRight, Nat.shiftRight_eq_div_pow]
    omega
  rw [this]; simp
theorem sum_check : sum [49, 50, 51, 52, 53, 54, 55, 56, 57] = 0xCBF43926 := by decide +kernel
end Crc
end Go.Proofs.YtpjpknndfhablaaGreat
namespace Go.Proofs.YtpjpknndfhablaaGreat

/-- The state of a disk: safe bytes of both files; unsafe ones, in order (false: file 0); what is armed; what is kept; is the power gone? -/
structure DS where
  a : List UInt8 := []
  b : List UInt8 := []
  u : List (Bool × UInt8) := []
  armed : Nat := 0
  keep : Nat := 0
  dead : Bool := false

namespace DS
def fi (f : Bool) : Int := if f then 1 else 0
def of (f : Bool) (u : List (Bool × UInt8)) : List UInt8 := (u.filter (·.1 == f)).map (·.2)
def base (d : DS) (f : Bool) : List UInt8 := if f then d.b else d.a
def left (d : DS) (k : Nat) (f : Bool) : List UInt8 := d.base f ++ of f (d.u.take k)
def file (d : DS) (f : Bool) : List UInt8 := d.base f ++ of f d.u
def size (d : DS) (f : Bool) : Nat := (d.file f).length
def die (d : DS) (k : Nat) : DS := { a := d.left k false, b := d.left k true, u := [], armed := 0, keep := d.keep, dead := true }
/-- A change is counted. -/
def tick (d : DS) : DS := { d with armed := d.armed - 1 }
def goes (d : DS) : Bool := d.armed == 1
def lay (d : DS) (f : Bool) (s : List UInt8) : DS := { d with u := d.u ++ s.map (f, ·) }
def saved (d : DS) : DS := { d with a := d.file false, b := d.file true, u := [] }
def fileNo (f : Int) : Option Bool := if f = 0 then some false else if f = 1 then some true else none
def append (d : DS) (f : Int) (s : List UInt8) : DS × Int :=
  if d.dead then (d, 2) else
  match fileNo f with
  | none => (d, 90)
  | some f => if d.size f + s.length > 1048576 then (d, 91) else
    if d.goes then ((d.tick.lay f s).die d.keep, 2) else (d.tick.lay f s, 0)
def sync (d : DS) : DS × Int :=
  if d.dead then (d, 2) else if d.goes then (d.tick.die d.keep, 2) else (d.tick.saved, 0)
def short (d : DS) (f : Bool) (n : Nat) : DS := if f then { d with b := d.b.take n } else { d with a := d.a.take n }
def cut (d : DS) (f n : Int) : DS × Int :=
  if d.dead then (d, 2) else
  match fileNo f with
  | none => (d, 90)
  | some f => if n < 0 ∨ n > d.size f ∨ of f d.u ≠ [] then (d, 92) else
    if d.goes then (d.tick.die d.keep, 2) else (d.tick.short f n.toNat, 0)
def arm (d : DS) (n k : Int) : DS × Int :=
  if d.dead then (d, 2) else if n < 0 ∨ k < 0 then (d, 1) else ({ d with armed := n.toNat, keep := k.toNat }, 0)
def crash (d : DS) (k : Int) : DS × Int :=
  if d.dead then (d, 2) else if k < 0 then (d, 1) else (d.die k.toNat, 0)
def revive (d : DS) : DS := { d with dead := false, armed := 0 }
def read (d : DS) (f : Int) : List UInt8 × Int :=
  if d.dead then ([], 2) else match fileNo f with | none => ([], 90) | some f => (d.file f, 0)
def sizeI (d : DS) (f : Int) : Int := match fileNo f with | none => -1 | some f => d.size f
/-- What every disk keeps: no file is too long; numbers are ints. -/
structure Ok (d : DS) : Prop where
  s0 : d.size false ≤ 1048576
  s1 : d.size true ≤ 1048576
  armed : d.armed ≤ 9223372036854775807
  keep : d.keep ≤ 9223372036854775807

theorem of_append (f : Bool) (u v : List (Bool × UInt8)) : of f (u ++ v) = of f u ++ of f v := by simp [of]
theorem of_map_same (f : Bool) (s : List UInt8) : of f (s.map (f, ·)) = s := by simp [of, List.filter_map, Function.comp_def]
theorem of_map_other (f g : Bool) (s : List UInt8) (h : g ≠ f) : of f (s.map (g, ·)) = [] := by simp [of, h]
theorem of_take_length_le (f : Bool) (u : List (Bool × UInt8)) (k : Nat) : (of f (u.take k)).length ≤ (of f u).length := by
  simp only [of, List.length_map]; exact ((List.take_sublist k u).filter _).length_le
theorem of_length (u : List (Bool × UInt8)) : (of false u).length + (of true u).length = u.length := by
  induction u with
  | nil => rfl
  | cons x u ih => obtain ⟨f, b⟩ := x; cases f <;> simp [of] at ih ⊢ <;> omega
theorem fileNo_of (f : Bool) : fileNo (fi f) = some f := by cases f <;> rfl
theorem fileNo_none {f : Int} (h : ¬ (f = 0 ∨ f = 1)) : fileNo f = none := by unfold fileNo; rw [if_neg (by omega), if_neg (by omega)]
theorem fileNo_zero : fileNo 0 = some false := rfl
theorem fileNo_one : fileNo 1 = some true := rfl

theorem size_lay (d : DS) (f g : Bool) (s : List UInt8) : (d.lay f s).size g = d.size g + if f = g then s.length else 0 := by
  simp only [size, file, lay, base, of_append]
  by_cases h : f = g
  · subst h; simp [of_map_same]; omega
  · simp [of_map_other g f s h, h]
theorem size_die_le (d : DS) (k : Nat) (f : Bool) : (d.die k).size f ≤ d.size f := by
  have := of_take_length_le f d.u k
  cases f <;> simp [size, file, die, base, left, of] at this ⊢ <;> omega
theorem size_tick (d : DS) (f : Bool) : d.tick.size f = d.size f := rfl
theorem size_saved (d : DS) (f : Bool) : d.saved.size f = d.size f := by cases f <;> simp [size, file, saved, base, of]
theorem die_tick (d : DS) (k : Nat) : d.tick.die k = d.die k := rfl

/-! The unsafe bytes as rows: how the program keeps them. -/
def flat (r : List (Bool × List UInt8)) : List (Bool × UInt8) := r.flatMap fun x => x.2.map (x.1, ·)
theorem flat_append (r s : List (Bool × List UInt8)) : flat (r ++ s) = flat r ++ flat s := by simp [flat]
theorem flat_one (f : Bool) (s : List UInt8) : flat [(f, s)] = s.map (f, ·) := by simp [flat]
theorem flat_take_succ {r : List (Bool × List UInt8)} {j : Nat} {f : Bool} {s : List UInt8} (h : r[j]? = some (f, s)) : flat (r.take (j + 1)) = flat (r.take j) ++ s.map (f, ·) := by
  rw [List.take_add_one, flat_append, h]; simp [flat]
theorem flat_take_le (r : List (Bool × List UInt8)) (j : Nat) : (flat (r.take j)).length ≤ (flat r).length := by
  conv => rhs; rw [← List.take_append_drop j r, flat_append]
  simp

/-- What stands in the loop of 'left' behind j rows: what k has become, and both files. -/
structure LeftRel (d : DS) (r : List (Bool × List UInt8)) (k : Int) (j : Nat) (kk : Int) (t0 t1 : List UInt8) : Prop where
  kk : kk = k - (((flat (r.take j)).take k.toNat).length : Int)
  t0 : t0 = d.base false ++ of false ((flat (r.take j)).take k.toNat)
  t1 : t1 = d.base true ++ of true ((flat (r.take j)).take k.toNat)
theorem LeftRel.zero (d : DS) (r : List (Bool × List UInt8)) (k : Int) : LeftRel d r k 0 k (d.base false) (d.base true) := by
  constructor <;> simp [flat, of]
theorem LeftRel.step {d : DS} {r : List (Bool × List UInt8)} {k : Int} {j : Nat} {kk : Int} {t0 t1 : List UInt8} (h : LeftRel d r k j kk t0 t1) {f : Bool} {s : List UInt8} (hj : r[j]? = some (f, s)) {m : Nat} (hm : (m : Int) = min (max 0 kk) s.length) :
    LeftRel d r k (j + 1) (kk - m) (t0 ++ if f then [] else s.take m) (t1 ++ if f then s.take m else []) := by
  obtain ⟨h1, h2, h3⟩ := h
  have e : (flat (r.take (j + 1))).take k.toNat = (flat (r.take j)).take k.toNat ++ (s.take m).map (f, ·) := by
    rw [flat_take_succ hj, List.take_append, List.map_take]
    congr 1
    have hl : ((flat (r.take j)).take k.toNat).length = min k.toNat (flat (r.take j)).length := List.length_take
    rw [hl] at h1
    by_cases hs : k.toNat - (flat (r.take j)).length ≤ s.length
    · congr 1; omega
    · rw [List.take_of_length_le (by simp; omega), List.take_of_length_le (by simp; omega)]
  have hm' : m ≤ s.length := by omega
  have ho : ∀ g : Bool, of g ((s.take m).map (f, ·)) = if f = g then s.take m else [] := fun g => by
    by_cases h : f = g
    · subst h; simpa using of_map_same f (s.take m)
    · simpa [h] using of_map_other g f (s.take m) h
  constructor
  · rw [e, List.length_append, List.length_map]; have := List.length_take (i := m) (l := s); omega
  · rw [e, of_append, h2, ho]; cases f <;> simp
  · rw [e, of_append, h3, ho]; cases f <;> simp
theorem LeftRel.done {d : DS} {r : List (Bool × List UInt8)} {k : Int} {kk : Int} {t0 t1 : List UInt8} (h : LeftRel d r k r.length kk t0 t1) (hu : flat r = d.u) : t0 = d.left k.toNat false ∧ t1 = d.left k.toNat true := by
  obtain ⟨_, h2, h3⟩ := h
  rw [List.take_length, hu] at h2 h3
  exact ⟨h2, h3⟩
theorem LeftRel.len {d : DS} {r : List (Bool × List UInt8)} {k : Int} {j : Nat} {kk : Int} {t0 t1 : List UInt8} (h : LeftRel d r k j kk t0 t1) (hu : flat r = d.u) (hok : d.Ok) : t0.length ≤ 1048576 ∧ t1.length ≤ 1048576 := by
  obtain ⟨_, h2, h3⟩ := h
  have hs : List.Sublist ((flat (r.take j)).take k.toNat) (flat r) := by
    refine (List.take_sublist _ _).trans ?_
    conv => rhs; rw [← List.take_append_drop j r, flat_append]
    exact List.sublist_append_left _ _
  have hl : ∀ f, (of f ((flat (r.take j)).take k.toNat)).length ≤ (of f d.u).length := fun f => by
    simp only [of, List.length_map]; rw [← hu]; exact (hs.filter _).length_le
  have h0 := hl false; have h1 := hl true
  have s0 := hok.s0; have s1 := hok.s1
  simp only [size, file, List.length_append] at s0 s1
  rw [h2, h3]; simp only [List.length_append]; omega
theorem Ok.u_len {d : DS} (hok : d.Ok) : d.u.length ≤ 2097152 := by
  have s0 := hok.s0; have s1 := hok.s1; have := of_length d.u
  simp only [size, file, List.length_append] at s0 s1; omega
theorem row_len {d : DS} {r : List (Bool × List UInt8)} (hu : flat r = d.u) (hok : d.Ok) {j : Nat} {f : Bool} {s : List UInt8} (hj : r[j]? = some (f, s)) : s.length ≤ 2097152 := by
  have h1 := hok.u_len
  have h2 := flat_take_le r (j + 1)
  rw [flat_take_succ hj, List.length_append, List.length_map, hu] at h2
  omega
/-- What stands in the loop of 'Size' behind j rows. -/
theorem count_zero (f : Bool) (r : List (Bool × List UInt8)) : (of f (flat (r.take 0))).length = 0 := by simp [flat, of]
theorem count_same {r : List (Bool × List UInt8)} {j : Nat} {f : Bool} {s : List UInt8} (h : r[j]? = some (f, s)) : (of f (flat (r.take (j + 1)))).length = (of f (flat (r.take j))).length + s.length := by
  rw [flat_take_succ h, of_append, of_map_same, List.length_append]
theorem count_other {r : List (Bool × List UInt8)} {j : Nat} {f g : Bool} {s : List UInt8} (h : r[j]? = some (g, s)) (hg : g ≠ f) : (of f (flat (r.take (j + 1)))).length = (of f (flat (r.take j))).length := by
  rw [flat_take_succ h, of_append, of_map_other f g s hg, List.append_nil]
theorem count_le {r : List (Bool × List UInt8)} (j : Nat) (f : Bool) : (of f (flat (r.take j))).length ≤ (of f (flat r)).length := by
  conv => rhs; rw [← List.take_append_drop j r, flat_append, of_append]
  simp
theorem base_len (d : DS) (f : Bool) (h : d.Ok) : (d.base f).length + (of f d.u).length ≤ 1048576 := by
  have s0 := h.s0; have s1 := h.s1
  simp only [size, file, List.length_append] at s0 s1
  cases f
  · exact s0
  · exact s1
theorem flat_len_succ {r : List (Bool × List UInt8)} {j : Nat} {f : Bool} {s : List UInt8} (h : r[j]? = some (f, s)) : (flat (r.take (j + 1))).length = (flat (r.take j)).length + s.length := by
  rw [flat_take_succ h]; simp
theorem sizeI_of (d : DS) (f : Bool) : d.sizeI (fi f) = (d.base f).length + (of f d.u).length := by
  simp [sizeI, fileNo_of, size, file]
theorem left_all (d : DS) (f : Bool) : d.left d.u.length f = d.file f := by simp [left, file]
theorem fi_of {f : Int} (h : f = 0 ∨ f = 1) : ∃ q : Bool, f = fi q := by
  rcases h with rfl | rfl
  · exact ⟨false, rfl⟩
  · exact ⟨true, rfl⟩
theorem goes_zero {d : DS} (h : d.armed = 0) : d.goes = false ∧ d.tick = d := by
  obtain ⟨a, b, u, n, k, dd⟩ := d
  simp only at h; subst h
  exact ⟨rfl, rfl⟩
theorem goes_pos {d : DS} (_h : 0 < d.armed) : ((d.armed : Int) - 1 == 0) = d.goes := by
  unfold goes
  by_cases h1 : d.armed = 1
  · simp [h1]
  · have h2 : ((d.armed : Int) - 1 == 0) = false := by simp; omega
    have h3 : (d.armed == 1) = false := by simp [h1]
    rw [h2, h3]
theorem tick_cast {d : DS} (h : 0 < d.armed) : ((d.tick.armed : Nat) : Int) = (d.armed : Int) - 1 := by simp only [tick]; omega
theorem Ok.tick {d : DS} (h : d.Ok) : d.tick.Ok := ⟨h.s0, h.s1, by have := h.armed; simp only [DS.tick]; omega, h.keep⟩
theorem Ok.die {d : DS} (h : d.Ok) (k : Nat) : (d.die k).Ok :=
  ⟨Nat.le_trans (size_die_le d k false) h.s0, Nat.le_trans (size_die_le d k true) h.s1, by simp [DS.die], h.keep⟩
theorem Ok.lay {d : DS} (h : d.Ok) (f : Bool) (s : List UInt8) (hs : d.size f + s.length ≤ 1048576) : (d.lay f s).Ok := by
  constructor
  · rw [size_lay]; have := h.s0; cases f <;> simp <;> omega
  · rw [size_lay]; have := h.s1; cases f <;> simp <;> omega
  · exact h.armed
  · exact h.keep
theorem Ok.saved {d : DS} (h : d.Ok) : d.saved.Ok := ⟨by rw [size_saved]; exact h.s0, by rw [size_saved]; exact h.s1, h.armed, h.keep⟩
theorem Ok.short {d : DS} (h : d.Ok) (f : Bool) (n : Nat) : (d.short f n).Ok := by
  have s0 := h.s0; have s1 := h.s1
  cases f
  all_goals constructor
  all_goals first
    | exact h.armed
    | exact h.keep
    | (simp [size, file, base, DS.short] at s0 s1 ⊢; omega)
theorem Ok.revive {d : DS} (h : d.Ok) : d.revive.Ok := ⟨h.s0, h.s1, by simp [DS.revive], h.keep⟩
theorem Ok.arm {d : DS} (h : d.Ok) {n k : Int} (hn : n ≤ 9223372036854775807) (hk : k ≤ 9223372036854775807) : (d.arm n k).1.Ok := by
  unfold DS.arm
  split
  · exact h
  · split
    · exact h
    · exact ⟨h.s0, h.s1, by simp; omega, by simp; omega⟩
theorem Ok.crash {d : DS} (h : d.Ok) (k : Int) : (d.crash k).1.Ok := by
  unfold DS.crash
  split
  · exact h
  · split
    · exact h
    · exact h.die _
theorem Ok.sync {d : DS} (h : d.Ok) : d.sync.1.Ok := by
  unfold DS.sync
  split
  · exact h
  · split
    · exact h.tick.die _
    · exact h.tick.saved
theorem Ok.append {d : DS} (h : d.Ok) (f : Int) (s : List UInt8) : (d.append f s).1.Ok := by
  unfold DS.append
  split
  · exact h
  · split
    · exact h
    · split
      · exact h
      · have := h.tick.lay _ s (by rw [size_tick]; exact Nat.le_of_not_lt ‹_›)
        split
        · exact this.die _
        · exact this
theorem Ok.cut {d : DS} (h : d.Ok) (f n : Int) : (d.cut f n).1.Ok := by
  unfold DS.cut
  split
  · exact h
  · split
    · exact h
    · split
      · exact h
      · split
        · exact h.tick.die _
        · exact h.tick.short _ _
theorem Ok.base_len' {d : DS} (h : d.Ok) (f : Bool) : d.size f ≤ 1048576 := by
  cases f
  · exact h.s0
  · exact h.s1
end DS
end Go.Proofs.YtpjpknndfhablaaGreat
namespace Go.Proofs.YtpjpknndfhablaaGreat
namespace Wal
def crc (s : List UInt8) : Nat := (Crc.sum s).toNat
def frame (s : List UInt8) : List UInt8 := Sha.big s.length 4 ++ Sha.big (crc s) 4 ++ s
def magic : List UInt8 := [83, 78, 76, 49]
def head (g : Nat) (snap : List UInt8) : List UInt8 := magic ++ Sha.big g 8 ++ frame snap
/-- The frame that stands at a place, of at most so many bytes. -/
def whole (file : List UInt8) (p most : Nat) : List UInt8 × Bool :=
  if file.length < p + 8 then ([], false) else
  if most < Sha.val ((file.drop p).take 4) ∨ file.length - p - 8 < Sha.val ((file.drop p).take 4) then ([], false) else
  ((file.drop (p + 8)).take (Sha.val ((file.drop p).take 4)), crc ((file.drop (p + 8)).take (Sha.val ((file.drop p).take 4))) == Sha.val ((file.drop (p + 4)).take 4))
/-- A file's generation, its snapshot, where its records begin; 0: it does not count. -/
def counts (file : List UInt8) : Nat × List UInt8 × Nat :=
  if file.length < 12 ∨ file.take 4 ≠ magic then (0, [], 0) else
  if (whole file 12 524288).2 = false ∨ 4611686018427387904 < Sha.val ((file.drop 4).take 8) then (0, [], 0) else
  (Sha.val ((file.drop 4).take 8), (whole file 12 524288).1, 20 + (whole file 12 524288).1.length)
/-- The records from a place on, and where they end. -/
def reads (file : List UInt8) : Nat → Nat → List (List UInt8) × Nat
  | 0, p => ([], p)
  | k + 1, p => if (whole file p 65536).2 then ((whole file p 65536).1 :: (reads file k (p + 8 + (whole file p 65536).1.length)).1, (reads file k (p + 8 + (whole file p 65536).1.length)).2) else ([], p)
def recs (file : List UInt8) (p : Nat) : List (List UInt8) × Nat := reads file (file.length + 1 - p) p
/-- An open log: its file, its generation, how many records, is it dead? -/
structure LS where
  f : Bool := false
  g : Nat := 0
  n : Nat := 0
  dead : Bool := false
/-- Lay a file of a generation, and sync. -/
def lays (d : DS) (f : Bool) (g : Nat) (snap : List UInt8) : DS × Int :=
  if (d.append (DS.fi f) (head g snap)).2 ≠ 0 then d.append (DS.fi f) (head g snap) else (d.append (DS.fi f) (head g snap)).1.sync
def append (l : LS) (d : DS) (s : List UInt8) : LS × DS × Int :=
  if l.dead then (l, d, 2) else
  if 65536 < s.length then (l, d, 101) else
  if 1048576 < d.size l.f + 8 + s.length then (l, d, 102) else
  if (d.append (DS.fi l.f) (frame s)).2 ≠ 0 then ({ l with dead := true }, (d.append (DS.fi l.f) (frame s)).1, 2) else ({ l with n := l.n + 1 }, (d.append (DS.fi l.f) (frame s)).1, 0)
def sync (l : LS) (d : DS) : LS × DS × Int :=
  if l.dead then (l, d, 2) else
  if d.sync.2 ≠ 0 then ({ l with dead := true }, d.sync.1, 2) else (l, d.sync.1, 0)
def checkpoint (l : LS) (d : DS) (snap : List UInt8) : LS × DS × Int :=
  if l.dead then (l, d, 2) else
  if 524288 < snap.length then (l, d, 101) else
  if l.g = 4611686018427387904 then (l, d, 102) else
  if (lays d (!l.f) (l.g + 1) snap).2 ≠ 0 then ({ l with dead := true }, (lays d (!l.f) (l.g + 1) snap).1, 2) else
  if ((lays d (!l.f) (l.g + 1) snap).1.cut (DS.fi l.f) 0).2 ≠ 0 then ({ l with dead := true }, ((lays d (!l.f) (l.g + 1) snap).1.cut (DS.fi l.f) 0).1, 2) else
  ({ l with f := !l.f, g := l.g + 1, n := 0 }, ((lays d (!l.f) (l.g + 1) snap).1.cut (DS.fi l.f) 0).1, 0)
def room (l : LS) (d : DS) : Int := max (-1) (min 65536 (1048576 - d.size l.f - 8))
def new (d : DS) : Option LS × DS × Int :=
  if d.dead then (none, d, 2) else
  if 0 < d.size false + d.size true then (none, d, 100) else
  if (lays d false 1 []).2 ≠ 0 then (none, (lays d false 1 []).1, 2) else (some { f := false, g := 1, n := 0, dead := false }, (lays d false 1 []).1, 0)
/-- Which file counts more, and what stands in it. -/
def best (d : DS) : Bool := decide ((counts (d.file false)).1 < (counts (d.file true)).1)
def cutEnd (d : DS) (f : Bool) (p : Nat) : DS × Int := if p < (d.file f).length then d.cut (DS.fi f) p else (d, 0)
def cutOther (d : DS) (f : Bool) (other : List UInt8) : DS × Int := if other ≠ [] then d.cut (DS.fi f) 0 else (d, 0)
/-- The cuts of an opening. -/
def cuts (d : DS) (f : Bool) (p : Nat) : DS × Int :=
  if (cutEnd d f p).2 ≠ 0 then cutEnd d f p else cutOther (cutEnd d f p).1 (!f) (d.file (!f))
structure Opened where
  l : LS
  snap : List UInt8
  rs : List (List UInt8)
def shown (d : DS) : Nat × List UInt8 × Nat := counts (d.file (best d))
def shownRecs (d : DS) : List (List UInt8) × Nat := recs (d.file (best d)) (shown d).2.2
def open_ (d : DS) : Option Opened × DS × Int :=
  if d.dead then (none, d, 2) else
  if (shown d).1 = 0 then (none, d, 100) else
  if (cuts d (best d) (shownRecs d).2).2 ≠ 0 then (none, (cuts d (best d) (shownRecs d).2).1, 2) else
  (some ⟨{ f := best d, g := (shown d).1, n := (shownRecs d).1.length, dead := false }, (shown d).2.1, (shownRecs d).1⟩, (cuts d (best d) (shownRecs d).2).1, 0)

/-! Numbers as bytes. -/
theorem val_from (b : List UInt8) (n : Nat) : b.foldl (fun n x => n * 256 + x.toNat) n = n * 256 ^ b.length + Sha.val b := by
  induction b generalizing n with
  | nil => simp [Sha.val]
  | cons x b ih =>
    have h1 := ih (n * 256 + x.toNat)
    have h2 := ih (0 * 256 + x.toNat)
    simp only [Sha.val, List.foldl_cons, List.length_cons] at h1 h2 ⊢
    rw [h1, h2, Nat.pow_succ, Nat.add_mul, Nat.zero_mul, Nat.zero_add, Nat.mul_assoc, Nat.mul_comm 256 (256 ^ b.length)]; omega
theorem val_lt (l : List UInt8) : Sha.val l < 256 ^ l.length := by
  induction l with
  | nil => simp [Sha.val]
  | cons x l ih =>
    have h := val_from l x.toNat
    have e : Sha.val (x :: l) = l.foldl (fun n x => n * 256 + x.toNat) x.toNat := by simp [Sha.val]
    rw [e, h, List.length_cons, Nat.pow_succ]
    have hx := x.toNat_lt
    have : x.toNat * 256 ^ l.length ≤ 255 * 256 ^ l.length := Nat.mul_le_mul_right _ (by omega)
    omega
theorem val_big (n k : Nat) : Sha.val (Sha.big n k) = n % 256 ^ k := by
  induction k generalizing n with
  | zero => simp [Sha.big, Sha.val, Nat.mod_one]
  | succ k ih =>
    have h : Sha.val (Sha.big (n / 256) k ++ [UInt8.ofNat n]) = Sha.val (Sha.big (n / 256) k) * 256 + (UInt8.ofNat n).toNat := by simp [Sha.val]
    rw [Sha.big, h, ih, Nat.pow_succ, UInt8.toNat_ofNat']
    have h1 := Nat.div_add_mod n 256
    have h2 : n % (256 ^ k * 256) = n / 256 % 256 ^ k * 256 + n % 256 := by
      rw [Nat.mul_comm (256 ^ k) 256, Nat.mod_mul, Nat.mul_comm 256 (n / 256 % 256 ^ k)]; omega
    rw [h2]
theorem val_big_of {n k : Nat} (h : n < 256 ^ k) : Sha.val (Sha.big n k) = n := by rw [val_big, Nat.mod_eq_of_lt h]
theorem crc_lt (s : List UInt8) : crc s < 4294967296 := (Crc.sum s).isLt
theorem frame_length (s : List UInt8) : (frame s).length = 8 + s.length := by simp [frame, Sha.big_length]; omega
theorem head_length (g : Nat) (s : List UInt8) : (head g s).length = 20 + s.length := by simp [head, magic, frame_length, Sha.big_length]; omega
/-! A frame where one stands; none where only a beginning of one does. -/
theorem whole_frame {a s r : List UInt8} {most : Nat} (hs : s.length ≤ most) (h4 : s.length < 4294967296) : whole (a ++ (frame s ++ r)) a.length most = (s, true) := by
  have e1 : ((a ++ (frame s ++ r)).drop a.length).take 4 = Sha.big s.length 4 := by
    simp only [List.drop_left, frame, List.append_assoc]
    rw [List.take_left' (Sha.big_length _ _)]
  have e2 : ((a ++ (frame s ++ r)).drop (a.length + 4)).take 4 = Sha.big (crc s) 4 := by
    rw [← List.drop_drop, List.drop_left]
    simp only [frame, List.append_assoc]
    rw [List.drop_left' (Sha.big_length _ _), List.take_left' (Sha.big_length _ _)]
  have e3 : ((a ++ (frame s ++ r)).drop (a.length + 8)).take s.length = s := by
    rw [← List.drop_drop, List.drop_left]
    simp only [frame]
    rw [List.append_assoc, List.drop_left' (by simp [Sha.big_length])]
    simp
  have v1 : Sha.val (Sha.big s.length 4) = s.length := val_big_of (by simpa using h4)
  have v2 : Sha.val (Sha.big (crc s) 4) = crc s := val_big_of (by simpa using crc_lt s)
  unfold whole
  rw [e1, v1, e2, v2, e3, if_neg (by simp [frame_length]; omega), if_neg (by simp [frame_length]; omega)]
  simp
theorem whole_short {file : List UInt8} {p most : Nat} (h : file.length < p + 8) : whole file p most = ([], false) := by
  unfold whole; rw [if_pos h]
theorem whole_none {a s : List UInt8} {most k : Nat} (hk : k < (frame s).length) (h4 : s.length < 4294967296) : whole (a ++ (frame s).take k) a.length most = ([], false) := by
  rw [frame_length] at hk
  by_cases h8 : k < 8
  · refine whole_short ?_
    simp [frame_length]; omega
  · have e1 : ((a ++ (frame s).take k).drop a.length).take 4 = Sha.big s.length 4 := by
      rw [List.drop_left, List.take_take, Nat.min_eq_left (by omega), frame, List.append_assoc, List.take_left' (Sha.big_length _ _)]
    have v1 : Sha.val (Sha.big s.length 4) = s.length := val_big_of (by simpa using h4)
    unfold whole
    rw [e1, v1, if_neg (by simp [frame_length]; omega), if_pos]
    right
    simp [frame_length]; omega
end Wal
end Go.Proofs.YtpjpknndfhablaaGreat
namespace Go.Proofs.YtpjpknndfhablaaGreat
namespace Sto
abbrev S := List UInt8
abbrev lt (a b : S) : Bool := Op.bytesLess a b
theorem lt_irrefl : ∀ a : S, lt a a = false
  | [] => rfl
  | x :: r => by simp [lt, Op.bytesLess]; exact lt_irrefl r
theorem lt_total : ∀ a b : S, lt a b = true ∨ a = b ∨ lt b a = true
  | [], [] => .inr (.inl rfl)
  | [], _ :: _ => .inl rfl
  | _ :: _, [] => .inr (.inr rfl)
  | x :: a, y :: b => by
    by_cases h1 : x < y
    · exact .inl (by simp [lt, Op.bytesLess, h1])
    by_cases h2 : y < x
    · exact .inr (.inr (by simp [lt, Op.bytesLess, h2]))
    have e : x = y := UInt8.le_antisymm (UInt8.not_lt.1 h2) (UInt8.not_lt.1 h1)
    subst e
    rcases lt_total a b with h | h | h
    · exact .inl (by simp only [lt] at h; simp [lt, Op.bytesLess, h])
    · exact .inr (.inl (by rw [h]))
    · exact .inr (.inr (by simp only [lt] at h; simp [lt, Op.bytesLess, h]))
theorem lt_trans : ∀ {a b c : S}, lt a b = true → lt b c = true → lt a c = true
  | _, [], _, h, _ => by simp [lt, Op.bytesLess] at h
  | _, _ :: _, [], _, h => by simp [lt, Op.bytesLess] at h
  | [], _ :: _, _ :: _, _, _ => rfl
  | x :: a, y :: b, z :: c, h, g => by
    simp only [lt, Op.bytesLess, Bool.or_eq_true, Bool.and_eq_true, decide_eq_true_eq, beq_iff_eq] at h g ⊢
    rcases h with h | ⟨rfl, h⟩
    · rcases g with g | ⟨rfl, g⟩
      · exact .inl (UInt8.lt_trans h g)
      · exact .inl h
    · rcases g with g | ⟨rfl, g⟩
      · exact .inl g
      · exact .inr ⟨rfl, lt_trans (a := a) (b := b) (c := c) h g⟩
theorem lt_asymm {a b : S} (h : lt a b = true) : lt b a = false := by
  cases e : lt b a with
  | false => rfl
  | true => have := lt_trans h e; rw [lt_irrefl] at this; cases this
theorem lt_ne {a b : S} (h : lt a b = true) : a ≠ b := by
  rintro rfl
  rw [lt_irrefl] at h
  cases h
/-- Pairs: keys and values. -/
abbrev Pairs := List (S × S)
def Rise (l : Pairs) : Prop := l.Pairwise fun p q => lt p.1 q.1 = true
def get : Pairs → S → Option S
  | [], _ => none
  | p :: r, k => if lt p.1 k then get r k else if p.1 = k then some p.2 else none
def put : Pairs → S → S → Pairs
  | [], k, v => [(k, v)]
  | p :: r, k, v => if lt p.1 k then p :: put r k v else if p.1 = k then (k, v) :: r else (k, v) :: p :: r
def del : Pairs → S → Pairs
  | [], _ => []
  | p :: r, k => if lt p.1 k then p :: del r k else if p.1 = k then r else p :: r
/-- Where a key stands, or would. -/
def place : Pairs → S → Nat
  | [], _ => 0
  | p :: r, k => if lt p.1 k then place r k + 1 else 0
def here (l : Pairs) (k : S) : Bool := (get l k).isSome
def size : Pairs → Nat
  | [] => 0
  | p :: r => p.1.length + p.2.length + size r
def fits (l : Pairs) : Bool := decide (l.length ≤ 2048) && decide (size l ≤ 262144)
def scan (l : Pairs) (k : S) (most : Nat) : Pairs := (l.filter fun p => !lt p.1 k).take most
def keyOk (k : S) : Bool := decide (1 ≤ k.length) && decide (k.length ≤ 64)
def valueOk (v : S) : Bool := decide (v.length ≤ 4096)
/-- A put, or a delete. -/
structure Ch where
  put : Bool
  key : S
  value : S
  deriving DecidableEq
def changes : Pairs → Pairs → List Ch
  | [], [] => []
  | [], q :: b => ⟨true, q.1, q.2⟩ :: changes [] b
  | p :: a, [] => ⟨false, p.1, []⟩ :: changes a []
  | p :: a, q :: b =>
    if lt p.1 q.1 then ⟨false, p.1, []⟩ :: changes a (q :: b)
    else if lt q.1 p.1 then ⟨true, q.1, q.2⟩ :: changes (p :: a) b
    else if p.2 = q.2 then changes a b else ⟨true, q.1, q.2⟩ :: changes a b
termination_by a b => a.length + b.length
/-- One change; none: it changes nothing. -/
def step (l : Pairs) (c : Ch) : Option Pairs :=
  if c.put then if get l c.key = some c.value then none else some (put l c.key c.value)
  else if here l c.key then some (del l c.key) else none
def steps : Pairs → List Ch → Option Pairs
  | l, [] => some l
  | l, c :: r => (step l c).bind fun m => steps m r
def does (l : Pairs) (c : List Ch) : Option Pairs := (steps l c).bind fun m => if fits m then some m else none
/-- The bytes of a change; of changes. -/
def enc1 (c : Ch) : S := (if c.put then 1 else 0) :: UInt8.ofNat c.key.length :: (c.key ++ if c.put then Sha.big c.value.length 2 ++ c.value else [])
def enc (l : List Ch) : S := l.flatMap enc1
def encode (l : List Ch) (count : Nat) : S := Sha.big l.length count ++ enc l
/-- The change that stands at the front, and what stands behind it. -/
def one (s : S) : Option (Ch × S) :=
  match s with
  | kind :: many :: r =>
    if r.length < many.toNat then none else
    if kind = 0 then some (⟨false, r.take many.toNat, []⟩, r.drop many.toNat) else
    if kind = 1 then
      if (r.drop many.toNat).length < 2 then none else
      if ((r.drop many.toNat).drop 2).length < Sha.val ((r.drop many.toNat).take 2) then none else
      some (⟨true, r.take many.toNat, ((r.drop many.toNat).drop 2).take (Sha.val ((r.drop many.toNat).take 2))⟩, ((r.drop many.toNat).drop 2).drop (Sha.val ((r.drop many.toNat).take 2)))
    else none
  | _ => none
def after (last : Option S) (k : S) : Bool := match last with | none => true | some j => lt j k
def dec : Nat → S → Option S → Option (List Ch)
  | 0, s, _ => if s = [] then some [] else none
  | n + 1, s, last => match one s with
    | none => none
    | some (c, r) => if keyOk c.key && valueOk c.value && after last c.key then (dec n r (some c.key)).map (c :: ·) else none
def decode (s : S) (count most : Nat) : Option (List Ch) :=
  if s.length < count then none else
  if Sha.val (s.take count) < 1 ∨ most < Sha.val (s.take count) then none else dec (Sha.val (s.take count)) (s.drop count) none
/-! The document's words. -/
theorem place_le : ∀ (l : Pairs) (k : S), place l k ≤ l.length
  | [], _ => Nat.le_refl _
  | p :: r, k => by
    unfold place
    split
    · have := place_le r k; simp; omega
    · simp
theorem get_place : ∀ (l : Pairs) (k : S), get l k = match l[place l k]? with | some p => if p.1 = k then some p.2 else none | none => none
  | [], _ => rfl
  | p :: r, k => by
    unfold get place
    split
    · rw [get_place r k]; simp
    · simp
theorem here_place (l : Pairs) (k : S) : here l k = (match l[place l k]? with | some p => decide (p.1 = k) | none => false) := by
  unfold here
  rw [get_place]
  cases l[place l k]? with
  | none => rfl
  | some p => by_cases h : p.1 = k <;> simp [h]
theorem place_before : ∀ (l : Pairs) (k : S) (j : Nat) (p : S × S), j < place l k → l[j]? = some p → lt p.1 k = true
  | [], _, j, _, h, _ => by simp [place] at h
  | q :: r, k, j, p, h, hp => by
    unfold place at h
    split at h
    · rename_i hq
      cases j with
      | zero => simp at hp; subst hp; exact hq
      | succ j => exact place_before r k j p (by omega) (by simpa using hp)
    · omega
theorem place_at : ∀ (l : Pairs) (k : S) (p : S × S), l[place l k]? = some p → lt p.1 k = false
  | [], _, _, h => by simp [place] at h
  | q :: r, k, p, h => by
    unfold place at h
    split at h
    · exact place_at r k p (by simpa using h)
    · rename_i hq
      simp at h
      subst h
      simpa using hq
theorem put_place : ∀ (l : Pairs) (k v : S), put l k v = l.take (place l k) ++ (k, v) :: l.drop (place l k + if here l k then 1 else 0)
  | [], _, _ => rfl
  | p :: r, k, v => by
    have ih := put_place r k v
    by_cases h : lt p.1 k = true
    · have e : here (p :: r) k = here r k := by simp [here, get, h]
      simp only [put, place, h, if_true, e, List.take_succ_cons, List.cons_append]
      rw [ih, show place r k + 1 + (if here r k = true then 1 else 0) = (place r k + if here r k = true then 1 else 0) + 1 by omega, List.drop_succ_cons]
    · by_cases hk : p.1 = k <;> simp [put, place, h, hk, here, get]
      simp [← hk, lt_irrefl]
theorem del_place : ∀ (l : Pairs) (k : S), del l k = if here l k then l.take (place l k) ++ l.drop (place l k + 1) else l
  | [], _ => rfl
  | p :: r, k => by
    have ih := del_place r k
    by_cases h : lt p.1 k = true
    · have e : here (p :: r) k = here r k := by simp [here, get, h]
      simp only [del, place, h, if_true, e, ih]
      split <;> simp
    · by_cases hk : p.1 = k <;> simp [del, place, h, hk, here, get]
      simp [← hk, lt_irrefl]
end Sto
end Go.Proofs.YtpjpknndfhablaaGreat
namespace Go.Proofs.YtpjpknndfhablaaGreat
namespace Sto
theorem get_past {k : S} : ∀ (pre r : Pairs), (∀ x ∈ pre, lt x.1 k = true) → get (pre ++ r) k = get r k
  | [], _, _ => rfl
  | p :: pre, r, h => by
    have h1 := h p (by simp)
    rw [List.cons_append, get, if_pos h1]
    exact get_past pre r fun x hx => h x (by simp [hx])
theorem here_past {k : S} (pre r : Pairs) (h : ∀ x ∈ pre, lt x.1 k = true) : here (pre ++ r) k = here r k := by
  unfold here
  rw [get_past pre r h]
theorem put_past {k v : S} : ∀ (pre r : Pairs), (∀ x ∈ pre, lt x.1 k = true) → put (pre ++ r) k v = pre ++ put r k v
  | [], _, _ => rfl
  | p :: pre, r, h => by
    have h1 := h p (by simp)
    rw [List.cons_append, put, if_pos h1, put_past pre r fun x hx => h x (by simp [hx])]
    rfl
theorem del_past {k : S} : ∀ (pre r : Pairs), (∀ x ∈ pre, lt x.1 k = true) → del (pre ++ r) k = pre ++ del r k
  | [], _, _ => rfl
  | p :: pre, r, h => by
    have h1 := h p (by simp)
    rw [List.cons_append, del, if_pos h1, del_past pre r fun x hx => h x (by simp [hx])]
    rfl
theorem steps_changes : ∀ (a b pre : Pairs), Rise a → Rise b → (∀ x ∈ pre, ∀ y ∈ a, lt x.1 y.1 = true) → (∀ x ∈ pre, ∀ y ∈ b, lt x.1 y.1 = true) → steps (pre ++ a) (changes a b) = some (pre ++ b)
  | [], [], pre, _, _, _, _ => by simp [changes, steps]
  | [], q :: b, pre, ha, hb, hpa, hpb => by
    have h1 : ∀ x ∈ pre, lt x.1 q.1 = true := fun x hx => hpb x hx q (by simp)
    have ih := steps_changes [] b (pre ++ [q]) ha (List.Pairwise.of_cons hb) (by simp) (by
      intro x hx y hy
      rcases List.mem_append.1 hx with hx | hx
      · exact hpb x hx y (by simp [hy])
      · simp at hx; subst hx; exact List.rel_of_pairwise_cons hb hy)
    rw [changes, steps, step, if_pos rfl]
    simp only []
    rw [get_past pre [] h1, put_past pre [] h1]
    simpa [get, put] using ih
  | p :: a, [], pre, ha, hb, hpa, hpb => by
    have h1 : ∀ x ∈ pre, lt x.1 p.1 = true := fun x hx => hpa x hx p (by simp)
    have ih := steps_changes a [] pre (List.Pairwise.of_cons ha) hb (fun x hx y hy => hpa x hx y (by simp [hy])) (by simp)
    rw [changes, steps, step, if_neg (by simp)]
    simp only []
    rw [here_past pre _ h1, del_past pre _ h1]
    simpa [here, get, del, lt_irrefl] using ih
  | p :: a, q :: b, pre, ha, hb, hpa, hpb => by
    have hp : ∀ x ∈ pre, lt x.1 p.1 = true := fun x hx => hpa x hx p (by simp)
    have hq : ∀ x ∈ pre, lt x.1 q.1 = true := fun x hx => hpb x hx q (by simp)
    rw [changes]
    by_cases h1 : lt p.1 q.1 = true
    · have ih := steps_changes a (q :: b) pre (List.Pairwise.of_cons ha) hb (fun x hx y hy => hpa x hx y (by simp [hy])) hpb
      rw [if_pos h1, steps, step, if_neg (by simp)]
      simp only []
      rw [here_past pre _ hp, del_past pre _ hp]
      simpa [here, get, del, lt_irrefl] using ih
    rw [if_neg h1]
    by_cases h2 : lt q.1 p.1 = true
    · have ih := steps_changes (p :: a) b (pre ++ [q]) ha (List.Pairwise.of_cons hb) (by
        intro x hx y hy
        rcases List.mem_append.1 hx with hx | hx
        · exact hpa x hx y hy
        · simp at hx; subst hx
          rcases List.mem_cons.1 hy with rfl | hy
          · exact h2
          · exact lt_trans h2 (List.rel_of_pairwise_cons ha hy)) (by
        intro x hx y hy
        rcases List.mem_append.1 hx with hx | hx
        · exact hpb x hx y (by simp [hy])
        · simp at hx; subst hx; exact List.rel_of_pairwise_cons hb hy)
      have hne : p.1 ≠ q.1 := fun e => lt_ne h2 e.symm
      rw [if_pos h2, steps, step, if_pos rfl]
      simp only []
      rw [get_past pre _ hq, put_past pre _ hq]
      simp only [get, put, if_neg h1, if_neg hne]
      simpa using ih
    rw [if_neg h2]
    have he : p.1 = q.1 := by
      rcases lt_total p.1 q.1 with h | h | h
      · exact absurd h h1
      · exact h
      · exact absurd h h2
    have ih := steps_changes a b (pre ++ [q]) (List.Pairwise.of_cons ha) (List.Pairwise.of_cons hb) (by
      intro x hx y hy
      rcases List.mem_append.1 hx with hx | hx
      · exact hpa x hx y (by simp [hy])
      · simp at hx; subst hx; rw [← he]; exact List.rel_of_pairwise_cons ha hy) (by
      intro x hx y hy
      rcases List.mem_append.1 hx with hx | hx
      · exact hpb x hx y (by simp [hy])
      · simp at hx; subst hx; exact List.rel_of_pairwise_cons hb hy)
    by_cases hv : p.2 = q.2
    · rw [if_pos hv]
      have hpq : p = q := Prod.ext he hv
      rw [hpq]
      simpa using ih
    · rw [if_neg hv, steps, step, if_pos rfl]
      simp only []
      rw [get_past pre _ hq, put_past pre _ hq]
      simp only [get, put, he, lt_irrefl, Bool.false_eq_true, if_false, if_true]
      rw [if_neg (by simpa using hv)]
      simpa using ih
termination_by a b => a.length + b.length
theorem steps_changes' {a b : Pairs} (ha : Rise a) (hb : Rise b) : steps a (changes a b) = some b := by
  simpa using steps_changes a b [] ha hb (by simp) (by simp)
theorem mem_changes : ∀ (a b : Pairs) (c : Ch), c ∈ changes a b → (c.put = false ∧ c.value = [] ∧ ∃ p ∈ a, p.1 = c.key) ∨ (c.put = true ∧ (c.key, c.value) ∈ b)
  | [], [], c, h => by simp [changes] at h
  | [], q :: b, c, h => by
    rw [changes] at h
    rcases List.mem_cons.1 h with rfl | h
    · exact .inr (by simp)
    · rcases mem_changes [] b c h with h | ⟨h1, h2⟩
      · exact .inl h
      · exact .inr ⟨h1, by simp [h2]⟩
  | p :: a, [], c, h => by
    rw [changes] at h
    rcases List.mem_cons.1 h with rfl | h
    · exact .inl (by simp)
    · rcases mem_changes a [] c h with ⟨h1, h2, x, hx, he⟩ | h
      · exact .inl ⟨h1, h2, x, by simp [hx], he⟩
      · exact .inr h
  | p :: a, q :: b, c, h => by
    rw [changes] at h
    split at h
    · rcases List.mem_cons.1 h with rfl | h
      · exact .inl (by simp)
      · rcases mem_changes a (q :: b) c h with ⟨h1, h2, x, hx, he⟩ | h
        · exact .inl ⟨h1, h2, x, by simp [hx], he⟩
        · exact .inr h
    · split at h
      · rcases List.mem_cons.1 h with rfl | h
        · exact .inr (by simp)
        · rcases mem_changes (p :: a) b c h with h | ⟨h1, h2⟩
          · exact .inl h
          · exact .inr ⟨h1, by simp [h2]⟩
      · have hm : c = ⟨true, q.1, q.2⟩ ∨ c ∈ changes a b := by
          split at h
          · exact .inr h
          · exact List.mem_cons.1 h
        rcases hm with rfl | h
        · exact .inr (by simp)
        · rcases mem_changes a b c h with ⟨h1, h2, x, hx, he⟩ | ⟨h1, h2⟩
          · exact .inl ⟨h1, h2, x, by simp [hx], he⟩
          · exact .inr ⟨h1, by simp [h2]⟩
termination_by a b => a.length + b.length
def RiseC (l : List Ch) : Prop := l.Pairwise fun c d => lt c.key d.key = true
theorem changes_key {a b : Pairs} {c : Ch} (h : c ∈ changes a b) : (∃ p ∈ a, p.1 = c.key) ∨ (∃ p ∈ b, p.1 = c.key) := by
  rcases mem_changes a b c h with ⟨_, _, h⟩ | ⟨_, h⟩
  · exact .inl h
  · exact .inr ⟨_, h, rfl⟩
theorem changes_rise : ∀ (a b : Pairs), Rise a → Rise b → RiseC (changes a b)
  | [], [], _, _ => by simp [changes, RiseC]
  | [], q :: b, ha, hb => by
    rw [changes]
    refine List.pairwise_cons.2 ⟨fun c hc => ?_, changes_rise [] b ha (List.Pairwise.of_cons hb)⟩
    rcases changes_key hc with ⟨x, hx, e⟩ | ⟨x, hx, e⟩
    · simp at hx
    · rw [← e]; exact List.rel_of_pairwise_cons hb hx
  | p :: a, [], ha, hb => by
    rw [changes]
    refine List.pairwise_cons.2 ⟨fun c hc => ?_, changes_rise a [] (List.Pairwise.of_cons ha) hb⟩
    rcases changes_key hc with ⟨x, hx, e⟩ | ⟨x, hx, e⟩
    · rw [← e]; exact List.rel_of_pairwise_cons ha hx
    · simp at hx
  | p :: a, q :: b, ha, hb => by
    have A : ∀ x ∈ a, lt p.1 x.1 = true := fun x hx => List.rel_of_pairwise_cons ha hx
    have B : ∀ x ∈ b, lt q.1 x.1 = true := fun x hx => List.rel_of_pairwise_cons hb hx
    rw [changes]
    by_cases h1 : lt p.1 q.1 = true
    · rw [if_pos h1]
      refine List.pairwise_cons.2 ⟨fun c hc => ?_, changes_rise a (q :: b) (List.Pairwise.of_cons ha) hb⟩
      rcases changes_key hc with ⟨x, hx, e⟩ | ⟨x, hx, e⟩ <;> rw [← e]
      · exact A x hx
      · rcases List.mem_cons.1 hx with rfl | hx
        · exact h1
        · exact lt_trans h1 (B x hx)
    rw [if_neg h1]
    by_cases h2 : lt q.1 p.1 = true
    · rw [if_pos h2]
      refine List.pairwise_cons.2 ⟨fun c hc => ?_, changes_rise (p :: a) b ha (List.Pairwise.of_cons hb)⟩
      rcases changes_key hc with ⟨x, hx, e⟩ | ⟨x, hx, e⟩ <;> rw [← e]
      · rcases List.mem_cons.1 hx with rfl | hx
        · exact h2
        · exact lt_trans h2 (A x hx)
      · exact B x hx
    rw [if_neg h2]
    have he : p.1 = q.1 := by
      rcases lt_total p.1 q.1 with h | h | h
      · exact absurd h h1
      · exact h
      · exact absurd h h2
    have ih := changes_rise a b (List.Pairwise.of_cons ha) (List.Pairwise.of_cons hb)
    split
    · exact ih
    · refine List.pairwise_cons.2 ⟨fun c hc => ?_, ih⟩
      rcases changes_key hc with ⟨x, hx, e⟩ | ⟨x, hx, e⟩ <;> rw [← e]
      · show lt q.1 x.1 = true
        rw [← he]; exact A x hx
      · exact B x hx
termination_by a b => a.length + b.length
/-! Rising pairs stay rising. -/
theorem mem_put : ∀ {l : Pairs} {k v : S} {x : S × S}, x ∈ put l k v → x = (k, v) ∨ x ∈ l
  | [], k, v, x, h => by simp [put] at h; exact .inl h
  | p :: r, k, v, x, h => by
    unfold put at h
    split at h
    · rcases List.mem_cons.1 h with rfl | h
      · exact .inr (by simp)
      · rcases mem_put h with h | h
        · exact .inl h
        · exact .inr (by simp [h])
    · split at h
      · rcases List.mem_cons.1 h with rfl | h
        · exact .inl rfl
        · exact .inr (by simp [h])
      · rcases List.mem_cons.1 h with rfl | h
        · exact .inl rfl
        · exact .inr h
theorem mem_del : ∀ {l : Pairs} {k : S} {x : S × S}, x ∈ del l k → x ∈ l
  | [], _, _, h => by simp [del] at h
  | p :: r, k, x, h => by
    unfold del at h
    split at h
    · rcases List.mem_cons.1 h with rfl | h
      · simp
      · have := mem_del h; simp [this]
    · split at h
      · simp [h]
      · exact h
theorem put_rise : ∀ {l : Pairs} (k v : S), Rise l → Rise (put l k v)
  | [], _, _, _ => by simp [put, Rise]
  | p :: r, k, v, h => by
    have A : ∀ x ∈ r, lt p.1 x.1 = true := fun x hx => List.rel_of_pairwise_cons h hx
    unfold put
    split
    · rename_i h1
      refine List.pairwise_cons.2 ⟨fun x hx => ?_, put_rise k v (List.Pairwise.of_cons h)⟩
      rcases mem_put hx with rfl | hx
      · exact h1
      · exact A x hx
    · rename_i h1
      split
      · rename_i h2
        refine List.pairwise_cons.2 ⟨fun x hx => ?_, List.Pairwise.of_cons h⟩
        show lt k x.1 = true
        rw [← h2]; exact A x hx
      · rename_i h2
        have h3 : lt k p.1 = true := by
          rcases lt_total p.1 k with h | h | h
          · exact absurd h h1
          · exact absurd h h2
          · exact h
        refine List.pairwise_cons.2 ⟨fun x hx => ?_, h⟩
        rcases List.mem_cons.1 hx with rfl | hx
        · exact h3
        · exact lt_trans h3 (A x hx)
theorem del_rise : ∀ {l : Pairs} (k : S), Rise l → Rise (del l k)
  | [], _, _ => by simp [del, Rise]
  | p :: r, k, h => by
    unfold del
    split
    · exact List.pairwise_cons.2 ⟨fun x hx => List.rel_of_pairwise_cons h (mem_del hx), del_rise k (List.Pairwise.of_cons h)⟩
    · split
      · exact List.Pairwise.of_cons h
      · exact h
theorem step_rise {l m : Pairs} {c : Ch} (h : Rise l) (hs : step l c = some m) : Rise m := by
  unfold step at hs
  split at hs
  · split at hs
    · cases hs
    · cases hs; exact put_rise _ _ h
  · split at hs
    · cases hs; exact del_rise _ h
    · cases hs
theorem steps_rise : ∀ {c : List Ch} {l m : Pairs}, Rise l → steps l c = some m → Rise m
  | [], l, m, h, hs => by simp [steps] at hs; subst hs; exact h
  | c :: r, l, m, h, hs => by
    rw [steps] at hs
    obtain ⟨n, h1, h2⟩ := Option.bind_eq_some_iff.1 hs
    exact steps_rise (step_rise h h1) h2
theorem does_rise {c : List Ch} {l m : Pairs} (h : Rise l) (hs : does l c = some m) : Rise m ∧ fits m = true := by
  obtain ⟨n, h1, h2⟩ := Option.bind_eq_some_iff.1 hs
  split at h2
  · rename_i hf; cases h2; exact ⟨steps_rise h h1, hf⟩
  · cases h2
end Sto
end Go.Proofs.YtpjpknndfhablaaGreat
namespace Go.Proofs.YtpjpknndfhablaaGreat
namespace Sto
structure Fine (c : Ch) : Prop where
  key : keyOk c.key = true
  value : valueOk c.value = true
  bare : c.put = false → c.value = []
theorem keyOk_iff {k : S} : keyOk k = true ↔ 1 ≤ k.length ∧ k.length ≤ 64 := by simp [keyOk]
theorem valueOk_iff {v : S} : valueOk v = true ↔ v.length ≤ 4096 := by simp [valueOk]
theorem one_enc1 (c : Ch) (r : S) (hc : Fine c) : one (enc1 c ++ r) = some (c, r) := by
  obtain ⟨p, k, v⟩ := c
  have hk := (keyOk_iff.1 hc.key).2
  have hv := valueOk_iff.1 hc.value
  have h0 := hc.bare
  simp only at hk hv h0
  have hkn : (UInt8.ofNat k.length).toNat = k.length := by
    rw [UInt8.toNat_ofNat']
    exact Nat.mod_eq_of_lt (by omega)
  cases p with
  | false =>
    have := h0 rfl
    subst this
    simp [enc1, one, hkn]
  | true =>
    have hb : (Sha.big v.length 2).length = 2 := Sha.big_length _ _
    have hbv : Sha.val (Sha.big v.length 2) = v.length := Wal.val_big_of (by omega)
    have e1 : (k ++ (Sha.big v.length 2 ++ v) ++ r) = k ++ (Sha.big v.length 2 ++ (v ++ r)) := by simp
    simp only [enc1, one, if_true, List.cons_append, hkn, e1]
    rw [if_neg (by simp), if_neg (by decide)]
    simp only [List.drop_left, List.take_left]
    rw [List.take_left' hb, List.drop_left' hb, hbv, if_neg (by simp [hb]), if_neg (by simp), List.take_left, List.drop_left]
theorem dec_enc : ∀ (l : List Ch) (last : Option S), (∀ c ∈ l, Fine c) → RiseC l → (∀ c, l.head? = some c → after last c.key = true) → dec l.length (enc l) last = some l
  | [], _, _, _, _ => rfl
  | c :: l, last, hf, hr, ha => by
    have h1 := hf c (by simp)
    have ih := dec_enc l (some c.key) (fun x hx => hf x (by simp [hx])) (List.Pairwise.of_cons hr) (by
      intro x hx
      cases l with
      | nil => cases hx
      | cons y l => simp at hx; subst hx; exact List.rel_of_pairwise_cons hr (by simp))
    show (match one (enc1 c ++ enc l) with
      | none => none
      | some (c, r) => if keyOk c.key && valueOk c.value && after last c.key then (dec l.length r (some c.key)).map (c :: ·) else none) = some (c :: l)
    rw [one_enc1 c _ h1]
    simp only [h1.key, h1.value, ha c rfl, Bool.and_self, if_true, ih, Option.map_some]
theorem decode_encode {l : List Ch} {count most : Nat} (h0 : l ≠ []) (hc : l.length < 256 ^ count) (hm : l.length ≤ most) (hf : ∀ c ∈ l, Fine c) (hr : RiseC l) : decode (encode l count) count most = some l := by
  have hb : (Sha.big l.length count).length = count := Sha.big_length _ _
  have hbv : Sha.val (Sha.big l.length count) = l.length := Wal.val_big_of hc
  have hl : 1 ≤ l.length := by cases l with | nil => exact absurd rfl h0 | cons => simp
  unfold decode encode
  rw [List.take_left' hb, List.drop_left' hb, hbv, if_neg (by simp [hb]), if_neg (by omega)]
  exact dec_enc l none hf hr (fun _ _ => rfl)
/-! Whatever is read is fine. -/
theorem one_bare {s r : S} {c : Ch} (h : one s = some (c, r)) : c.put = false → c.value = [] := by
  unfold one at h
  split at h
  · split at h
    · cases h
    · split at h
      · cases h; intro; rfl
      · split at h
        · split at h
          · cases h
          · split at h
            · cases h
            · cases h; intro h; cases h
        · cases h
  · cases h
theorem dec_fine : ∀ (n : Nat) (s : S) (last : Option S) (l : List Ch), dec n s last = some l → l.length = n ∧ (∀ c ∈ l, Fine c) ∧ RiseC l ∧ (∀ c ∈ l, after last c.key = true)
  | 0, s, last, l, h => by
    unfold dec at h
    split at h
    · cases h; exact ⟨rfl, by simp, List.Pairwise.nil, by simp⟩
    · cases h
  | n + 1, s, last, l, h => by
    rw [dec] at h
    split at h
    · cases h
    · rename_i c r hone
      split at h
      · rename_i hk
        obtain ⟨m, hm, rfl⟩ := Option.map_eq_some_iff.1 h
        obtain ⟨i1, i2, i3, i4⟩ := dec_fine n r (some c.key) m hm
        simp only [Bool.and_eq_true] at hk
        refine ⟨by simp [i1], ?_, List.pairwise_cons.2 ⟨fun d hd => i4 d hd, i3⟩, ?_⟩
        · intro d hd
          rcases List.mem_cons.1 hd with rfl | hd
          · exact ⟨hk.1.1, hk.1.2, one_bare hone⟩
          · exact i2 d hd
        · intro d hd
          rcases List.mem_cons.1 hd with rfl | hd
          · exact hk.2
          · have := i4 d hd
            cases last with
            | none => rfl
            | some j => exact lt_trans hk.2 this
      · cases h
theorem decode_fine {s : S} {count most : Nat} {l : List Ch} (h : decode s count most = some l) : l.length ≤ most ∧ l ≠ [] ∧ (∀ c ∈ l, Fine c) ∧ RiseC l := by
  unfold decode at h
  split at h
  · cases h
  · split at h
    · cases h
    · rename_i hn
      obtain ⟨h1, h2, h3, _⟩ := dec_fine _ _ _ _ h
      refine ⟨by omega, ?_, h2, h3⟩
      rintro rfl
      simp at h1
      omega
/-! Good pairs: rising, each key and each value may be. -/
structure Good (l : Pairs) : Prop where
  rise : Rise l
  ok : ∀ p ∈ l, keyOk p.1 = true ∧ valueOk p.2 = true
theorem Good.nil : Good [] := ⟨List.Pairwise.nil, by simp⟩
theorem Good.put {l : Pairs} (h : Good l) {k v : S} (hk : keyOk k = true) (hv : valueOk v = true) : Good (put l k v) :=
  ⟨put_rise k v h.rise, fun p hp => by
    rcases mem_put hp with rfl | hp
    · exact ⟨hk, hv⟩
    · exact h.ok p hp⟩
theorem Good.del {l : Pairs} (h : Good l) (k : S) : Good (del l k) := ⟨del_rise k h.rise, fun p hp => h.ok p (mem_del hp)⟩
theorem Good.steps : ∀ {c : List Ch} {l m : Pairs}, Good l → (∀ x ∈ c, Fine x) → Sto.steps l c = some m → Good m
  | [], l, m, h, _, hs => by simp [Sto.steps] at hs; subst hs; exact h
  | c :: r, l, m, h, hf, hs => by
    rw [Sto.steps] at hs
    obtain ⟨n, h1, h2⟩ := Option.bind_eq_some_iff.1 hs
    refine Good.steps ?_ (fun x hx => hf x (by simp [hx])) h2
    have hc := hf c (by simp)
    unfold step at h1
    split at h1
    · split at h1
      · cases h1
      · cases h1; exact h.put hc.key hc.value
    · split at h1
      · cases h1; exact h.del _
      · cases h1
theorem Good.does {c : List Ch} {l m : Pairs} (h : Good l) (hf : ∀ x ∈ c, Fine x) (hs : Sto.does l c = some m) : Good m ∧ fits m = true := by
  obtain ⟨n, h1, h2⟩ := Option.bind_eq_some_iff.1 hs
  split at h2
  · rename_i hfit; cases h2; exact ⟨h.steps hf h1, hfit⟩
  · cases h2
theorem changes_fine {a b : Pairs} (ha : Good a) (hb : Good b) : ∀ c ∈ changes a b, Fine c := by
  intro c hc
  rcases mem_changes a b c hc with ⟨h1, h2, p, hp, he⟩ | ⟨h1, h2⟩
  · exact ⟨by rw [← he]; exact (ha.ok p hp).1, by rw [h2]; rfl, fun _ => h2⟩
  · exact ⟨(hb.ok _ h2).1, (hb.ok _ h2).2, fun h => by rw [h1] at h; cases h⟩
/-- A store's image: its pairs as puts. -/
def image (l : Pairs) : S := if l = [] then [] else encode (changes [] l) 4
theorem changes_nil : ∀ (l : Pairs), changes [] l = l.map fun p => ⟨true, p.1, p.2⟩
  | [] => by simp [changes]
  | p :: r => by rw [changes, changes_nil r]; rfl
theorem enc_puts_length : ∀ (l : Pairs), (enc (l.map fun p => ⟨true, p.1, p.2⟩)).length = 4 * l.length + size l
  | [] => rfl
  | p :: r => by
    have ih := enc_puts_length r
    simp only [enc] at ih
    simp [enc, enc1, size, Sha.big_length, ih]
    omega
theorem image_length (l : Pairs) (h : fits l = true) : (image l).length ≤ 270340 := by
  unfold image
  split
  · simp
  · simp only [fits, Bool.and_eq_true, decide_eq_true_eq] at h
    rw [changes_nil, encode, List.length_append, enc_puts_length, Sha.big_length]
    omega
theorem image_read {l : Pairs} (h0 : l ≠ []) (hg : Good l) (hf : fits l = true) : decode (image l) 4 2048 = some (changes [] l) ∧ does [] (changes [] l) = some l ∧ image l ≠ [] := by
  have hl : l.length ≤ 2048 := by
    simp only [fits, Bool.and_eq_true, decide_eq_true_eq] at hf
    exact hf.1
  have hn : (changes [] l).length = l.length := by rw [changes_nil]; simp
  have hne : changes [] l ≠ [] := by
    intro e
    rw [e] at hn
    exact h0 (List.eq_nil_of_length_eq_zero hn.symm)
  refine ⟨?_, ?_, ?_⟩
  · unfold image
    rw [if_neg h0]
    exact decode_encode hne (by rw [hn]; omega) (by omega) (changes_fine Good.nil hg) (changes_rise _ _ List.Pairwise.nil hg.rise)
  · unfold does
    rw [steps_changes' List.Pairwise.nil hg.rise]
    simp [hf]
  · unfold image
    rw [if_neg h0]
    intro e
    have := congrArg List.length e
    simp [encode, Sha.big_length] at this
end Sto
end Go.Proofs.YtpjpknndfhablaaGreat
namespace Go.Proofs.YtpjpknndfhablaaGreat
/-- An open store: its log, its pairs, how many transactions changed it, is it dead? -/
structure SS where
  l : Wal.LS := {}
  ps : Sto.Pairs := []
  turn : Nat := 0
  dead : Bool := false
/-- A transaction: what there was, what it sees. -/
structure TS where
  was : Sto.Pairs := []
  now : Sto.Pairs := []
  turn : Nat := 0
  over : Bool := false
namespace SS
def sync (s : SS) (d : DS) : SS × DS × Int :=
  if s.dead then (s, d, 2) else ({ s with l := (Wal.sync s.l d).1, dead := decide ((Wal.sync s.l d).2.2 = 2) }, (Wal.sync s.l d).2.1, (Wal.sync s.l d).2.2)
def check (s : SS) (d : DS) : SS × DS × Int :=
  if s.dead then (s, d, 2) else
  ({ s with l := (Wal.checkpoint s.l d (Sto.image s.ps)).1, dead := decide ((Wal.checkpoint s.l d (Sto.image s.ps)).2.2 = 2) }, (Wal.checkpoint s.l d (Sto.image s.ps)).2.1, (Wal.checkpoint s.l d (Sto.image s.ps)).2.2)
def begin_ (s : SS) : TS := { was := s.ps, now := s.ps, turn := s.turn, over := false }
/-- Room is made for a record. -/
def making (s : SS) (d : DS) (r : List UInt8) : SS × DS × Int := if Wal.room s.l d < r.length then s.check d else (s, d, 0)
/-- A record is appended; then the pairs are these. -/
def adding (s : SS) (d : DS) (r : List UInt8) (m : Sto.Pairs) : SS × DS × Int :=
  if (Wal.append s.l d r).2.2 ≠ 0 then ({ s with l := (Wal.append s.l d r).1, dead := decide ((Wal.append s.l d r).2.2 = 2) }, (Wal.append s.l d r).2.1, (Wal.append s.l d r).2.2) else
  ({ s with l := (Wal.append s.l d r).1, ps := m, turn := s.turn + 1 }, (Wal.append s.l d r).2.1, 0)
/-- Changes become the store's. -/
def taking (s : SS) (d : DS) (c : List Sto.Ch) (m : Sto.Pairs) : SS × DS × Int :=
  if (s.making d (Sto.encode c 2)).2.2 ≠ 0 then s.making d (Sto.encode c 2) else
  (s.making d (Sto.encode c 2)).1.adding (s.making d (Sto.encode c 2)).2.1 (Sto.encode c 2) m
def commit (s : SS) (t : TS) (d : DS) : SS × DS × Int :=
  if t.over then (s, d, 114) else
  if s.dead then (s, d, 2) else
  if s.turn ≠ t.turn then (s, d, 114) else
  if Sto.changes t.was t.now = [] then (s, d, 0) else
  if 512 < (Sto.changes t.was t.now).length ∨ 65536 < (Sto.encode (Sto.changes t.was t.now) 2).length then (s, d, 112) else
  match Sto.does s.ps (Sto.changes t.was t.now) with
  | none => (s, d, 113)
  | some m => s.taking d (Sto.changes t.was t.now) m
/-- The pairs behind records. -/
def replay : Sto.Pairs → List (List UInt8) → Option Sto.Pairs
  | l, [] => some l
  | l, r :: rs => (Sto.decode r 2 512).bind fun c => (Sto.does l c).bind fun m => replay m rs
def snapPairs (snap : List UInt8) : Option Sto.Pairs :=
  if snap = [] then some [] else (Sto.decode snap 4 2048).bind fun c => if c.all (·.put) then Sto.does [] c else none
def opened (q : Wal.Opened) : Option Sto.Pairs := (snapPairs q.snap).bind fun l => replay l q.rs
def open_ (d : DS) : Option SS × DS × Int :=
  match (Wal.open_ d).1 with
  | none => (none, (Wal.open_ d).2.1, (Wal.open_ d).2.2)
  | some q => match opened q with
    | none => (none, (Wal.open_ d).2.1, 110)
    | some l => (some { l := q.l, ps := l, turn := 0, dead := false }, (Wal.open_ d).2.1, 0)
def new (d : DS) : Option SS × DS × Int :=
  match (Wal.new d).1 with
  | none => (none, (Wal.new d).2.1, (Wal.new d).2.2)
  | some l => (some { l := l, ps := [], turn := 0, dead := false }, (Wal.new d).2.1, 0)
end SS
namespace TS
def put (t : TS) (k v : Sto.S) : TS × Int :=
  if t.over then (t, 114) else if Sto.keyOk k = false then (t, 111) else if Sto.valueOk v = false then (t, 112) else ({ t with now := Sto.put t.now k v }, 0)
def del (t : TS) (k : Sto.S) : TS × Int :=
  if t.over then (t, 114) else if Sto.keyOk k = false then (t, 111) else ({ t with now := Sto.del t.now k }, 0)
def ends (t : TS) : TS := { t with now := [], over := true }
end TS
end Go.Proofs.YtpjpknndfhablaaGreat
