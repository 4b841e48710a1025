/- SHA-256 as plain Lean over words of 32 bits, HMAC and PBKDF2 by it. No program in sight. -/
namespace Go.Proofs.Ytpjpknndfhablaa

abbrev U32 := BitVec 32
namespace Sha
def ror (x : U32) (n : Nat) : U32 := x >>> n ||| x <<< (32 - n)
def s0 (x : U32) : U32 := ror x 7 ^^^ ror x 18 ^^^ x >>> 3
def s1 (x : U32) : U32 := ror x 17 ^^^ ror x 19 ^^^ x >>> 10
def e1 (x : U32) : U32 := ror x 6 ^^^ ror x 11 ^^^ ror x 25
def e0 (x : U32) : U32 := ror x 2 ^^^ ror x 13 ^^^ ror x 22
def ch (e f g : U32) : U32 := (e &&& f) ^^^ (~~~e &&& g)
def maj (a b c : U32) : U32 := (a &&& b) ^^^ (a &&& c) ^^^ (b &&& c)
/-- Bytes as a number, the highest first. -/
def val (l : List UInt8) : Nat := l.foldl (fun n b => n * 256 + b.toNat) 0
/-- A number as so many bytes, the highest first. -/
def big (n : Nat) : Nat → List UInt8
  | 0 => []
  | k + 1 => big (n / 256) k ++ [UInt8.ofNat n]
def word (bs : List UInt8) (k : Nat) : U32 := BitVec.ofNat 32 (val ((bs.drop (4 * k)).take 4))
def nextW (w : List U32) : U32 :=
  w.getD (w.length - 16) 0 + s0 (w.getD (w.length - 15) 0) + w.getD (w.length - 7) 0 + s1 (w.getD (w.length - 2) 0)
/-- The first k words of a block's schedule. -/
def sched (bs : List UInt8) : Nat → List U32
  | 0 => []
  | k + 1 => sched bs k ++ [if k < 16 then word bs k else nextW (sched bs k)]
structure St where
  a : U32
  b : U32
  c : U32
  d : U32
  e : U32
  f : U32
  g : U32
  h : U32
def tOf (v : St) (k w : U32) : U32 := v.h + e1 v.e + ch v.e v.f v.g + k + w
def uOf (v : St) : U32 := e0 v.a + maj v.a v.b v.c
def rnd (v : St) (k w : U32) : St := ⟨tOf v k w + uOf v, v.a, v.b, v.c, v.d + tOf v k w, v.e, v.f, v.g⟩
def rounds (s : St) (ks ws : List U32) : Nat → St
  | 0 => s
  | k + 1 => rnd (rounds s ks ws k) (ks.getD k 0) (ws.getD k 0)
def St.plus (v s : St) : St := ⟨v.a + s.a, v.b + s.b, v.c + s.c, v.d + s.d, v.e + s.e, v.f + s.f, v.g + s.g, v.h + s.h⟩
def block (ks : List U32) (s : St) (bs : List UInt8) : St := (rounds s ks (sched bs 64) 64).plus s
def St.list (s : St) : List U32 := [s.a, s.b, s.c, s.d, s.e, s.f, s.g, s.h]
def St.bytes (s : St) : List UInt8 := s.list.flatMap fun x => big x.toNat 4
/-- n blocks of bytes, one behind the other. -/
def blocks (ks : List U32) (s : St) : Nat → List UInt8 → St
  | 0, _ => s
  | n + 1, b => blocks ks (block ks s (b.take 64)) n (b.drop 64)
/-- How many bytes 0 stand behind the 128. -/
def gap (n : Nat) : Nat := (119 - n % 64) % 64
def pad (s : List UInt8) : List UInt8 := s ++ [128] ++ List.replicate (gap s.length) 0 ++ big (8 * s.length) 8
def K : List U32 := [0x428a2f98, 0x71374491, 0xb5c0fbcf, 0xe9b5dba5, 0x3956c25b, 0x59f111f1, 0x923f82a4, 0xab1c5ed5, 0xd807aa98, 0x12835b01, 0x243185be, 0x550c7dc3, 0x72be5d74, 0x80deb1fe, 0x9bdc06a7, 0xc19bf174, 0xe49b69c1, 0xefbe4786, 0x0fc19dc6, 0x240ca1cc, 0x2de92c6f, 0x4a7484aa, 0x5cb0a9dc, 0x76f988da, 0x983e5152, 0xa831c66d, 0xb00327c8, 0xbf597fc7, 0xc6e00bf3, 0xd5a79147, 0x06ca6351, 0x14292967, 0x27b70a85, 0x2e1b2138, 0x4d2c6dfc, 0x53380d13, 0x650a7354, 0x766a0abb, 0x81c2c92e, 0x92722c85, 0xa2bfe8a1, 0xa81a664b, 0xc24b8b70, 0xc76c51a3, 0xd192e819, 0xd6990624, 0xf40e3585, 0x106aa070, 0x19a4c116, 0x1e376c08, 0x2748774c, 0x34b0bcb5, 0x391c0cb3, 0x4ed8aa4a, 0x5b9cca4f, 0x682e6ff3, 0x748f82ee, 0x78a5636f, 0x84c87814, 0x8cc70208, 0x90befffa, 0xa4506ceb, 0xbef9a3f7, 0xc67178f2]
def start : St := ⟨0x6a09e667, 0xbb67ae85, 0x3c6ef372, 0xa54ff53a, 0x510e527f, 0x9b05688c, 0x1f83d9ab, 0x5be0cd19⟩
def sum (s : List UInt8) : List UInt8 := (blocks K start ((pad s).length / 64) (pad s)).bytes
def padded (key : List UInt8) (x : UInt8) : List UInt8 :=
  let k := if key.length > 64 then sum key else key
  (k ++ List.replicate (64 - k.length) 0).map (· ^^^ x)
def mac (key s : List UInt8) : List UInt8 := sum (padded key 92 ++ sum (padded key 54 ++ s))
/-- Round by round: the last mac, and all of them so far together. -/
def iter (pass : List UInt8) : Nat → List UInt8 × List UInt8 → List UInt8 × List UInt8
  | 0, p => p
  | n + 1, p => iter pass n (mac pass p.1, List.zipWith (· ^^^ ·) p.2 (mac pass p.1))
def chunk (pass salt : List UInt8) (rounds j : Nat) : List UInt8 :=
  let u := mac pass (salt ++ big j 4)
  (iter pass (rounds - 1) (u, u)).2
def stretch (pass salt : List UInt8) (rounds n : Int) : List UInt8 × Int :=
  if rounds < 1 ∨ rounds > 64 then ([], 40) else if n < 1 ∨ n > 96 then ([], 41) else
    ((chunk pass salt rounds.toNat 1 ++ chunk pass salt rounds.toNat 2 ++ chunk pass salt rounds.toNat 3).take n.toNat, 0)

theorem big_length (n k : Nat) : (big n k).length = k := by
  induction k generalizing n with
  | zero => rfl
  | succ k ih => simp [big, ih]
theorem sched_length (bs : List UInt8) (k : Nat) : (sched bs k).length = k := by
  induction k with
  | zero => rfl
  | succ k ih => simp [sched, ih]
theorem St.bytes_length (s : St) : s.bytes.length = 32 := by simp [St.bytes, St.list, big_length]
theorem sum_length (s : List UInt8) : (sum s).length = 32 := St.bytes_length _
theorem mac_length (k s : List UInt8) : (mac k s).length = 32 := sum_length _
theorem pad_length (s : List UInt8) : (pad s).length = s.length + 9 + gap s.length := by simp [pad, big_length]; omega
theorem pad_mod (s : List UInt8) : (pad s).length % 64 = 0 := by rw [pad_length]; unfold gap; omega
theorem padded_length (key : List UInt8) (x : UInt8) : (padded key x).length = 64 := by
  simp only [padded, List.length_map, List.length_append, List.length_replicate]
  split
  · rw [sum_length]
  · omega
end Sha
end Go.Proofs.Ytpjpknndfhablaa
