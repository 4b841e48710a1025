/- SHA-256 reckoned by the kernel: the same function over numbers, each forced before it is used; and the values at fixed texts. -/
import Derived.Test.YtommbdlkmkphpaaDoorShaM
namespace Go.Proofs.YtommbdlkmkphpaaDoor
namespace Sha
/-- f at n, n reckoned first. -/
def fc {α : Sort _} (n : Nat) (f : Nat → α) : α := match n with | 0 => f 0 | m + 1 => f (m + 1)
theorem fc_eq {α : Sort _} (n : Nat) (f : Nat → α) : fc n f = f n := by cases n <;> rfl
def rorE (x n : Nat) : Nat := Nat.lor (Nat.shiftRight x n) (Nat.mod (Nat.shiftLeft x (32 - n)) 4294967296)
def addE (a b : Nat) : Nat := Nat.mod (Nat.add a b) 4294967296
def chE (e f g : Nat) : Nat := Nat.xor (Nat.land e f) (Nat.land (Nat.sub 4294967295 e) g)
def majE (a b c : Nat) : Nat := Nat.xor (Nat.xor (Nat.land a b) (Nat.land a c)) (Nat.land b c)
def e1E (x : Nat) : Nat := Nat.xor (Nat.xor (rorE x 6) (rorE x 11)) (rorE x 25)
def e0E (x : Nat) : Nat := Nat.xor (Nat.xor (rorE x 2) (rorE x 13)) (rorE x 22)
def s0E (x : Nat) : Nat := Nat.xor (Nat.xor (rorE x 7) (rorE x 18)) (Nat.shiftRight x 3)
def s1E (x : Nat) : Nat := Nat.xor (Nat.xor (rorE x 17) (rorE x 19)) (Nat.shiftRight x 10)
theorem rorE_eq (x : U32) (n : Nat) : rorE x.toNat n = (ror x n).toNat := by
  simp only [ror, BitVec.toNat_or, BitVec.toNat_ushiftRight, BitVec.toNat_shiftLeft]; rfl
theorem addE_eq (x y : U32) : addE x.toNat y.toNat = (x + y).toNat := (BitVec.toNat_add x y).symm
theorem xorE_eq (x y : U32) : Nat.xor x.toNat y.toNat = (x ^^^ y).toNat := (BitVec.toNat_xor x y).symm
theorem landE_eq (x y : U32) : Nat.land x.toNat y.toNat = (x &&& y).toNat := (BitVec.toNat_and x y).symm
theorem notE_eq (x : U32) : Nat.sub 4294967295 x.toNat = (~~~x).toNat := by rw [BitVec.toNat_not]; rfl
theorem shrE_eq (x : U32) (n : Nat) : Nat.shiftRight x.toNat n = (x >>> n).toNat := (BitVec.toNat_ushiftRight x n).symm
theorem e1E_eq (x : U32) : e1E x.toNat = (e1 x).toNat := by unfold e1E e1; simp only [rorE_eq, xorE_eq]
theorem e0E_eq (x : U32) : e0E x.toNat = (e0 x).toNat := by unfold e0E e0; simp only [rorE_eq, xorE_eq]
theorem s0E_eq (x : U32) : s0E x.toNat = (s0 x).toNat := by unfold s0E s0; simp only [rorE_eq, xorE_eq, shrE_eq]
theorem s1E_eq (x : U32) : s1E x.toNat = (s1 x).toNat := by unfold s1E s1; simp only [rorE_eq, xorE_eq, shrE_eq]
theorem chE_eq (e f g : U32) : chE e.toNat f.toNat g.toNat = (ch e f g).toNat := by unfold chE ch; simp only [notE_eq, landE_eq, xorE_eq]
theorem majE_eq (a b c : U32) : majE a.toNat b.toNat c.toNat = (maj a b c).toNat := by unfold majE maj; simp only [landE_eq, xorE_eq]
def roundsE : (ks ws : List Nat) → (a b c d e f g h : Nat) → List Nat
  | k :: ks, w :: ws, a, b, c, d, e, f, g, h =>
    fc (addE (addE (addE (addE h (e1E e)) (chE e f g)) k) w) fun t => fc (addE t (addE (e0E a) (majE a b c))) fun a' => fc (addE d t) fun e' => roundsE ks ws a' a b c e' e f g
  | _, _, a, b, c, d, e, f, g, h => [a, b, c, d, e, f, g, h]
def roundsL (v : St) : List U32 → List U32 → St
  | k :: ks, w :: ws => roundsL (rnd v k w) ks ws
  | _, _ => v
theorem roundsE_eq : ∀ (ks ws : List U32) (v : St), roundsE (ks.map BitVec.toNat) (ws.map BitVec.toNat) v.a.toNat v.b.toNat v.c.toNat v.d.toNat v.e.toNat v.f.toNat v.g.toNat v.h.toNat = (roundsL v ks ws).list.map BitVec.toNat
  | [], _, v => by simp [roundsE, roundsL, St.list]
  | k :: ks, [], v => by simp [roundsE, roundsL, St.list]
  | k :: ks, w :: ws, v => by
    have ih := roundsE_eq ks ws (rnd v k w)
    simp only [List.map_cons, roundsE, fc_eq, e1E_eq, e0E_eq, chE_eq, majE_eq, addE_eq, roundsL]
    exact ih
theorem roundsL_snoc : ∀ (ks ws : List U32) (v : St) (k w : U32), ks.length = ws.length → roundsL v (ks ++ [k]) (ws ++ [w]) = rnd (roundsL v ks ws) k w
  | [], [], v, k, w, _ => rfl
  | k' :: ks, w' :: ws, v, k, w, h => by
    simp only [List.cons_append, roundsL]
    exact roundsL_snoc ks ws _ k w (by simpa using h)
theorem take_snoc' {α : Type} (l : List α) (d : α) (k : Nat) (h : k < l.length) : l.take (k + 1) = l.take k ++ [l.getD k d] := by
  rw [List.take_succ_eq_append_getElem h, List.getD_eq_getElem?_getD, List.getElem?_eq_getElem h]; rfl
theorem rounds_eq (v : St) (ks ws : List U32) (n : Nat) (hk : n ≤ ks.length) (hw : n ≤ ws.length) : rounds v ks ws n = roundsL v (ks.take n) (ws.take n) := by
  induction n with
  | zero => simp [rounds, roundsL]
  | succ n ih =>
    rw [rounds, ih (by omega) (by omega), take_snoc' ks 0 n hk, take_snoc' ws 0 n hw, roundsL_snoc _ _ _ _ _ (by simp; omega)]
/-- n words more. -/
def more (w : List U32) : Nat → List U32
  | 0 => []
  | n + 1 => nextW w :: more (w ++ [nextW w]) n
theorem sched_more (bs : List UInt8) (n : Nat) : sched bs (16 + n) = sched bs 16 ++ more (sched bs 16) n := by
  have key : ∀ (n k : Nat), 16 ≤ k → sched bs (k + n) = sched bs k ++ more (sched bs k) n := by
    intro n
    induction n with
    | zero => intro k _; simp [more]
    | succ n ih =>
      intro k hk
      have hs : sched bs (k + 1) = sched bs k ++ [nextW (sched bs k)] := by rw [sched, if_neg (by omega)]
      rw [show k + (n + 1) = (k + 1) + n by omega, ih (k + 1) (by omega), hs, more]
      simp
  exact key n 16 (by omega)
def extE : (n : Nat) → (w0 w1 w2 w3 w4 w5 w6 w7 w8 w9 w10 w11 w12 w13 w14 w15 : Nat) → (List Nat → List Nat) → List Nat
  | 0, _, _, _, _, _, _, _, _, _, _, _, _, _, _, _, _, r => r []
  | n + 1, w0, w1, w2, w3, w4, w5, w6, w7, w8, w9, w10, w11, w12, w13, w14, w15, r =>
    fc (addE (addE (addE w0 (s0E w1)) w9) (s1E w14)) fun x => extE n w1 w2 w3 w4 w5 w6 w7 w8 w9 w10 w11 w12 w13 w14 w15 x fun l => r (x :: l)
theorem extE_eq : ∀ (n : Nat) (w : List U32) (w0 w1 w2 w3 w4 w5 w6 w7 w8 w9 w10 w11 w12 w13 w14 w15 : U32) (r : List Nat → List Nat),
    extE n w0.toNat w1.toNat w2.toNat w3.toNat w4.toNat w5.toNat w6.toNat w7.toNat w8.toNat w9.toNat w10.toNat w11.toNat w12.toNat w13.toNat w14.toNat w15.toNat r =
      r ((more (w ++ [w0, w1, w2, w3, w4, w5, w6, w7, w8, w9, w10, w11, w12, w13, w14, w15]) n).map BitVec.toNat)
  | 0, _, _, _, _, _, _, _, _, _, _, _, _, _, _, _, _, _, _ => by simp only [extE, more, List.map_nil]
  | n + 1, w, w0, w1, w2, w3, w4, w5, w6, w7, w8, w9, w10, w11, w12, w13, w14, w15, r => by
    have hn : nextW (w ++ [w0, w1, w2, w3, w4, w5, w6, w7, w8, w9, w10, w11, w12, w13, w14, w15]) = w0 + s0 w1 + w9 + s1 w14 := by
      unfold nextW
      simp only [List.length_append, List.length_cons, List.length_nil]
      simp only [List.getD_eq_getElem?_getD]
      rw [List.getElem?_append_right (by omega), List.getElem?_append_right (by omega), List.getElem?_append_right (by omega), List.getElem?_append_right (by omega)]
      rw [show w.length + (0 + 1 + 1 + 1 + 1 + 1 + 1 + 1 + 1 + 1 + 1 + 1 + 1 + 1 + 1 + 1 + 1) - 16 - w.length = 0 by omega, show w.length + (0 + 1 + 1 + 1 + 1 + 1 + 1 + 1 + 1 + 1 + 1 + 1 + 1 + 1 + 1 + 1 + 1) - 15 - w.length = 1 by omega,
        show w.length + (0 + 1 + 1 + 1 + 1 + 1 + 1 + 1 + 1 + 1 + 1 + 1 + 1 + 1 + 1 + 1 + 1) - 7 - w.length = 9 by omega, show w.length + (0 + 1 + 1 + 1 + 1 + 1 + 1 + 1 + 1 + 1 + 1 + 1 + 1 + 1 + 1 + 1 + 1) - 2 - w.length = 14 by omega]
      rfl
    simp only [extE, fc_eq, s0E_eq, s1E_eq, addE_eq]
    rw [extE_eq n (w ++ [w0]) w1 w2 w3 w4 w5 w6 w7 w8 w9 w10 w11 w12 w13 w14 w15 (w0 + s0 w1 + w9 + s1 w14)]
    simp only [more, hn, List.map_cons]
    simp
def wordE (b : List UInt8) : Nat := match b with | a :: b :: c :: d :: _ => Nat.add (Nat.mul (Nat.add (Nat.mul (Nat.add (Nat.mul a.toNat 256) b.toNat) 256) c.toNat) 256) d.toNat | _ => 0
def wordsE : Nat → List UInt8 → List Nat
  | 0, _ => []
  | n + 1, b => fc (wordE b) fun x => x :: wordsE n (b.drop 4)
def KE : List Nat := K.map BitVec.toNat
def blockE (kE : List Nat) (st : List Nat) (bs : List UInt8) : List Nat :=
  match wordsE 16 bs, st with
  | [w0, w1, w2, w3, w4, w5, w6, w7, w8, w9, w10, w11, w12, w13, w14, w15], [a, b, c, d, e, f, g, h] =>
    extE 48 w0 w1 w2 w3 w4 w5 w6 w7 w8 w9 w10 w11 w12 w13 w14 w15 fun l =>
      match roundsE kE (w0 :: w1 :: w2 :: w3 :: w4 :: w5 :: w6 :: w7 :: w8 :: w9 :: w10 :: w11 :: w12 :: w13 :: w14 :: w15 :: l) a b c d e f g h with
      | [a', b', c', d', e', f', g', h'] => fc (addE a' a) fun a => fc (addE b' b) fun b => fc (addE c' c) fun c => fc (addE d' d) fun d => fc (addE e' e) fun e => fc (addE f' f) fun f => fc (addE g' g) fun g => fc (addE h' h) fun h => [a, b, c, d, e, f, g, h]
      | _ => []
  | _, _ => []
theorem wordsE_eq (bs : List UInt8) (h : 64 ≤ bs.length) : wordsE 16 bs = (sched bs 16).map BitVec.toNat := by
  have key : ∀ (n k : Nat), k + n ≤ 16 → wordsE n (bs.drop (4 * k)) = ((List.range n).map fun j => (word bs (k + j)).toNat) := by
    intro n
    induction n with
    | zero => intro k _; rfl
    | succ n ih =>
      intro k hk
      rw [wordsE, fc_eq, List.drop_drop, show 4 * k + 4 = 4 * (k + 1) by omega, ih (k + 1) (by omega), List.range_succ_eq_map, List.map_cons, List.map_map]
      congr 1
      · have hl : 4 ≤ (bs.drop (4 * k)).length := by simp; omega
        simp only [word, Nat.add_zero]
        match hb : bs.drop (4 * k), hl with
        | a :: b :: c :: d :: r, _ =>
          simp [wordE, val]
          have := a.toNat_lt; have := b.toNat_lt; have := c.toNat_lt; have := d.toNat_lt
          omega
      · apply List.map_congr_left
        intro j _
        simp only [Function.comp, Nat.succ_eq_add_one]
        rw [show k + 1 + j = k + (j + 1) by omega]
  have h0 := key 16 0 (by omega)
  simp only [Nat.mul_zero, List.drop_zero, Nat.zero_add] at h0
  rw [h0]
  rfl
theorem list_plus (v s : St) : (v.plus s).list = [v.a + s.a, v.b + s.b, v.c + s.c, v.d + s.d, v.e + s.e, v.f + s.f, v.g + s.g, v.h + s.h] := rfl
theorem blockE_eq (ks : List U32) (hks : ks.length = 64) (s : St) (bs : List UInt8) (h : 64 ≤ bs.length) : blockE (ks.map BitVec.toNat) (s.list.map BitVec.toNat) bs = (block ks s bs).list.map BitVec.toNat := by
  have hl : (sched bs 16).length = 16 := sched_length bs 16
  have hm : sched bs 64 = sched bs 16 ++ more (sched bs 16) 48 := sched_more bs 48
  have hr := rounds_eq s ks (sched bs 64) 64 (by omega) (by rw [sched_length]; omega)
  rw [List.take_of_length_le (by omega), List.take_of_length_le (by rw [sched_length]; omega)] at hr
  have hk := roundsE_eq ks (sched bs 64) s
  unfold block
  rw [hr, list_plus]
  generalize roundsL s ks (sched bs 64) = v at hk ⊢
  clear hr
  generalize sched bs 64 = w64 at hm hk
  have hw := wordsE_eq bs h
  generalize sched bs 16 = w16 at hl hm hw
  unfold blockE
  rw [hw]
  match w16, hl with
  | [w0, w1, w2, w3, w4, w5, w6, w7, w8, w9, w10, w11, w12, w13, w14, w15], _ =>
    have he := extE_eq 48 [] w0 w1 w2 w3 w4 w5 w6 w7 w8 w9 w10 w11 w12 w13 w14 w15
    simp only [St.list, List.map_cons, List.map_nil]
    rw [he]
    simp only [List.nil_append]
    subst hm
    simp only [List.map_cons, List.map_nil, List.cons_append, List.nil_append, St.list] at hk
    rw [hk]
    simp only [fc_eq, addE_eq]
def blocksE (kE : List Nat) : Nat → List Nat → List UInt8 → List Nat
  | 0, st, _ => st
  | n + 1, st, b => blocksE kE n (blockE kE st (b.take 64)) (b.drop 64)
theorem blocksE_eq (ks : List U32) (hks : ks.length = 64) : ∀ (n : Nat) (s : St) (b : List UInt8), 64 * n ≤ b.length → blocksE (ks.map BitVec.toNat) n (s.list.map BitVec.toNat) b = (blocks ks s n b).list.map BitVec.toNat
  | 0, _, _, _ => rfl
  | n + 1, s, b, h => by
    rw [blocksE, blockE_eq ks hks s (b.take 64) (by simp; omega), blocksE_eq ks hks n _ _ (by simp; omega), blocks]
def startE : List Nat := start.list.map BitVec.toNat
def sumE (s : List UInt8) : List UInt8 := (blocksE KE ((pad s).length / 64) startE (pad s)).flatMap fun x => big x 4
theorem sum_eq : sum = sumE := by
  funext s
  unfold sum sumE startE KE
  rw [blocksE_eq K (by decide) _ _ _ (by have := pad_mod s; omega), St.bytes, List.flatMap_map]
def paddedE (key : List UInt8) (x : UInt8) : List UInt8 :=
  let k := if key.length > 64 then sumE key else key
  (k ++ List.replicate (64 - k.length) 0).map (· ^^^ x)
def macE (key s : List UInt8) : List UInt8 := sumE (paddedE key 92 ++ sumE (paddedE key 54 ++ s))
theorem mac_eq : mac = macE := by
  funext key s
  unfold mac macE padded paddedE
  rw [sum_eq]

theorem sum_abc : (sum [97, 98, 99]).take 4 = [0xba, 0x78, 0x16, 0xbf] ∧ (sum [97, 98, 99]).drop 28 = [0xf2, 0x00, 0x15, 0xad] := by
  rw [sum_eq]; decide +kernel
end Sha
end Go.Proofs.YtommbdlkmkphpaaDoor
