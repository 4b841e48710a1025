/- Words of 32 bits in the walk's spelling; walks of the hash's small functions: value, ror, big, keys. -/
import Derived.Test.YtommbdlkmkphpaaDoorRows
import Derived.Test.YtommbdlkmkphpaaDoorOwnF
import Derived.Test.YtommbdlkmkphpaaDoorShaM
import Derived.Handy
import Derived.Lib.EndianBits
import Derived.RegionTactic
import Derived.BigRegion
namespace Go.Proofs.YtommbdlkmkphpaaDoor
open Go.RowKit

section
variable (x y : U32)
theorem x_ofInt : BitVec.ofInt 32 (x.toNat : Int) = x := by simp
theorem x_wrap (n : Nat) : IntKind.u32.wrap (n : Int) = ((BitVec.ofNat 32 n).toNat : Int) := by rw [IntKind.wrap_u32, BitVec.toNat_ofNat]; omega
theorem x_bits (f : U32 → U32 → U32) (z : U32) (h : z = f x y) : IntKind.u32.wrap ((f (BitVec.ofInt 32 (x.toNat : Int)) (BitVec.ofInt 32 (y.toNat : Int))).toNat : Int) = (z.toNat : Int) := by
  rw [x_ofInt, x_ofInt, x_wrap, h]; simp
theorem x_xor : bits .xor .u32 (x.toNat : Int) (y.toNat : Int) = ((x ^^^ y).toNat : Int) := x_bits x y (· ^^^ ·) _ rfl
theorem x_and : bits .and .u32 (x.toNat : Int) (y.toNat : Int) = ((x &&& y).toNat : Int) := x_bits x y (· &&& ·) _ rfl
theorem x_or : bits .or .u32 (x.toNat : Int) (y.toNat : Int) = ((x ||| y).toNat : Int) := x_bits x y (· ||| ·) _ rfl
theorem x_add : ((x.toNat : Int) + (y.toNat : Int)) % (4294967296 : Int) = ((x + y).toNat : Int) := by rw [BitVec.toNat_add]; omega
theorem x_add4 (a b c d : U32) : ((a.toNat : Int) + (b.toNat : Int) + (c.toNat : Int) + (d.toNat : Int)) % (4294967296 : Int) = ((a + b + c + d).toNat : Int) := by
  simp only [BitVec.toNat_add]; omega
theorem x_add5 (a b c d e : U32) : ((a.toNat : Int) + (b.toNat : Int) + (c.toNat : Int) + (d.toNat : Int) + (e.toNat : Int)) % (4294967296 : Int) = ((a + b + c + d + e).toNat : Int) := by
  simp only [BitVec.toNat_add]; omega
theorem x_addw : IntKind.u32.wrap ((x.toNat : Int) + (y.toNat : Int)) = ((x + y).toNat : Int) := by rw [IntKind.wrap_u32]; exact x_add x y
theorem x_not : bits .xor .u32 4294967295 (x.toNat : Int) = ((~~~x).toNat : Int) := by
  have h := x_xor (BitVec.allOnes 32) x
  rw [BitVec.allOnes_xor] at h
  exact h
theorem x_shr3 : (x.toNat : Int) / (8 : Int) = ((x >>> 3).toNat : Int) := by rw [BitVec.toNat_ushiftRight, Nat.shiftRight_eq_div_pow]; rfl
theorem x_shr10 : (x.toNat : Int) / (1024 : Int) = ((x >>> 10).toNat : Int) := by rw [BitVec.toNat_ushiftRight, Nat.shiftRight_eq_div_pow]; rfl
theorem x_shr (n : Nat) : (x.toNat : Int) / 2 ^ n = ((x >>> n).toNat : Int) := by
  rw [BitVec.toNat_ushiftRight, Nat.shiftRight_eq_div_pow, Int.natCast_ediv, Int.natCast_pow]; rfl
theorem x_shl (n : Nat) : ((x.toNat : Int) * 2 ^ n) % (4294967296 : Int) = ((x <<< n).toNat : Int) := by
  rw [BitVec.toNat_shiftLeft, Nat.shiftLeft_eq, Int.natCast_emod, Int.natCast_mul, Int.natCast_pow]; rfl
theorem x_lt : (x.toNat : Int) < 4294967296 := by have := x.isLt; omega
end
section
variable (a b c d e f g h k w : U32)
theorem x_not' : bits .xor .u32 (if IntKind.u32.signed = true then -1 else IntKind.u32.max) (e.toNat : Int) = ((~~~e).toNat : Int) := x_not e
theorem x_e1 : bits .xor .u32 (bits .xor .u32 ((Sha.ror e 6).toNat : Int) ((Sha.ror e 11).toNat : Int)) ((Sha.ror e 25).toNat : Int) = ((Sha.e1 e).toNat : Int) := by rw [x_xor, x_xor]; rfl
theorem x_e0 : bits .xor .u32 (bits .xor .u32 ((Sha.ror a 2).toNat : Int) ((Sha.ror a 13).toNat : Int)) ((Sha.ror a 22).toNat : Int) = ((Sha.e0 a).toNat : Int) := by rw [x_xor, x_xor]; rfl
theorem x_ch : bits .xor .u32 (bits .and .u32 (e.toNat : Int) (f.toNat : Int)) (bits .and .u32 (bits .xor .u32 (if IntKind.u32.signed = true then -1 else IntKind.u32.max) (e.toNat : Int)) (g.toNat : Int)) = ((Sha.ch e f g).toNat : Int) := by
  rw [x_not', x_and, x_and, x_xor]; rfl
theorem x_maj : bits .xor .u32 (bits .xor .u32 (bits .and .u32 (a.toNat : Int) (b.toNat : Int)) (bits .and .u32 (a.toNat : Int) (c.toNat : Int))) (bits .and .u32 (b.toNat : Int) (c.toNat : Int)) = ((Sha.maj a b c).toNat : Int) := by
  rw [x_and, x_and, x_and, x_xor, x_xor]; rfl
theorem x_sum6 (p q r t u : U32) : ((d.toNat : Int) + ((p.toNat : Int) + (q.toNat : Int) + (r.toNat : Int) + (t.toNat : Int) + (u.toNat : Int))) % (4294967296 : Int) = ((d + (p + q + r + t + u)).toNat : Int) := by
  simp only [BitVec.toNat_add]; omega
theorem x_sum7 (p q r t u y z : U32) : ((p.toNat : Int) + (q.toNat : Int) + (r.toNat : Int) + (t.toNat : Int) + (u.toNat : Int) + ((y.toNat : Int) + (z.toNat : Int))) % (4294967296 : Int) = (((p + q + r + t + u) + (y + z)).toNat : Int) := by
  simp only [BitVec.toNat_add]; omega
theorem x_rnd_e : ((d.toNat : Int) + ((h.toNat : Int) + bits .xor .u32 (bits .xor .u32 ((Sha.ror e 6).toNat : Int) ((Sha.ror e 11).toNat : Int)) ((Sha.ror e 25).toNat : Int) +
    bits .xor .u32 (bits .and .u32 (e.toNat : Int) (f.toNat : Int)) (bits .and .u32 (bits .xor .u32 (if IntKind.u32.signed = true then -1 else IntKind.u32.max) (e.toNat : Int)) (g.toNat : Int)) + (k.toNat : Int) + (w.toNat : Int))) % (4294967296 : Int) =
    ((Sha.rnd ⟨a, b, c, d, e, f, g, h⟩ k w).e.toNat : Int) := by
  rw [x_e1, x_ch, x_sum6]; rfl
theorem x_rnd_a : ((h.toNat : Int) + bits .xor .u32 (bits .xor .u32 ((Sha.ror e 6).toNat : Int) ((Sha.ror e 11).toNat : Int)) ((Sha.ror e 25).toNat : Int) +
    bits .xor .u32 (bits .and .u32 (e.toNat : Int) (f.toNat : Int)) (bits .and .u32 (bits .xor .u32 (if IntKind.u32.signed = true then -1 else IntKind.u32.max) (e.toNat : Int)) (g.toNat : Int)) + (k.toNat : Int) + (w.toNat : Int) +
    (bits .xor .u32 (bits .xor .u32 ((Sha.ror a 2).toNat : Int) ((Sha.ror a 13).toNat : Int)) ((Sha.ror a 22).toNat : Int) +
      bits .xor .u32 (bits .xor .u32 (bits .and .u32 (a.toNat : Int) (b.toNat : Int)) (bits .and .u32 (a.toNat : Int) (c.toNat : Int))) (bits .and .u32 (b.toNat : Int) (c.toNat : Int)))) % (4294967296 : Int) =
    ((Sha.rnd ⟨a, b, c, d, e, f, g, h⟩ k w).a.toNat : Int) := by
  rw [x_e1, x_ch, x_e0, x_maj, x_sum7]; rfl
end
theorem u64_or_low (n b : Nat) (hn : n * 256 < 18446744073709551616) (hb : b < 256) : bits .or .u64 ((n : Int) * 256) (b : Int) = ((n * 256 + b : Nat) : Int) := by
  have e : bits .or .u64 ((n : Int) * 256) (b : Int) = bits .or .u64 (b : Int) ((n : Int) * 256) := by simp [bits, BitVec.or_comm]
  rw [e, u64_or8 _ _ (by omega) (by omega) (by omega) (by omega) (by omega)]
  omega
namespace Sha
theorem val_lt (l : List UInt8) : val l < 256 ^ l.length := by
  have key : ∀ (l : List UInt8) (n m : Nat), n < 256 ^ m → l.foldl (fun n b => n * 256 + b.toNat) n < 256 ^ (m + l.length) := by
    intro l
    induction l with
    | nil => intro n m h; simpa using h
    | cons b l ih =>
      intro n m h
      simp only [List.foldl_cons, List.length_cons]
      rw [show m + (l.length + 1) = (m + 1) + l.length by omega]
      refine ih _ _ ?_
      have := b.toNat_lt
      rw [Nat.pow_succ]; omega
  simpa [val] using key l 0 0 (by simp)
theorem val_snoc (l : List UInt8) (b : UInt8) : val (l ++ [b]) = val l * 256 + b.toNat := by simp [val]
theorem big_take (n k j : Nat) (h : j < k) : (big n k).take (j + 1) = (big n k).take j ++ [UInt8.ofNat (n / 256 ^ (k - 1 - j))] := by
  induction k generalizing n with
  | zero => omega
  | succ k ih =>
    simp only [big]
    by_cases hj : j < k
    · rw [List.take_append_of_le_length (by rw [big_length]; omega), List.take_append_of_le_length (by rw [big_length]; omega), ih _ hj, Nat.div_div_eq_div_mul, ← Nat.pow_succ']
      rw [show (k - 1 - j).succ = k + 1 - 1 - j by omega]
    · obtain rfl : j = k := by omega
      have hl := big_length (n / 256) j
      rw [List.take_of_length_le (by simp [hl]), List.take_append_of_le_length (by omega), List.take_of_length_le (by omega)]
      simp
end Sha

set_option maxHeartbeats 1000000 in
theorem value_any (l : List UInt8) (w : World) (hl : l.length ≤ 8) :
    Calls Tryd.prog 36 #[.string ⟨l.toArray⟩] w fun e w' => e = .returned (.int .u64 (Sha.val l)) ∧ w = w' := by
  go_enter Tryd.func36, Tryd.ntmps36
  go_wp2
  go_loop [3, 7] (fun n i => ∃ k : Nat, k ≤ l.length ∧ i = .int .i64 k ∧ n = .int .u64 (Sha.val (l.take k))) (fun _ i => l.length - (intOf i).toNat)
  case atStart => exact ⟨0, by omega, rfl, rfl⟩
  case round =>
    obtain ⟨k, hk, rfl, rfl⟩ := hrel
    obtain ⟨m, hm⟩ : ∃ m, Sha.val (l.take k) = m := ⟨_, rfl⟩
    have hlt := Sha.val_lt (l.take k)
    rw [hm] at hlt ⊢
    have HM := Lib.hid hm
    clear hm
    by_cases hkl : k < l.length
    · have hp : (256 : Nat) ^ (l.take k).length ≤ 256 ^ 7 := Nat.pow_le_pow_right (by decide) (by simp; omega)
      have hm' : m * 256 < 18446744073709551616 := by
        have : (256 : Nat) ^ 7 = 72057594037927936 := rfl
        omega
      have hb := (l[k]'hkl).toNat_lt
      have HS := Lib.hid ((congrArg Sha.val (List.take_succ_eq_append_getElem hkl)).trans (Sha.val_snoc _ _))
      have HO := Lib.hid (u64_or_low m (l[k]'hkl).toNat hm' (by omega))
      clear hlt hp
      go_wp2
      go_round
      case rel => exact ⟨k + 1, by omega, by go_num, by rw [HS.out, HM.out]; exact val_int (show bits .or .u64 ((m : Int) * 256) (IntKind.u64.wrap (((l[k]'hkl).toNat : Nat) : Int)) = _ from by rw [IntWalk.u64_in _ ⟨by omega, by omega⟩]; exact HO.out)⟩
      case measure => simp [intOf]; omega
    · obtain rfl : k = l.length := by omega
      clear hlt
      go_wp2
      go_ret
      exact ⟨ret_int (by rw [← HM.out, List.take_length]), rfl⟩

set_option maxHeartbeats 1000000 in
theorem rotl_any (x : U32) (n : Nat) (w : World) (h0 : 1 ≤ n) (h1 : n ≤ 31) :
    Calls Tryd.prog 38 #[.int .u32 x.toNat, .int .i64 (-(n : Int))] w fun e w' => e = .returned (.int .u32 (Sha.ror x n).toNat) ∧ w = w' := by
  have hx := x_lt x
  have hand : ∀ n : Fin 32, 1 ≤ n.val → bits .and .u64 (18446744073709551616 - (n.val : Int)) 31 = 32 - (n.val : Int) := by decide +kernel
  have ha : bits .and .u64 (IntKind.u64.wrap (-(n : Int))) 31 = 32 - (n : Int) := by
    rw [show IntKind.u64.wrap (-(n : Int)) = 18446744073709551616 - (n : Int) by rw [IntKind.wrap_u64]; omega]
    exact hand ⟨n, by omega⟩ h0
  clear hand
  go_enter Tryd.func38, Tryd.ntmps38
  go_wp2
  go_ret
  refine ⟨ret_int ?_, rfl⟩
  rw [show 32 - (32 - n) = n by omega, x_shl, x_shr, x_or]
  unfold Sha.ror
  rw [BitVec.or_comm]

set_option maxHeartbeats 1000000 in
theorem ror_any (x : U32) (n : Nat) (w : World) (h0 : 1 ≤ n) (h1 : n ≤ 31) :
    Calls Tryd.prog 37 #[.int .u32 x.toNat, .int .i64 n] w fun e w' => e = .returned (.int .u32 (Sha.ror x n).toNat) ∧ w = w' := by
  go_enter Tryd.func37, Tryd.ntmps37
  go_wp2_with fail
  refine (rotl_any x n w h0 h1).mono ?_
  rintro e w' ⟨rfl, rfl⟩
  go_wp2
  go_ret
  exact ⟨rfl, rfl⟩

/-- Words as cells. -/
def wcells (l : List U32) : List Value := l.map fun x => .int .u32 x.toNat
section
variable {P : Program}
theorem wpList_build_eq {ops : Array Oper} {rest : List Oper} {o : Oper} {a : Act} {w : World} {Q : Exit → Act → World → Prop} (hg : o.guard = none) (t : TypeId) (parts : Array (Nat × Operand)) (ho : o.op = .build t parts) (cells : Array Value)
    (hf : P.built t (parts.map fun (i, x) => (i, a.eval x)).toList = some cells)
    (h : wpList P ops Q rest (a.put o.dst (.agg cells)) w) : wpList P ops Q (o :: rest) a w :=
  wpList_build hg t parts ho (by rw [hf]; rfl) (by rw [hf]; exact h)
end
theorem setRow_heap {w : World} {g : Nat} {old cs : Array Value} {t : TypeId} {fr : Nat × Nat} (h : w.heap[g]? = some (.cells old t fr)) : (w.setRow g cs).heap[g]? = some (.cells cs t fr) := by
  simp [World.setRow, Array.getElem?_modify, h]
theorem setRow_ne {w : World} {g k : Nat} {cs : Array Value} (h : k ≠ g) : (w.setRow g cs).heap[k]? = w.heap[k]? := by
  simp [World.setRow, Array.getElem?_modify, Ne.symm h]
theorem setRow_touch (w : World) (g : Nat) (cs : Array Value) : Touch (· = g) w (w.setRow g cs) :=
  ⟨rfl, rfl, rfl, by simp, fun _ _ hn => setRow_ne hn⟩
theorem Tryd.keysSize : (Tryd.prog.info? 49).map (·.size) = some (wcells Sha.K).toArray.size := by kernel_rfl
theorem Tryd.byteInfo : (Tryd.prog.info? 5).map (fun i => (i.zero, i.size, i.bytes)) = some (some (.int .u8 0), 1, 1) := by kernel_rfl
theorem u8_big (n m : Nat) : ((n : Int) / 2 ^ (8 * m) % 256) = ((UInt8.ofNat (n / 256 ^ m)).toNat : Int) := by
  rw [UInt8.toNat_ofNat', show (256 : Nat) ^ m = 2 ^ (8 * m) by rw [Nat.pow_mul], Int.natCast_emod, Int.natCast_ediv, Int.natCast_pow]; rfl
theorem u8_wrap_nat (n : Nat) : IntKind.u8.wrap (n : Int) = ((UInt8.ofNat n).toNat : Int) := by rw [IntKind.wrap_u8, UInt8.toNat_ofNat']; omega
set_option maxHeartbeats 1000000 in
theorem big_any (w : World) (base : Nat) (v : Value) (l : List UInt8) (n k : Nat) (h : OwnF w base 1 v l.length (bytesOf l)) (hk : k ≤ 8) (hl : l.length + 8 ≤ 140737488355328) (hb : base ≤ w.heap.size) :
    Calls Tryd.prog 26 #[v, .int .u64 n, .int .i64 k] w fun e w' => ∃ v', e = .returned v' ∧ OwnF w' base 1 v' (l.length + k) (bytesOf (l ++ Sha.big n k)) ∧ Touch (fun b => v.ownBlock = some b) w w' ∧ (v'.ownBlock = v.ownBlock ∨ ∃ q, v'.ownBlock = some q ∧ w.heap.size ≤ q) := by
  have H := Lib.hid h
  clear h
  go_enter Tryd.func26, Tryd.ntmps26
  go_wp2
  go_loopw [0, 7] (fun v' i wr => ∃ j : Nat, j ≤ k ∧ i = .int .i64 ((k : Int) - 1 - j) ∧ OwnF wr base 1 v' (l.length + j) (bytesOf (l ++ (Sha.big n k).take j)) ∧ Touch (fun b => v.ownBlock = some b) w wr ∧ (v'.ownBlock = v.ownBlock ∨ ∃ q, v'.ownBlock = some q ∧ w.heap.size ≤ q)) (fun _ i _ => ((intOf i) + 1).toNat)
  case atStart => exact ⟨0, by omega, by go_num, by simpa using H.out, Touch.refl _ _, .inl rfl⟩
  case round =>
    obtain ⟨j, hj, rfl, ho, ht, hbl⟩ := hrel
    have HO := Lib.hid ho
    have HT := Lib.hid ht
    have HBL := Lib.hid hbl
    have hts := ht.size
    clear ho ht hbl
    by_cases hjk : j < k
    · have hsh : (8 * ((k : Int) - 1 - j)).toNat = 8 * (k - 1 - j) := by omega
      have HB := Lib.hid (u8_big n (k - 1 - j))
      have HT2 := Lib.hid (Sha.big_take n k j hjk)
      go_wp2_with (first | (at_builtin; go_must (refine wpList_append_ownF _ rfl (.tmp 14) (.tmp 20) 32 rfl base 5 1 1 _ Tryd.byteInfo Tryd.underlying32 rfl (by decide) u0 (l.length + j) (bytesOf (l ++ (Sha.big n k).take j)) rfl (HO.out.touch (S := fun _ => False) (.of_below (balloc wr _)) (fun _ _ h => h)) ⟨wr.heap.size, 0, none⟩ 1 1 [.int .u8 ((n : Int) / 2 ^ (8 * (k - 1 - j)) % 256)] rfl rfl (fun i u hi => by rw [addr_add, Nat.zero_add]; exact cell_of (heap_new wr _) (by simpa using hi)) (by intro u hu; simp at hu; subst hu; rfl) (by decide) (by unfold maxLen; omega) (by omega) (by simp; omega) ?_; intro v' w1 ho hgr hb1; have HO1 := Lib.hid ho; have HG1 := Lib.hid hgr; have HB1 := Lib.hid hb1; clear ho hgr hb1)))
      go_roundw
      case rel =>
        refine ⟨j + 1, by omega, by go_num, ?_, ?_, ?_⟩
        · have := HO1.out
          rw [HB.out] at this
          rw [HT2.out, ← List.append_assoc, bytesOf_append]
          exact this
        · have ht1 : Touch (fun b => u0.ownBlock = some b) wr w1 := (Touch.of_below (balloc wr _)).trans (touch_of_grown HG1.out) (fun _ _ h => h)
          refine HT.out.trans ht1 (fun q hq ho => ?_)
          rcases HBL.out with h | ⟨q', h, hq'⟩
          · exact h.symm.trans ho
          · rw [h] at ho; have := Option.some.inj ho; omega
        · rcases HB1.out with h | h
          · exact h.symm ▸ HBL.out
          · exact .inr ⟨_, h, by have := HT.out.size; simp; omega⟩
      case measure => simp [intOf]; omega
    · obtain rfl : j = k := by omega
      go_wp2
      go_ret
      exact ⟨_, rfl, by have := HO.out; rwa [List.take_of_length_le (by rw [Sha.big_length]; omega)] at this, HT.out, HBL.out⟩
end Go.Proofs.YtommbdlkmkphpaaDoor
