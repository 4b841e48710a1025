/- Walks of the log's leaves: Sum, put, of. -/
import Derived.Test.YtpjpknndfhablaaBitA
import Derived.Test.YtpjpknndfhablaaWalM
import Derived.Deep.QuietTactic
import Derived.BigQuiet
import Derived.IntWalk
import Derived.Deep.OwnRows
namespace Go.Proofs.Ytpjpknndfhablaa
open Go.RowKit
theorem u32_low1 {r : U32} (h : r &&& 1 = 1) : bits .and .u32 (r.toNat : Int) 1 = 1 := by
  have := x_and r 1
  rw [h] at this
  exact this
theorem u32_low0 {r : U32} (h : ¬ (r &&& 1 = 1)) : bits .and .u32 (r.toNat : Int) 1 = 0 := by
  have e : r &&& 1 = 0 := by
    apply BitVec.eq_of_toNat_eq
    have h1 : (r &&& 1).toNat = r.toNat % 2 := by rw [BitVec.toNat_and]; exact Nat.and_one_is_mod _
    have h2 : ¬ (r &&& 1).toNat = 1 := fun h2 => h (BitVec.eq_of_toNat_eq h2)
    rw [h1] at h2 ⊢
    show r.toNat % 2 = 0
    omega
  have := x_and r 1
  rw [e] at this
  exact this
theorem u32_half (r : U32) : (r.toNat : Int) / (2 : Int) = ((r >>> 1).toNat : Int) := by rw [BitVec.toNat_ushiftRight, Nat.shiftRight_eq_div_pow]; rfl
theorem u32_poly (r : U32) : bits .xor .u32 ((r >>> 1).toNat : Int) 3988292384 = ((r >>> 1 ^^^ Crc.poly).toNat : Int) := x_xor (r >>> 1) Crc.poly
theorem u32_mix (r : U32) (x : UInt8) : bits .xor .u32 (r.toNat : Int) (x.toNat : Int) = ((r ^^^ BitVec.ofNat 32 x.toNat).toNat : Int) := by
  have h := x_xor r (BitVec.ofNat 32 x.toNat)
  have e : (BitVec.ofNat 32 x.toNat).toNat = x.toNat := by have := x.toNat_lt; rw [BitVec.toNat_ofNat]; omega
  rw [e] at h
  exact h
set_option maxHeartbeats 1000000 in
theorem wsum_any (l : List UInt8) (w : World) (hl : l.length ≤ 140737488355328) :
    Calls Try.prog 33 #[.string ⟨l.toArray⟩] w fun e w' => e = .returned (.int .u32 (Wal.crc l)) ∧ w = w' := by
  go_enter Try.func33, Try.ntmps33
  go_wp2
  go_loop [3, 8] (fun r i => ∃ k : Nat, k ≤ l.length ∧ i = .int .i64 k ∧ r = .int .u32 (((l.take k).foldl Crc.byte 0xffffffff).toNat)) (fun _ i => l.length - (intOf i).toNat)
  case atStart => exact ⟨0, by omega, rfl, rfl⟩
  case round =>
    obtain ⟨k, hk, rfl, rfl⟩ := hrel
    obtain ⟨r, hr⟩ : ∃ r, (l.take k).foldl Crc.byte 0xffffffff = r := ⟨_, rfl⟩
    rw [hr]
    have HR := Lib.hid hr
    clear hr
    by_cases hkl : k < l.length
    · obtain ⟨x, hx⟩ : ∃ x, l[k]'hkl = x := ⟨_, rfl⟩
      have hb := x.toNat_lt
      have HS : Hid ((l.take (k + 1)).foldl Crc.byte 0xffffffff = Crc.steps 8 (r ^^^ BitVec.ofNat 32 x.toNat)) := by
        rw [List.take_succ_eq_append_getElem hkl, List.foldl_append, HR.out, hx]; rfl
      have HX := Lib.hid (u32_mix r x)
      have hx2 : (⟨l.toArray⟩ : ByteArray)[k]'hkl = x := hx
      clear hx
      go_wp2
      go_loop [3, 17] (fun q i => ∃ j : Nat, j ≤ 8 ∧ i = .int .i64 j ∧ q = .int .u32 (Crc.steps j (r ^^^ BitVec.ofNat 32 x.toNat)).toNat) (fun _ i => 8 - (intOf i).toNat)
      case atStart => exact ⟨0, by omega, rfl, val_int HX.out⟩
      case round =>
        obtain ⟨j, hj, rfl, rfl⟩ := hrel
        obtain ⟨q, hq⟩ : ∃ q, Crc.steps j (r ^^^ BitVec.ofNat 32 x.toNat) = q := ⟨_, rfl⟩
        rw [hq]
        have HQ := Lib.hid hq
        clear hq
        by_cases hj8 : j < 8
        · by_cases hq1 : q &&& 1 = 1
          · have HN : Hid (Crc.steps (j + 1) (r ^^^ BitVec.ofNat 32 x.toNat) = q >>> 1 ^^^ Crc.poly) := Lib.hid (by rw [Crc.steps, HQ.out, Crc.step, if_pos hq1])
            have hA := u32_low1 hq1
            have HB := Lib.hid (u32_half q)
            have HC := Lib.hid (u32_poly q)
            clear hq1
            go_wp2
            go_round
            case rel => exact ⟨j + 1, by omega, by go_num, by rw [HN.out, ← HC.out, ← HB.out]⟩
            case measure => simp [intOf]; omega
          · have HN : Hid (Crc.steps (j + 1) (r ^^^ BitVec.ofNat 32 x.toNat) = q >>> 1) := Lib.hid (by rw [Crc.steps, HQ.out, Crc.step, if_neg hq1])
            have hA := u32_low0 hq1
            have HB := Lib.hid (u32_half q)
            clear hq1
            go_wp2
            go_round
            case rel => exact ⟨j + 1, by omega, by go_num, by rw [HN.out, ← HB.out]⟩
            case measure => simp [intOf]; omega
        · obtain rfl : j = 8 := by omega
          go_wp2
          go_round
          case rel => exact ⟨k + 1, by omega, by go_num, by rw [HS.out, HQ.out]⟩
          case measure => simp [intOf]; omega
    · obtain rfl : k = l.length := by omega
      have HN : Hid (bits .xor .u32 IntKind.u32.max (r.toNat : Int) = ((~~~r).toNat : Int)) := Lib.hid (x_not r)
      go_wp2
      go_ret
      refine ⟨ret_int ?_, rfl⟩
      rw [HN.out, Wal.crc, Crc.sum, ← HR.out, List.take_length]
theorem bytes_set_front (L : List UInt8) (n k : Nat) (h : k < L.length) (hn : k < n) : (L.take k ++ List.replicate (n - k) 0).set k (L[k]'h) = L.take (k + 1) ++ List.replicate (n - (k + 1)) 0 := by
  have hl : (L.take k).length = k := by simp; omega
  rw [List.set_append_right _ _ (by omega), hl, Nat.sub_self, show n - k = (n - (k + 1)) + 1 by omega, List.replicate_succ, List.set_cons_zero, List.take_succ_eq_append_getElem h, List.append_assoc]
  rfl
set_option maxHeartbeats 1000000 in
theorem of_any (l : List UInt8) (w : World) (hl : l.length ≤ 8) :
    Calls Try.prog 104 #[.string ⟨l.toArray⟩] w fun e w' => e = .returned (.int .u64 (Sha.val l)) ∧ w = w' := by
  go_enter Try.func104, Try.ntmps104
  go_wp2
  go_loop [3, 7] (fun n i => ∃ k : Nat, k ≤ l.length ∧ i = .int .i64 k ∧ n = .int .u64 (Sha.val (l.take k))) (fun _ i => l.length - (intOf i).toNat)
  case atStart => exact ⟨0, by omega, rfl, rfl⟩
  case round =>
    obtain ⟨k, hk, rfl, rfl⟩ := hrel
    obtain ⟨m, hm⟩ : ∃ m, Sha.val (l.take k) = m := ⟨_, rfl⟩
    have hlt := Sha.val_lt (l.take k)
    rw [hm] at hlt ⊢
    have HM := Lib.hid hm
    clear hm
    by_cases hkl : k < l.length
    · have hp : (256 : Nat) ^ (l.take k).length ≤ 256 ^ 7 := Nat.pow_le_pow_right (by decide) (by simp; omega)
      have hm' : m * 256 < 18446744073709551616 := by
        have : (256 : Nat) ^ 7 = 72057594037927936 := rfl
        omega
      have hb := (l[k]'hkl).toNat_lt
      have HS := Lib.hid ((congrArg Sha.val (List.take_succ_eq_append_getElem hkl)).trans (Sha.val_snoc _ _))
      have HO := Lib.hid (u64_or_low m (l[k]'hkl).toNat hm' (by omega))
      clear hlt hp
      go_wp2
      go_round
      case rel => exact ⟨k + 1, by omega, by go_num, by rw [HS.out, HM.out]; exact val_int (show bits .or .u64 ((m : Int) * 256) (IntKind.u64.wrap (((l[k]'hkl).toNat : Nat) : Int)) = _ from by rw [IntWalk.u64_in _ ⟨by omega, by omega⟩]; exact HO.out)⟩
      case measure => simp [intOf]; omega
    · obtain rfl : k = l.length := by omega
      clear hlt
      go_wp2
      go_ret
      exact ⟨ret_int (by rw [← HM.out, List.take_length]), rfl⟩
/-- A row of bytes that lies in a block, none of them frozen. -/
def RowB (w : World) (g : Nat) (l : List UInt8) : Prop := g < w.heap.size ∧ ∀ (j : Nat) (x : UInt8), l[j]? = some x → w.cell? ⟨g, j, none⟩ = some (.int .u8 x.toNat) ∧ w.frozen? ⟨g, j, none⟩ = false
theorem RowB.set {w : World} {g : Nat} {l : List UInt8} (h : RowB w g l) (k : Nat) (x : UInt8) : RowB (w.setCell ⟨g, k, none⟩ (.int .u8 x.toNat)) g (l.set k x) := by
  refine ⟨by simpa using h.1, fun j y hj => ?_⟩
  by_cases e : j = k
  · subst e
    have hlt : j < l.length := by have := (List.getElem?_eq_some_iff.1 hj).1; simpa using this
    have hc := h.2 j _ (List.getElem?_eq_getElem hlt)
    rw [List.getElem?_set_self hlt] at hj
    cases hj
    exact ⟨World.cell?_setCell_same' _ _ _ (by rw [hc.1]; rfl), by rw [World.frozen?_setCell]; exact hc.2⟩
  · rw [List.getElem?_set_ne (Ne.symm e)] at hj
    have hc := h.2 j y hj
    exact ⟨by rw [World.cell?_setCell_other _ _ _ _ (by intro h; simp only [Addr.mk.injEq] at h; omega)]; exact hc.1, by rw [World.frozen?_setCell]; exact hc.2⟩
theorem make8 (n : Nat) (m : Int) (hm : m = n) (hn : n ≤ 1000) (w : World) : ∃ w', (Instr.makeSlice 63 (.int .i64 m) (.int .i64 m)).run Try.prog w = .ok (.slice (some ⟨w.heap.size, 0, none⟩) n n) w' ∧ RowB w' w.heap.size (List.replicate n 0) ∧ Below w.heap.size w w' := by
  subst hm
  refine ⟨_, run_make_row' 63 5 (.int .u8 0) 1 Try.underlying63 Try.byteInfo rfl .i64 .i64 n (by omega) (by omega) w, ?_, balloc _ _⟩
  refine ⟨heap_lt (heap_new w _), fun j v hj => ⟨cell_of (heap_new w _) ?_, free_of (heap_new w _) j⟩⟩
  have hjn : j < n := by have := (List.getElem?_eq_some_iff.1 hj).1; simpa using this
  simp [hjn] at hj
  subst hj
  simp [madeCells, hjn, Nat.mod_one]
theorem ownF_row {w : World} {g base : Nat} {l : List UInt8} (h : RowB w g l) (hb : base ≤ g) (hl : l.length ≤ maxLen) : OwnF w base 1 (.slice (some ⟨g, 0, none⟩) l.length l.length) l.length (bytesOf l) := by
  refine ⟨by simp [bytesOf], .inr ⟨g, l.length, rfl, hb, h.1, Nat.le_refl _, hl, fun j hj => ?_, fun j u hu => ?_⟩⟩
  · have hc := h.2 j _ (List.getElem?_eq_getElem (by omega))
    exact ⟨by rw [hc.1]; rfl, hc.2⟩
  · simp only [bytesOf, List.getElem?_map] at hu
    obtain ⟨x, hx, rfl⟩ := Option.map_eq_some_iff.1 hu
    exact (h.2 j x hx).1
set_option maxHeartbeats 2000000 in
theorem put_any (n k : Nat) (w : World) (hk : k ≤ 8) (_hn : n < 18446744073709551616) :
    Calls Try.prog 100 #[.int .u64 n, .int .i64 k] w fun e w' => e = .returned (.string ⟨(Sha.big n k).toArray⟩) ∧ Below w.heap.size w w' := by
  obtain ⟨w1, hmk, hr1, hb1⟩ := make8 k k rfl (by omega) w
  have R1 := Lib.hid hr1
  have B1 := Lib.hid hb1
  clear hr1 hb1
  obtain ⟨L, hL⟩ : ∃ L, Sha.big n k = L := ⟨_, rfl⟩
  have hLl : L.length = k := by rw [← hL]; exact Sha.big_length _ _
  have hat : ∀ (j : Nat) (h : j < L.length), (L[j]'h) = UInt8.ofNat (n / 256 ^ (k - 1 - j)) := fun j h => by
    have h1 := Sha.big_take n k j (by omega)
    rw [hL, List.take_succ_eq_append_getElem h] at h1
    simpa using List.append_cancel_left h1
  have HAT := Lib.hid hat
  rw [hL]
  clear hL hat
  go_enter Try.func100, Try.ntmps100
  go_wp2_with fail
  clear hmk
  go_loopw [11] (fun i wr => ∃ j : Nat, j ≤ k ∧ i = .int .i64 j ∧ RowB wr w.heap.size (L.take j ++ List.replicate (k - j) 0) ∧ Below w.heap.size w wr) (fun i _ => k - (intOf i).toNat)
  case atStart => exact ⟨0, by omega, rfl, by simpa using R1.out, B1.out⟩
  case round =>
    obtain ⟨j, hj, rfl, hr, hb⟩ := hrel
    have HR := Lib.hid hr
    have HB := Lib.hid hb
    clear hr hb
    by_cases hjk : j < k
    · have hjl : j < L.length := by omega
      have hsh : (8 * ((k : Int) - 1 - j)).toNat = 8 * (k - 1 - j) := by omega
      have HV := Lib.hid (u8_big n (k - 1 - j))
      have hc := HR.out.2 j 0 (by rw [List.getElem?_append_right (by simp; omega), List.length_take, Nat.min_eq_left (by omega), Nat.sub_self, show k - j = (k - j - 1) + 1 by omega]; rfl)
      have hc1 := hc.1
      have hc2 := hc.2
      clear hc
      go_wp2
      go_roundw
      case rel =>
        refine ⟨j + 1, by omega, by go_num, ?_, HB.out.setCell (p := ⟨w.heap.size, j, none⟩) (Nat.le_refl _) _⟩
        have h := HR.out.set j (L[j]'hjl)
        rw [bytes_set_front L k j hjl hjk, HAT.out j hjl, ← HV.out] at h
        exact h
      case measure => simp [intOf]; omega
    · obtain rfl : j = k := by omega
      have hr2 : RowB wr w.heap.size L := by
        have h := HR.out
        rw [Nat.sub_self, List.replicate_zero, List.append_nil, List.take_of_length_le (by omega)] at h
        exact h
      have HO := Lib.hid (ownF_row hr2 (Nat.le_refl _) (by unfold maxLen; omega))
      rw [hLl] at HO
      clear hr2
      go_wp2_with (first | (refine wpList_convert_string _ rfl 63 9 5 (.tmp 26) rfl Try.underlying63 Try.underlying5 Try.underlying9 rfl (by rw [hLl]; exact HO.out) ?_))
      go_ret
      exact ⟨rfl, HB.out⟩
end Go.Proofs.Ytpjpknndfhablaa
