/- Walks of the document's side of chapter 04: times. -/
import Derived.Test.YtommbdlkmkphpaaDoorRtA
import Derived.Deep.QuietTactic
import Derived.BigQuiet
import Derived.IntWalk
import Derived.Deep.OwnRows
import Derived.Laws.BitsAllLaws
namespace Go.Proofs.YtommbdlkmkphpaaDoor
open Go.RowKit
namespace Rt
theorem val_nil_eq (l : List Nat) : val (l.take 0) = 0 := rfl
theorem pow_add' (i k z : Nat) : 65536 ^ (i + k) * z = 65536 ^ i * (65536 ^ k * z) := by rw [Nat.pow_add, Nat.mul_assoc]
/-- What the inner loop's round makes of the numbers. -/
theorem inner_step (out : List Nat) (i k a c v0 : Nat) (B : List Nat) (hk : k < B.length) (hp : i + k < out.length)
    (h0 : val out + 65536 ^ (i + k) * c = v0 + 65536 ^ i * (a * val (B.take k))) :
    val (out.set (i + k) ((c + (out[i + k] + a * B[k])) % 65536)) + 65536 ^ (i + (k + 1)) * ((c + (out[i + k] + a * B[k])) / 65536) = v0 + 65536 ^ i * (a * val (B.take (k + 1))) := by
  have h := step_val out (i + k) _ a B[k] c hp h0
  rw [show i + (k + 1) = i + k + 1 by omega, h, val_take_succ B k hk, Nat.mul_add, Nat.mul_add, pow_add']
  have e : a * (65536 ^ k * B[k]) = 65536 ^ k * (a * B[k]) := by rw [Nat.mul_left_comm]
  rw [e]; omega
theorem outer_step (A out : List Nat) (i c b v : Nat) (lb : Nat) (hi : i < A.length) (hp : i + lb < out.length) (hz : out[i + lb] = 0) (h0 : v = val (A.take i) * b)
    (h1 : val out + 65536 ^ (i + lb) * c = v + 65536 ^ i * (A[i] * b)) : val (out.set (i + lb) c) = val (A.take (i + 1)) * b := by
  have h := val_set out (i + lb) c hp
  rw [hz] at h
  rw [val_take_succ A i hi, Nat.add_mul, ← h0, Nat.mul_assoc]
  omega
end Rt
theorem Tryd.info64 : (Tryd.prog.info? 34).map (fun i => (i.zero, i.size, i.bytes)) = some (some (.int .u64 0), 1, 8) := by kernel_rfl
theorem Tryd.info32 : (Tryd.prog.info? 48).map (fun i => (i.zero, i.size, i.bytes)) = some (some (.int .u32 0), 1, 4) := by kernel_rfl
/-- make([]uint64, n). -/
theorem make64 (n : Nat) (m : Int) (hm : m = n) (hn : n ≤ 1000) (w : World) : ∃ w', (Instr.makeSlice 61 (.int .i64 m) (.int .i64 m)).run Tryd.prog w = .ok (.slice (some ⟨w.heap.size, 0, none⟩) n n) w' ∧ Row64 w' w.heap.size (List.replicate n 0) ∧ Below w.heap.size w w' := by
  subst hm
  refine ⟨_, run_make_row' 61 34 (.int .u64 0) 8 Tryd.underlying61 Tryd.info64 rfl .i64 .i64 n (by omega) (by omega) w, ?_, balloc _ _⟩
  refine ⟨heap_lt (heap_new w _), fun j v hj => ⟨cell_of (heap_new w _) ?_, free_of (heap_new w _) j⟩⟩
  have hjn : j < n := by have := (List.getElem?_eq_some_iff.1 hj).1; simpa [c64] using this
  simp [c64, hjn] at hj
  subst hj
  simp [madeCells, hjn, Nat.mod_one]
theorem and16 (S : Nat) (h : S < 18446744073709551616) : bits .and .u64 (S : Int) 65535 = ((S % 65536 : Nat) : Int) := by
  have := u64_and_nat S 65535 h (by decide)
  rw [show ((65535 : Nat) : Int) = 65535 from rfl] at this
  rw [this, show (65535 : Nat) = 2 ^ 16 - 1 from rfl, Nat.and_two_pow_sub_one_eq_mod]
theorem times_mul (a b : Nat) (ha : a < 65536) (hb : b < 65536) : (a : Int) * (b : Int) = ((a * b : Nat) : Int) ∧ a * b < 4294901761 := by
  have : a * b ≤ 65535 * 65535 := Nat.mul_le_mul (by omega) (by omega)
  exact ⟨by rw [Int.natCast_mul], by omega⟩
set_option maxHeartbeats 4000000 in
set_option maxRecDepth 100000 in
theorem times_any (w : World) (ga gb ca cb : Nat) (A B : List Nat) (hA : Row64 w ga A) (hB : Row64 w gb B) (dA : Rt.Dig A) (dB : Rt.Dig B) (hl : A.length + B.length ≤ 100) (hca : A.length ≤ ca) (hcb : B.length ≤ cb) (hlb : 1 ≤ B.length) :
    Calls Tryd.prog 47 #[.slice (some ⟨ga, 0, none⟩) A.length ca, .slice (some ⟨gb, 0, none⟩) B.length cb] w fun e w' => ∃ (g : Nat) (C : List Nat), e = .returned (.slice (some ⟨g, 0, none⟩) (A.length + B.length) (A.length + B.length)) ∧ Row64 w' g C ∧ C.length = A.length + B.length ∧ Rt.Dig C ∧ Rt.val C = Rt.val A * Rt.val B ∧ Below w.heap.size w w' := by
  have HA := Lib.hid hA
  have HB := Lib.hid hB
  obtain ⟨la, hla⟩ : ∃ la, A.length = la := ⟨_, rfl⟩
  obtain ⟨lb, hlb'⟩ : ∃ lb, B.length = lb := ⟨_, rfl⟩
  have HLA := Lib.hid hla
  have HLB := Lib.hid hlb'
  have HDA := Lib.hid dA
  have HDB := Lib.hid dB
  rw [hla] at hl hca ⊢
  rw [hlb'] at hl hcb hlb ⊢
  clear hA hB dA dB hla hlb'
  obtain ⟨w1, hmk, hr1, hb1⟩ := make64 (la + lb) ((la : Int) + (lb : Int)) (by omega) (by omega) w
  have R1 := Lib.hid hr1
  have B1 := Lib.hid hb1
  clear hr1 hb1
  go_enter Tryd.func47, Tryd.ntmps47
  go_wp2_with fail
  clear hmk
  go_loopw [6] (fun i wr => ∃ (k : Nat) (C : List Nat), k ≤ la ∧ i = .int .i64 k ∧ Hid (Row64 wr w.heap.size C ∧ C.length = la + lb ∧ Rt.Dig C ∧ (∀ (j : Nat) (h : j < C.length), k + lb ≤ j → C[j] = 0) ∧ Rt.val C = Rt.val (A.take k) * Rt.val B) ∧ Below w.heap.size w wr) (fun i _ => la - (intOf i).toNat)
  case atStart => exact ⟨0, List.replicate (la + lb) 0, by omega, rfl, Lib.hid ⟨R1.out, by simp, Rt.Dig.zeros _, fun j h _ => by simp, by rw [Rt.val_zeros, Rt.val_nil_eq, Nat.zero_mul]⟩, B1.out⟩
  case round =>
    obtain ⟨wo, hwo⟩ : ∃ wo, wo = wr := ⟨_, rfl⟩
    subst hwo
    obtain ⟨i, C, hi, rfl, HC, hb⟩ := hrel
    have HBW := Lib.hid hb
    clear hb R1 B1
    by_cases hil : i < la
    · have hil' : (i : Int) < (la : Int) := by omega
      have hiA : i < A.length := by rw [HLA.out]; exact hil
      obtain ⟨a, ha⟩ : ∃ a, A[i]'hiA = a := ⟨_, rfl⟩
      have ha6 : a < 65536 := by rw [← ha]; exact HDA.out _ (List.getElem_mem _)
      have HAI := Lib.hid ha
      clear ha
      go_wp2_with fail
      go_loopw [7, 8] (fun c j wr => ∃ (k c' : Nat) (D : List Nat), k ≤ lb ∧ j = .int .i64 k ∧ c = .int .u64 (c' : Int) ∧ c' < 65536 ∧ Hid (Row64 wr w.heap.size D ∧ D.length = la + lb ∧ Rt.Dig D ∧ (∀ (j : Nat) (h : j < D.length), i + lb ≤ j → D[j] = 0) ∧ Rt.val D + 65536 ^ (i + k) * c' = Rt.val C + 65536 ^ i * (a * Rt.val (B.take k))) ∧ Below w.heap.size w wr) (fun _ j _ => lb - (intOf j).toNat)
      case atStart => exact ⟨0, 0, C, by omega, rfl, rfl, by decide, Lib.hid ⟨HC.out.1, HC.out.2.1, HC.out.2.2.1, HC.out.2.2.2.1, by rw [Rt.val_nil_eq]; simp⟩, HBW.out⟩
      case round =>
        obtain ⟨k, c, D, hk, rfl, rfl, hc6, HD, hb⟩ := hrel
        have HBR := Lib.hid hb
        by_cases hkl : k < lb
        · have hkl' : (k : Int) < (lb : Int) := by omega
          have hkB : k < B.length := by rw [HLB.out]; exact hkl
          obtain ⟨b, hb'⟩ : ∃ b, B[k]'hkB = b := ⟨_, rfl⟩
          have hb6 : b < 65536 := by rw [← hb']; exact HDB.out _ (List.getElem_mem _)
          have hpD : i + k < D.length := by rw [HD.out.2.1]; omega
          obtain ⟨o, ho⟩ : ∃ o, D[i + k]'hpD = o := ⟨_, rfl⟩
          have ho6 : o < 65536 := by rw [← ho]; exact HD.out.2.2.1 _ (List.getElem_mem _)
          have HBK := Lib.hid hb'
          have HO := Lib.hid ho
          have c1 : wr.cell? ⟨w.heap.size, i + k, none⟩ = some (.int .u64 (o : Int)) := by rw [← ho]; exact HD.out.1.at hpD
          have f1 : wr.frozen? ⟨w.heap.size, i + k, none⟩ = false := HD.out.1.free hpD
          have c2 : wr.cell? ⟨ga, i, none⟩ = some (.int .u64 (a : Int)) := by rw [← HAI.out]; exact (HA.out.below hb).at hiA
          have c3 : wr.cell? ⟨gb, k, none⟩ = some (.int .u64 (b : Int)) := by rw [← hb']; exact (HB.out.below hb).at hkB
          clear hb hb' ho
          obtain ⟨hm1, hm2⟩ := times_mul a b ha6 hb6
          obtain ⟨m, hm⟩ : ∃ m, a * b = m := ⟨_, rfl⟩
          rw [hm] at hm1 hm2
          have HM := Lib.hid hm
          clear hm
          have s1 : IntKind.i64.wrap ((i : Int) + (k : Int)) = (i : Int) + (k : Int) := IntWalk.i64_in _ (by omega)
          have s2 : (0 : Int) ≤ (i : Int) + (k : Int) := by omega
          have s3 : ((i : Int) + (k : Int)).toNat = i + k := by omega
          have s4 : IntKind.u64.wrap (m : Int) = (m : Int) := IntWalk.u64_in _ (by omega)
          have s5 : IntKind.u64.wrap ((o : Int) + (m : Int)) = (o : Int) + (m : Int) := IntWalk.u64_in _ (by omega)
          have s6 : IntKind.u64.wrap ((c : Int) + ((o : Int) + (m : Int))) = (c : Int) + ((o : Int) + (m : Int)) := IntWalk.u64_in _ (by omega)
          have s7 : ¬ ((la : Int) + (lb : Int) ≤ (i : Int) + (k : Int)) := by omega
          have s8 : (i : Int) + (k : Int) < (la : Int) + (lb : Int) := by omega
          have s9 : (i : Int) + (k : Int) < ((la + lb : Nat) : Int) := by omega
          go_wp2_with fail
          go_quiet (fail)
          obtain ⟨S, hS⟩ : ∃ S, c + (o + m) = S := ⟨_, rfl⟩
          have hSl : S < 4294967296 := by have := Rt.step_lt c o a b hc6 ho6 ha6 hb6; rw [HM.out, hS] at this; exact this
          rw [show ((c : Int) + ((o : Int) + (m : Int))) = ((S : Nat) : Int) by omega]
          have HS := Lib.hid hS
          have hand := and16 S (by omega)
          clear s4 s5 s6 hS hm1 c1 c2 c3 f1
          have HR2 : Hid (Row64 (wr.drewN nq) w.heap.size D) := HD.out.1.below (below_drewN (Below.refl _ _) _)
          have HB2 : Hid (Below w.heap.size w (wr.drewN nq)) := below_drewN HBR.out _
          generalize wr.drewN nq = wq at HR2 HB2 ⊢
          obtain ⟨c1, f1⟩ : wq.cell? ⟨w.heap.size, i + k, none⟩ = some (.int .u64 (o : Int)) ∧ wq.frozen? ⟨w.heap.size, i + k, none⟩ = false := ⟨by rw [← HO.out]; exact HR2.out.at hpD, HR2.out.free hpD⟩
          go_wp2_with fail
          go_roundw
          case rel =>
            have hst := Rt.inner_step D i k a c (Rt.val C) B hkB hpD HD.out.2.2.2.2
            rw [HO.out, HBK.out, HM.out, HS.out] at hst
            have hdiv := Nat.div_lt_of_lt_mul (show S < 65536 * 65536 by omega)
            refine ⟨k + 1, S / 65536, D.set (i + k) (S % 65536), by omega, by go_num, by first | rfl | go_num, hdiv, Lib.hid ⟨HR2.out.set (i + k) (S % 65536), by rw [List.length_set]; exact HD.out.2.1, HD.out.2.2.1.set _ _ (Nat.mod_lt _ (by decide)), ?_, hst⟩, HB2.out.setCell (by exact Nat.le_refl _) _⟩
            intro j h hj
            rw [List.getElem_set_ne (by omega)]
            exact HD.out.2.2.2.1 j (by simpa using h) hj
          case measure => simp [intOf]; omega
        · obtain rfl : k = lb := by omega
          have hpD : i + k < D.length := by rw [HD.out.2.1]; omega
          have f1 : wr.frozen? ⟨w.heap.size, i + k, none⟩ = false := HD.out.1.free hpD
          have c1 := HD.out.1.at hpD
          have hz := HD.out.2.2.2.1 (i + k) hpD (Nat.le_refl _)
          rw [hz] at c1
          have HZ := Lib.hid hz
          have s8 : (i : Int) + (k : Int) < (la : Int) + (k : Int) := by omega
          have s3 : ((i : Int) + (k : Int)).toNat = i + k := by omega
          clear hz hb
          go_wp2_with fail
          go_roundw
          case rel =>
            have hst := HD.out.2.2.2.2
            rw [show B.take k = B from by rw [← HLB.out, List.take_length]] at hst
            refine ⟨i + 1, D.set (i + k) c, by omega, by go_num, Lib.hid ⟨HD.out.1.set (i + k) c, by rw [List.length_set]; exact HD.out.2.1, HD.out.2.2.1.set _ _ hc6, ?_, ?_⟩, HBR.out.setCell (by exact Nat.le_refl _) _⟩
            · intro j h hj
              rw [List.getElem_set_ne (by omega)]
              exact HD.out.2.2.2.1 j (by simpa using h) (by omega)
            · exact Rt.outer_step A D i c (Rt.val B) (Rt.val C) k hiA hpD HZ.out HC.out.2.2.2.2 (by rw [HAI.out]; exact hst)
          case measure => simp [intOf]; omega
    · obtain rfl : i = la := by omega
      go_wp2_with fail
      go_ret
      exact ⟨w.heap.size, C, rfl, HC.out.1, HC.out.2.1, HC.out.2.2.1, by have h := HC.out.2.2.2.2; rwa [← HLA.out, List.take_length] at h, HBW.out⟩
end Go.Proofs.YtommbdlkmkphpaaDoor
