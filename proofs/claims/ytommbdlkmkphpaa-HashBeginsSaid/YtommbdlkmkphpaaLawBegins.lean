/- Walk of HashBegins. -/
import Derived.Test.YtommbdlkmkphpaaHshW
import Derived.Deep.QuietTactic
import Derived.BigQuiet
namespace Go.Proofs.Ytommbdlkmkphpaa
open Go.RowKit
set_option maxHeartbeats 4000000 in
set_option maxRecDepth 100000 in
theorem begins_no (pass salt : List UInt8) (r n : Int) (w : World) (hp : pass.length ≤ 140737488351232) (hs : salt.length ≤ 140737488351232) (h : (r < 1 ∨ 64 < r) ∨ (1 ≤ r ∧ r ≤ 64 ∧ (n < 1 ∨ 96 < n))) :
    Calls Try.prog 8 #[.string ⟨pass.toArray⟩, .string ⟨salt.toArray⟩, .agg #[.int .i64 r, .int .i64 n]] w fun e w' => e = .returned (.bool true) ∧ Below w.heap.size w w' := by
  obtain ⟨E, hE, hE2⟩ : ∃ E : Int, Sha.stretch pass salt r n = ([], E) ∧ (E = 40 ∨ E = 41) := by
    by_cases h1 : r < 1 ∨ r > 64
    · exact ⟨40, by unfold Sha.stretch; rw [if_pos h1], .inl rfl⟩
    · exact ⟨41, by unfold Sha.stretch; rw [if_neg h1, if_pos (by omega)], .inr rfl⟩
  have HE := Lib.hid hE
  have hE0 : (E == 0) = false := by rcases hE2 with rfl | rfl <;> rfl
  have hE1 : (E != 0) = true := by rcases hE2 with rfl | rfl <;> rfl
  clear hE hE2
  go_enter Try.func8, Try.ntmps8
  go_wp2_with fail
  have HN0 := Lib.hid (heap_new w (.cells #[.int .i64 r, .int .i64 n] 28))
  refine (stretch_any pass salt r n _ (by omega) (by omega)).mono ?_
  rw [HE.out]
  rintro e w1 ⟨rfl, b1⟩
  have HN1 := Lib.hid (stays HN0.out b1)
  have B1 := Lib.hid (bthen (balloc w _) b1)
  clear b1
  go_wp2_with fail
  refine (awake_any w1).mono ?_
  rintro e w2 ⟨rfl, b2⟩
  have HN2 := Lib.hid (stays HN1.out b2)
  have B2 := Lib.hid (bthen B1.out b2)
  clear b2
  obtain ⟨c0, c1, _, _⟩ := cells2 HN2.out
  rcases h with (h | h) | ⟨h1, h2, h | h⟩
  · go_wp2_with fail
    go_ret
    exact ⟨rfl, B2.out⟩
  · have h' : ¬ (r < 1) := by omega
    go_wp2_with fail
    go_ret
    exact ⟨rfl, B2.out⟩
  · have h' : ¬ (r < 1) := by omega
    have h'' : ¬ (64 < r) := by omega
    go_wp2_with fail
    go_ret
    exact ⟨rfl, B2.out⟩
  · have h' : ¬ (r < 1) := by omega
    have h'' : ¬ (64 < r) := by omega
    have h3 : ¬ (n < 1) := by omega
    go_wp2_with fail
    go_ret
    exact ⟨rfl, B2.out⟩
set_option maxHeartbeats 8000000 in
set_option maxRecDepth 100000 in
theorem begins_yes (pass salt : List UInt8) (R N : Nat) (w : World) (hp : pass.length ≤ 140737488351232) (hs : salt.length ≤ 140737488351232) (h1 : 1 ≤ R) (h2 : R ≤ 64) (h3 : 1 ≤ N) (h4 : N ≤ 96) :
    Calls Try.prog 8 #[.string ⟨pass.toArray⟩, .string ⟨salt.toArray⟩, .agg #[.int .i64 R, .int .i64 N]] w fun e w' => e = .returned (.bool true) ∧ Below w.heap.size w w' := by
  obtain ⟨C, hC⟩ : ∃ C, Sha.chunks pass salt R 3 = C := ⟨_, rfl⟩
  have hCL : C.length = 96 := by rw [← hC]; exact Sha.chunks_length _ _ _ _
  obtain ⟨X, hX⟩ : ∃ X, C.take N = X := ⟨_, rfl⟩
  have hXL : X.length = N := by rw [← hX]; simp; omega
  have hY : C.take 96 = C := List.take_of_length_le (by omega)
  obtain ⟨S4, hS4⟩ : ∃ S4, salt ++ [0, 0, 0, 1] = S4 := ⟨_, rfl⟩
  obtain ⟨U, hU⟩ : ∃ U, Sha.mac pass S4 = U := ⟨_, rfl⟩
  obtain ⟨V, hV⟩ : ∃ V, Sha.mac pass U = V := ⟨_, rfl⟩
  have hSL : S4.length ≤ 140737488355000 := by rw [← hS4]; simp; omega
  have hUL : U.length = 32 := by rw [← hU]; exact Sha.mac_length _ _
  have hVL : V.length = 32 := by rw [← hV]; exact Sha.mac_length _ _
  have HC := Lib.hid hC
  have HCL := Lib.hid hCL
  have HX := Lib.hid hX
  have HXL := Lib.hid hXL
  have HY := Lib.hid hY
  have HS4 := Lib.hid hS4
  have HU := Lib.hid hU
  have HV := Lib.hid hV
  have HUL := Lib.hid hUL
  have HVL := Lib.hid hVL
  have H1 : Hid (R = 1 → C.take 32 = U) := fun h => by subst h; rw [← HC.out, ← HU.out, ← HS4.out]; exact Sha.begins_one pass salt
  have H2 : Hid (R = 2 → C.take 32 = List.zipWith (· ^^^ ·) U V) := fun h => by subst h; rw [← HC.out, ← HV.out, ← HU.out, ← HS4.out]; exact Sha.begins_two pass salt
  have HXE : Hid ((⟨C.toArray⟩ : ByteArray).extract 0 N = ⟨X.toArray⟩) := by
    have h := bytes_extract C N
    rw [HX.out] at h
    exact h
  have HSE : Hid ((⟨salt.toArray⟩ : ByteArray) ++ ⟨#[0, 0, 0, 1]⟩ = ⟨S4.toArray⟩) := by
    have h := bytes_append salt [0, 0, 0, 1]
    rw [HS4.out] at h
    exact h
  have hUl : U.length ≤ 140737488355000 := by omega
  have HSl := Lib.hid hSL
  clear hC hCL hX hXL hY hS4 hU hV hUL hVL hSL
  have HP : Hid (pass.length ≤ 140737488355200) := by have h : pass.length ≤ 140737488355200 := by { omega }; exact h
  go_enter Try.func8, Try.ntmps8
  go_wp2_with fail
  have HN0 := Lib.hid (heap_new w (.cells #[.int .i64 R, .int .i64 N] 28))
  refine (stretch_ok_any pass salt R N _ HP.out (by omega) h1 h2 h3 h4).mono ?_
  rw [HC.out, HX.out]
  rintro e w1 ⟨rfl, b1⟩
  have HN1 := Lib.hid (stays HN0.out b1)
  have B1 := Lib.hid (bthen (balloc w _) b1)
  clear b1
  go_wp2_with fail
  refine (awake_any w1).mono ?_
  rintro e w2 ⟨rfl, b2⟩
  have HN2 := Lib.hid (stays HN1.out b2)
  have B2 := Lib.hid (bthen B1.out b2)
  clear b2
  obtain ⟨c0, c1, _, _⟩ := cells2 HN2.out
  go_wp2_with fail
  refine (stretch_ok_any pass salt R 96 w2 HP.out (by omega) h1 h2 (by decide) (by decide)).mono ?_
  rw [HC.out, HY.out]
  rintro e w3 ⟨rfl, b3⟩
  have HN3 := Lib.hid (stays HN2.out b3)
  have B3 := Lib.hid (bthen B2.out b3)
  clear b3 c0 c1
  obtain ⟨c0, c1, _, _⟩ := cells2 HN3.out
  have l1 := HXL.out
  have l2 := HCL.out
  have x1 := HXE.out
  have x2 := HSE.out
  have hn96 : (N : Int) ≤ 96 := by omega
  have hcat : ¬ (9223372036854775807 < salt.length + 4) := by omega
  go_wp2_with fail
  clear x2 hcat
  refine (mac_any pass S4 w3 HP.out HSl.out).mono ?_
  rw [HU.out]
  rintro e w4 ⟨rfl, b4⟩
  have HN4 := Lib.hid (stays HN3.out b4)
  have B4 := Lib.hid (bthen B3.out b4)
  clear b4
  go_wp2_with fail
  refine (mac_any pass U w4 HP.out hUl).mono ?_
  rw [HV.out]
  rintro e w5 ⟨rfl, b5⟩
  have HN5 := Lib.hid (stays HN4.out b5)
  have B5 := Lib.hid (bthen B4.out b5)
  clear b5 c0 c1
  obtain ⟨c0, c1, _, _⟩ := cells2 HN5.out
  have l3 := HUL.out
  have l4 := HVL.out
  by_cases hR1 : R = 1
  · subst hR1
    have x3 : (⟨C.toArray⟩ : ByteArray).extract 0 32 = ⟨U.toArray⟩ := by rw [bytes_extract, H1.out rfl]
    go_wp2_with fail
    go_ret
    exact ⟨rfl, B5.out⟩
  · by_cases hR2 : R = 2
    · subst hR2
      have HZ := Lib.hid (H2.out rfl)
      clear H1 H2 hR1
      rw [show ((2 : Nat) : Int) = 2 from rfl] at c0 ⊢
      go_wp2_with fail
      clear c0 c1
      go_loopw [13] (fun i wr => ∃ k : Nat, k ≤ 32 ∧ i = .int .i64 k ∧ Below w5.heap.size w5 wr) (fun i _ => 32 - (intOf i).toNat)
      case atStart => exact ⟨0, by omega, rfl, Below.refl _ _⟩
      case round =>
        obtain ⟨k, hk32, rfl, hb⟩ := hrel
        have HB := Lib.hid hb
        obtain ⟨c0, c1, _, _⟩ := cells2 (stays HN5.out hb)
        clear hb
        by_cases hk : k < 32
        · have hk' : (k : Int) < 32 := by omega
          have hkC : k < C.length := by omega
          have hkU : k < U.length := by omega
          have hkV : k < V.length := by omega
          have hx : bits .xor .u8 ((({ data := U.toArray } : ByteArray)[k]'hkU).toNat : Int) ((({ data := V.toArray } : ByteArray)[k]'hkV).toNat : Int) = ((({ data := C.toArray } : ByteArray)[k]'hkC).toNat : Int) := by
            show bits .xor .u8 ((U[k]'hkU).toNat : Int) ((V[k]'hkV).toNat : Int) = ((C[k]'hkC).toNat : Int)
            rw [u8_xor]
            have h := congrArg (fun l : List UInt8 => l[k]?) HZ.out
            rw [List.getElem?_take_of_lt hk, List.getElem?_eq_getElem hkC, List.getElem?_zipWith, List.getElem?_eq_getElem hkU, List.getElem?_eq_getElem hkV] at h
            simp at h
            rw [h]
          have hk0 : (0 : Int) ≤ (k : Int) := by omega
          have hk96 : (k : Int) < 96 := by omega
          have hk96' : k < 96 := by omega
          go_wp2_with fail
          go_quiet (fail)
          go_wp2_with fail
          exact ⟨⟨k + 1, by omega, by go_num, below_drewN HB.out _⟩, by simp [intOf]; omega⟩
        · obtain rfl : k = 32 := by omega
          rw [show ((32 : Nat) : Int) = 32 from rfl]
          go_wp2_with fail
          go_ret
          exact ⟨rfl, bthen B5.out HB.out⟩
    · have hr1 : ¬ ((R : Int) = 1) := by omega
      have hr2 : ¬ ((R : Int) = 2) := by omega
      go_wp2_with fail
      go_loopw [13] (fun i wr => i = .int .i64 0 ∧ wr = w5) (fun i _ => 32 - (intOf i).toNat)
      case atStart => exact ⟨rfl, rfl⟩
      case round =>
        obtain ⟨rfl, rfl⟩ := hrel
        go_wp2_with fail
        go_ret
        exact ⟨rfl, B5.out⟩
theorem hashBegins_any (pass salt : List UInt8) (r n : Int) (w : World) (hp : pass.length ≤ 140737488351232) (hs : salt.length ≤ 140737488351232) (_hr : -9223372036854775808 ≤ r ∧ r ≤ 9223372036854775807) (_hn : -9223372036854775808 ≤ n ∧ n ≤ 9223372036854775807) :
    Calls Try.prog 8 #[.string ⟨pass.toArray⟩, .string ⟨salt.toArray⟩, .agg #[.int .i64 r, .int .i64 n]] w fun e w' => e = .returned (.bool true) ∧ Below w.heap.size w w' := by
  by_cases h : (r < 1 ∨ 64 < r) ∨ (1 ≤ r ∧ r ≤ 64 ∧ (n < 1 ∨ 96 < n))
  · exact begins_no pass salt r n w hp hs h
  · obtain ⟨R, rfl⟩ := Int.eq_ofNat_of_zero_le (show 0 ≤ r by omega)
    obtain ⟨N, rfl⟩ := Int.eq_ofNat_of_zero_le (show 0 ≤ n by omega)
    exact begins_yes pass salt R N w hp hs (by omega) (by omega) (by omega) (by omega)
end Go.Proofs.Ytommbdlkmkphpaa
