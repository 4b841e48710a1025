/- Walk of awake: the calls whose answers are fixed. -/
import Derived.Test.YtommbdlkmkphpaaHshT
import Derived.Test.YtommbdlkmkphpaaHshE
import Derived.Test.YtommbdlkmkphpaaShaV
namespace Go.Proofs.Ytommbdlkmkphpaa
open Go.RowKit
theorem bytes_extract2 (s : List UInt8) (m n : Nat) : (⟨s.toArray⟩ : ByteArray).extract m n = ⟨((s.take n).drop m).toArray⟩ := by
  apply ByteArray.ext; simp [ByteArray.data_extract, List.drop_take]
set_option maxHeartbeats 4000000 in
set_option maxRecDepth 100000 in
theorem awake_any (w : World) : Calls Try.prog 9 #[] w fun e w' => e = .returned (.bool true) ∧ Below w.heap.size w w' := by
  obtain ⟨S, hS⟩ : ∃ S, Sha.sum [97, 98, 99] = S := ⟨_, rfl⟩
  obtain ⟨M, hM⟩ : ∃ M, Sha.mac [74, 101, 102, 101] [119, 104, 97, 116, 32, 100, 111, 32, 121, 97, 32, 119, 97, 110, 116, 32, 102, 111, 114, 32, 110, 111, 116, 104, 105, 110, 103, 63] = M := ⟨_, rfl⟩
  obtain ⟨T, hT⟩ : ∃ T, Sha.stretch [112, 97, 115, 115, 119, 111, 114, 100] [115, 97, 108, 116] 2 32 = (T, 0) := ⟨_, Sha.stretch_ok _ _ 2 32 (by decide) (by decide) (by decide) (by decide)⟩
  have hSL : S.length = 32 := by rw [← hS]; exact Sha.sum_length _
  have hML : M.length = 32 := by rw [← hM]; exact Sha.mac_length _ _
  have hT' : T = Sha.chunk [112, 97, 115, 115, 119, 111, 114, 100] [115, 97, 108, 116] 2 1 := by
    have h : ((Sha.chunks [112, 97, 115, 115, 119, 111, 114, 100] [115, 97, 108, 116] 2 3).take 32, (0 : Int)) = (T, 0) := (Sha.stretch_ok _ _ 2 32 (by decide) (by decide) (by decide) (by decide)).symm.trans hT
    have h1 := congrArg Prod.fst h
    rw [← Sha.chunks_take _ _ _ 1 32 (by decide) (by decide)] at h1
    simp only [Sha.chunks, List.nil_append] at h1
    rw [List.take_of_length_le (by rw [Sha.chunk_length]; exact Nat.le_refl _)] at h1
    exact h1.symm
  have hTL : T.length = 32 := by rw [hT']; exact Sha.chunk_length _ _ _ _
  have s1 : (⟨S.toArray⟩ : ByteArray).extract 0 4 = ⟨#[186, 120, 22, 191]⟩ := by rw [bytes_extract, ← hS, Sha.sum_abc.1]
  have s2 : (⟨S.toArray⟩ : ByteArray).extract 28 32 = ⟨#[242, 0, 21, 173]⟩ := by
    rw [bytes_extract2, List.take_of_length_le (by omega), ← hS, Sha.sum_abc.2]
  have s3 : (⟨M.toArray⟩ : ByteArray).extract 0 4 = ⟨#[91, 220, 193, 70]⟩ := by rw [bytes_extract, ← hM, Sha.mac_jefe]
  have s4 : (⟨T.toArray⟩ : ByteArray).extract 0 4 = ⟨#[174, 77, 12, 149]⟩ := by rw [bytes_extract, hT', Sha.chunk_pass]
  have HS := Lib.hid hS
  have HM := Lib.hid hM
  have HT := Lib.hid hT
  have HSL := Lib.hid hSL
  have HML := Lib.hid hML
  have HTL := Lib.hid hTL
  have H1 := Lib.hid s1
  have H2 := Lib.hid s2
  have H3 := Lib.hid s3
  have H4 := Lib.hid s4
  clear hS hM hT hT' hSL hML hTL s1 s2 s3 s4
  have HZ1 : Hid (Sha.stretch [] [] 0 0 = ([], 40)) := rfl
  have HZ2 : Hid (Sha.stretch [] [] 1 97 = ([], 41)) := rfl
  go_enter Try.func9, Try.ntmps9
  go_wp2_with fail
  refine (sum_any [97, 98, 99] w (by decide)).mono ?_
  rw [HS.out]
  rintro e w1 ⟨rfl, b1⟩
  have B1 := Lib.hid b1
  clear b1
  go_wp2_with fail
  refine (mac_any [74, 101, 102, 101] [119, 104, 97, 116, 32, 100, 111, 32, 121, 97, 32, 119, 97, 110, 116, 32, 102, 111, 114, 32, 110, 111, 116, 104, 105, 110, 103, 63] w1 (by decide) (by decide)).mono ?_
  rw [HM.out]
  rintro e w2 ⟨rfl, b2⟩
  have B2 := Lib.hid (bthen B1.out b2)
  clear b2
  go_wp2_with fail
  refine (stretch_any [112, 97, 115, 115, 119, 111, 114, 100] [115, 97, 108, 116] 2 32 w2 (by decide) (by decide)).mono ?_
  rw [HT.out]
  rintro e w3 ⟨rfl, b3⟩
  have B3 := Lib.hid (bthen B2.out b3)
  clear b3
  go_wp2_with fail
  refine (stretch_any [] [] 0 0 w3 (by decide) (by decide)).mono ?_
  rw [HZ1.out]
  rintro e w4 ⟨rfl, b4⟩
  have B4 := Lib.hid (bthen B3.out b4)
  clear b4
  go_wp2_with fail
  refine (stretch_any [] [] 1 97 w4 (by decide) (by decide)).mono ?_
  rw [HZ2.out]
  rintro e w5 ⟨rfl, b5⟩
  have B5 := Lib.hid (bthen B4.out b5)
  clear b5
  have s1 := H1.out
  have s2 := H2.out
  have s3 := H3.out
  have s4 := H4.out
  have l1 := HSL.out
  have l2 := HML.out
  have l3 := HTL.out
  go_wp2_with fail
  refine (same_any [97, 98] [97, 98] w5 (by decide) (by decide)).mono ?_
  rw [show decide (([97, 98] : List UInt8) = [97, 98]) = true from rfl]
  rintro e w6 ⟨rfl, rfl⟩
  go_wp2_with fail
  refine (same_any [97, 98] [97, 99] w5 (by decide) (by decide)).mono ?_
  rw [show decide (([97, 98] : List UInt8) = [97, 99]) = false from rfl]
  rintro e w6 ⟨rfl, rfl⟩
  go_wp2_with fail
  go_ret
  exact ⟨rfl, B5.out⟩
end Go.Proofs.Ytommbdlkmkphpaa
