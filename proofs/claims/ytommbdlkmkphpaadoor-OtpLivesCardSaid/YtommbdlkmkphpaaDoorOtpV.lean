/- The codes whose values are fixed, by the kernel. -/
import Derived.Test.YtommbdlkmkphpaaDoorShaE
import Derived.Test.YtommbdlkmkphpaaDoorOtpM
namespace Go.Proofs.YtommbdlkmkphpaaDoor
namespace Otp
def key : List UInt8 := [49, 50, 51, 52, 53, 54, 55, 56, 57, 48, 49, 50, 51, 52, 53, 54, 55, 56, 57, 48, 49, 50, 51, 52, 53, 54, 55, 56, 57, 48, 49, 50]
def codeE (secret : List UInt8) (s : Int) : List UInt8 := six (num (Sha.macE secret (Sha.big (tick s) 8)))
theorem code_eq : code = codeE := by
  funext secret s
  unfold code codeE
  rw [Sha.mac_eq]
theorem codes : code key 1 = [49, 49, 57, 50, 52, 54] ∧ code key 37037036 = [48, 56, 52, 55, 55, 52] ∧ find key [49, 49, 57, 50, 52, 54] 2 1 = some 1 ∧ find key [49, 49, 57, 50, 52, 54] (-1) 1 = none := by
  refine ⟨?_, ?_, ?_, ?_⟩
  · rw [code_eq]; decide +kernel
  · rw [code_eq]; decide +kernel
  · unfold find; rw [code_eq]; decide +kernel
  · unfold find; rw [if_neg (by decide)]
end Otp
end Go.Proofs.YtommbdlkmkphpaaDoor
