import Derived.Test.YtommbdlkmkphpaaShaE
namespace Go.Proofs.Ytommbdlkmkphpaa
namespace Sha
theorem iter_eq (pass : List UInt8) : ∀ (n : Nat) (p : List UInt8 × List UInt8), iter pass n p = (Nat.rec (motive := fun _ => List UInt8 × List UInt8 → List UInt8 × List UInt8) (fun p => p) (fun _ f p => f (macE pass p.1, List.zipWith (· ^^^ ·) p.2 (macE pass p.1))) n) p
  | 0, _ => rfl
  | n + 1, p => by rw [iter, iter_eq pass n, mac_eq]
def jefe : List UInt8 := [74, 101, 102, 101]
def want : List UInt8 := "what do ya want for nothing?".toUTF8.data.toList
theorem mac_jefe : (mac [74, 101, 102, 101] [119, 104, 97, 116, 32, 100, 111, 32, 121, 97, 32, 119, 97, 110, 116, 32, 102, 111, 114, 32, 110, 111, 116, 104, 105, 110, 103, 63]).take 4 = [0x5b, 0xdc, 0xc1, 0x46] := by
  rw [mac_eq]; decide +kernel
def chunkE (pass salt : List UInt8) : List UInt8 :=
  let u := macE pass (salt ++ big 1 4)
  List.zipWith (· ^^^ ·) u (macE pass u)
theorem chunk_two (pass salt : List UInt8) : chunk pass salt 2 1 = chunkE pass salt := by
  rw [chunk, mac_eq]
  show (iter pass 1 _).2 = _
  rw [iter, mac_eq]; rfl
theorem chunk_pass : (chunk [112, 97, 115, 115, 119, 111, 114, 100] [115, 97, 108, 116] 2 1).take 4 = [0xae, 0x4d, 0x0c, 0x95] := by
  rw [chunk_two]; decide +kernel
end Sha
end Go.Proofs.Ytommbdlkmkphpaa
