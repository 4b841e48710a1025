/-
  No cell of these rows narrows 'for every input' (looked for: loops, veiled, ifaces, maps, wideKeys, modest, calm, conditions, laid).
  DERIVED. THE GIVEN ROWS OF THIS SEAT. 6 by the template 'for every input the law returns true; each argument reads behind the call as it read before'; 0 by the template 'total and deterministic' (their statements: YtommbdlkmkphpaaTotals.lean).
  GIVEN WITH THE SEED: the statements are not yours to turn. If you find one false, say at which input.
  Laid BY PROGRAM, IN A SANDBOX (cutbox-rows.mjs): the forced cells as the released guide's own fill.sh prints them over the translation 13c6a786d69d3718… (all of the seat's roots in one cut). By AI agents, Wed Nov 11 2026. No macro, syntax, notation, axiom, sorry.
-/
import Derived.Test.YtommbdlkmkphpaaChecked
import GoSem.Claim
import GoSem.ClaimJoined
import GoSem.ClaimMapViews
import Derived.JoinedTies
import Derived.KernelRfl
namespace Go.Proofs.Ytommbdlkmkphpaa
/- THE CELL 'sum', in the pinned program and in every row, IS THE sha256 OF THE DUMP (.gsa) THAT YtommbdlkmkphpaaProg.lean LOADS. Nothing in Lean hashes anything: it is a label: what it is worth is what the hold of that sum in a sandbox is worth. -/
noncomputable def Try.pinned : Pinned := { name := "ytommbdlkmkphpaa", sum := "13c6a786d69d3718bad70e45068e332abbc98641981156cf8ed4beb802b374ec", checked := Try.checked }
namespace Rows
def none {H : Type} : Left H := { results := [], args := [] }

/-- 'seneschallaw04.HashSums': WHATEVER THE INPUT: true; the input reads as it did. -/
def hashSumsSpec : ChangeSpec := { name := "hashSums", fn := fun _ => fun
  | [d] => { results := [.lit (.bool true)], args := [d] }
  | _ => none }
def hashSumsRow : OpenClaim := { program := "ytommbdlkmkphpaa", sum := "13c6a786d69d3718bad70e45068e332abbc98641981156cf8ed4beb802b374ec", func := "seneschal/seneschallaw04.HashSums", spec := "hashSums", inPlace := ["internal/bytealg.MakeNoZero"], unfollowed := true, recurses := true, apart := false }
def HashSumsSaid : Prop := hashSumsRow.holds Try.pinned (OpenSpec.ofChange hashSumsSpec)

/-- ITS FALSE NEIGHBOUR: 'it returns false'. Refute it at one input. -/
def hashSumsWrong : ChangeSpec := { name := "hashSums", fn := fun _ => fun
  | [d] => { results := [.lit (.bool false)], args := [d] }
  | _ => none }
def HashSumsWrongFalsely : Prop := hashSumsRow.holds Try.pinned (OpenSpec.ofChange hashSumsWrong)

/-- 'seneschallaw04.HashMacs': WHATEVER THE INPUT: true; the input reads as it did. -/
def hashMacsSpec : ChangeSpec := { name := "hashMacs", fn := fun _ => fun
  | [d1, d2] => { results := [.lit (.bool true)], args := [d1, d2] }
  | _ => none }
def hashMacsRow : OpenClaim := { program := "ytommbdlkmkphpaa", sum := "13c6a786d69d3718bad70e45068e332abbc98641981156cf8ed4beb802b374ec", func := "seneschal/seneschallaw04.HashMacs", spec := "hashMacs", inPlace := ["internal/bytealg.MakeNoZero"], unfollowed := true, recurses := true, apart := false }
def HashMacsSaid : Prop := hashMacsRow.holds Try.pinned (OpenSpec.ofChange hashMacsSpec)

/-- ITS FALSE NEIGHBOUR: 'it returns false'. Refute it at one input. -/
def hashMacsWrong : ChangeSpec := { name := "hashMacs", fn := fun _ => fun
  | [d1, d2] => { results := [.lit (.bool false)], args := [d1, d2] }
  | _ => none }
def HashMacsWrongFalsely : Prop := hashMacsRow.holds Try.pinned (OpenSpec.ofChange hashMacsWrong)

/-- 'seneschallaw04.HashStretches': WHATEVER THE INPUT: true; the input reads as it did. -/
def hashStretchesSpec : ChangeSpec := { name := "hashStretches", fn := fun _ => fun
  | [d1, d2, d3] => { results := [.lit (.bool true)], args := [d1, d2, d3] }
  | _ => none }
def hashStretchesRow : OpenClaim := { program := "ytommbdlkmkphpaa", sum := "13c6a786d69d3718bad70e45068e332abbc98641981156cf8ed4beb802b374ec", func := "seneschal/seneschallaw04.HashStretches", spec := "hashStretches", inPlace := ["internal/bytealg.MakeNoZero"], unfollowed := true, recurses := true, apart := false }
def HashStretchesSaid : Prop := hashStretchesRow.holds Try.pinned (OpenSpec.ofChange hashStretchesSpec)

/-- ITS FALSE NEIGHBOUR: 'it returns false'. Refute it at one input. -/
def hashStretchesWrong : ChangeSpec := { name := "hashStretches", fn := fun _ => fun
  | [d1, d2, d3] => { results := [.lit (.bool false)], args := [d1, d2, d3] }
  | _ => none }
def HashStretchesWrongFalsely : Prop := hashStretchesRow.holds Try.pinned (OpenSpec.ofChange hashStretchesWrong)

/-- 'seneschallaw04.HashSame': WHATEVER THE INPUT: true; the input reads as it did. -/
def hashSameSpec : ChangeSpec := { name := "hashSame", fn := fun _ => fun
  | [d1, d2] => { results := [.lit (.bool true)], args := [d1, d2] }
  | _ => none }
def hashSameRow : OpenClaim := { program := "ytommbdlkmkphpaa", sum := "13c6a786d69d3718bad70e45068e332abbc98641981156cf8ed4beb802b374ec", func := "seneschal/seneschallaw04.HashSame", spec := "hashSame", inPlace := ["internal/bytealg.MakeNoZero"], unfollowed := true, recurses := true, apart := false }
def HashSameSaid : Prop := hashSameRow.holds Try.pinned (OpenSpec.ofChange hashSameSpec)

/-- ITS FALSE NEIGHBOUR: 'it returns false'. Refute it at one input. -/
def hashSameWrong : ChangeSpec := { name := "hashSame", fn := fun _ => fun
  | [d1, d2] => { results := [.lit (.bool false)], args := [d1, d2] }
  | _ => none }
def HashSameWrongFalsely : Prop := hashSameRow.holds Try.pinned (OpenSpec.ofChange hashSameWrong)

/-- 'seneschallaw04.HashKeys': WHATEVER THE INPUT: true; the input reads as it did. -/
def hashKeysSpec : ChangeSpec := { name := "hashKeys", fn := fun _ => fun
  | [d1, d2, d3] => { results := [.lit (.bool true)], args := [d1, d2, d3] }
  | _ => none }
def hashKeysRow : OpenClaim := { program := "ytommbdlkmkphpaa", sum := "13c6a786d69d3718bad70e45068e332abbc98641981156cf8ed4beb802b374ec", func := "seneschal/seneschallaw04.HashKeys", spec := "hashKeys", inPlace := ["internal/bytealg.MakeNoZero"], unfollowed := true, recurses := true, apart := false }
def HashKeysSaid : Prop := hashKeysRow.holds Try.pinned (OpenSpec.ofChange hashKeysSpec)

/-- ITS FALSE NEIGHBOUR: 'it returns false'. Refute it at one input. -/
def hashKeysWrong : ChangeSpec := { name := "hashKeys", fn := fun _ => fun
  | [d1, d2, d3] => { results := [.lit (.bool false)], args := [d1, d2, d3] }
  | _ => none }
def HashKeysWrongFalsely : Prop := hashKeysRow.holds Try.pinned (OpenSpec.ofChange hashKeysWrong)

/-- 'seneschallaw04.HashBegins': WHATEVER THE INPUT: true; the input reads as it did. -/
def hashBeginsSpec : ChangeSpec := { name := "hashBegins", fn := fun _ => fun
  | [d1, d2, d3] => { results := [.lit (.bool true)], args := [d1, d2, d3] }
  | _ => none }
def hashBeginsRow : OpenClaim := { program := "ytommbdlkmkphpaa", sum := "13c6a786d69d3718bad70e45068e332abbc98641981156cf8ed4beb802b374ec", func := "seneschal/seneschallaw04.HashBegins", spec := "hashBegins", inPlace := ["internal/bytealg.MakeNoZero"], unfollowed := true, recurses := true, apart := false }
def HashBeginsSaid : Prop := hashBeginsRow.holds Try.pinned (OpenSpec.ofChange hashBeginsSpec)

/-- ITS FALSE NEIGHBOUR: 'it returns false'. Refute it at one input. -/
def hashBeginsWrong : ChangeSpec := { name := "hashBegins", fn := fun _ => fun
  | [d1, d2, d3] => { results := [.lit (.bool false)], args := [d1, d2, d3] }
  | _ => none }
def HashBeginsWrongFalsely : Prop := hashBeginsRow.holds Try.pinned (OpenSpec.ofChange hashBeginsWrong)

/- THE SECOND FORM. 'bulk': how many values and letters a reading holds, each counted each time it is reached (what is shared counts as often as it is met; a slice's spare places count too). A statement '..UptoSaid' is the law's where the arguments, and the package variables that the reading takes, are together of bulk at most 1048576: NARROWER than '..Said'. Prove '..Said' where nothing that the law and all that it calls make is longer than what came in: it says more and counts as full. Else prove '..UptoSaid'. A law counts once. -/
mutual
def uptoBulk {H : Type} : DataW H → Nat
  | .lit (.string bytes) => bytes.length + 1
  | .lit _ => 1
  | .nil => 1
  | .ptr d => uptoBulk d + 1
  | .slice elems spare => uptoBulkAll elems + uptoBulkAll spare + 1
  | .agg parts => uptoBulkAll parts + 1
  | .iface _ d => uptoBulk d + 1
  | .map entries => uptoBulkEntries entries + 1
  | .held _ => 1
def uptoBulkAll {H : Type} : List (DataW H) → Nat
  | [] => 0
  | d :: r => uptoBulk d + uptoBulkAll r
def uptoBulkEntries {H : Type} : List (Lit × DataW H) → Nat
  | [] => 0
  | x :: r => uptoBulkEntry x + uptoBulkEntries r
def uptoBulkEntry {H : Type} : Lit × DataW H → Nat
  | (.string bytes, d) => bytes.length + uptoBulk d + 1
  | (_, d) => uptoBulk d + 1
 end
def uptoSmall : (H : Type) → List (DataW H) → Bool := fun _ ds => decide (uptoBulkAll ds ≤ 1048576)
def OpenSpec.upto (s : _root_.Go.ChangeSpec) : _root_.Go.OpenSpec := { _root_.Go.OpenSpec.ofChange s with cond := some uptoSmall }

/-- 'seneschallaw04.HashSums', WHERE WHAT IT READS IS OF BULK AT MOST 1048576: true; the input reads as it did. -/
def hashSumsUptoRow : OpenClaim := { program := "ytommbdlkmkphpaa", sum := "13c6a786d69d3718bad70e45068e332abbc98641981156cf8ed4beb802b374ec", func := "seneschal/seneschallaw04.HashSums", spec := "hashSums", inPlace := ["internal/bytealg.MakeNoZero"], unfollowed := true, recurses := true, apart := false, narrowed := true }
def HashSumsUptoSaid : Prop := hashSumsUptoRow.holds Try.pinned (OpenSpec.upto hashSumsSpec)

/-- 'seneschallaw04.HashMacs', WHERE WHAT IT READS IS OF BULK AT MOST 1048576: true; the input reads as it did. -/
def hashMacsUptoRow : OpenClaim := { program := "ytommbdlkmkphpaa", sum := "13c6a786d69d3718bad70e45068e332abbc98641981156cf8ed4beb802b374ec", func := "seneschal/seneschallaw04.HashMacs", spec := "hashMacs", inPlace := ["internal/bytealg.MakeNoZero"], unfollowed := true, recurses := true, apart := false, narrowed := true }
def HashMacsUptoSaid : Prop := hashMacsUptoRow.holds Try.pinned (OpenSpec.upto hashMacsSpec)

/-- 'seneschallaw04.HashStretches', WHERE WHAT IT READS IS OF BULK AT MOST 1048576: true; the input reads as it did. -/
def hashStretchesUptoRow : OpenClaim := { program := "ytommbdlkmkphpaa", sum := "13c6a786d69d3718bad70e45068e332abbc98641981156cf8ed4beb802b374ec", func := "seneschal/seneschallaw04.HashStretches", spec := "hashStretches", inPlace := ["internal/bytealg.MakeNoZero"], unfollowed := true, recurses := true, apart := false, narrowed := true }
def HashStretchesUptoSaid : Prop := hashStretchesUptoRow.holds Try.pinned (OpenSpec.upto hashStretchesSpec)

/-- 'seneschallaw04.HashSame', WHERE WHAT IT READS IS OF BULK AT MOST 1048576: true; the input reads as it did. -/
def hashSameUptoRow : OpenClaim := { program := "ytommbdlkmkphpaa", sum := "13c6a786d69d3718bad70e45068e332abbc98641981156cf8ed4beb802b374ec", func := "seneschal/seneschallaw04.HashSame", spec := "hashSame", inPlace := ["internal/bytealg.MakeNoZero"], unfollowed := true, recurses := true, apart := false, narrowed := true }
def HashSameUptoSaid : Prop := hashSameUptoRow.holds Try.pinned (OpenSpec.upto hashSameSpec)

/-- 'seneschallaw04.HashKeys', WHERE WHAT IT READS IS OF BULK AT MOST 1048576: true; the input reads as it did. -/
def hashKeysUptoRow : OpenClaim := { program := "ytommbdlkmkphpaa", sum := "13c6a786d69d3718bad70e45068e332abbc98641981156cf8ed4beb802b374ec", func := "seneschal/seneschallaw04.HashKeys", spec := "hashKeys", inPlace := ["internal/bytealg.MakeNoZero"], unfollowed := true, recurses := true, apart := false, narrowed := true }
def HashKeysUptoSaid : Prop := hashKeysUptoRow.holds Try.pinned (OpenSpec.upto hashKeysSpec)

/-- 'seneschallaw04.HashBegins', WHERE WHAT IT READS IS OF BULK AT MOST 1048576: true; the input reads as it did. -/
def hashBeginsUptoRow : OpenClaim := { program := "ytommbdlkmkphpaa", sum := "13c6a786d69d3718bad70e45068e332abbc98641981156cf8ed4beb802b374ec", func := "seneschal/seneschallaw04.HashBegins", spec := "hashBegins", inPlace := ["internal/bytealg.MakeNoZero"], unfollowed := true, recurses := true, apart := false, narrowed := true }
def HashBeginsUptoSaid : Prop := hashBeginsUptoRow.holds Try.pinned (OpenSpec.upto hashBeginsSpec)

end Rows
end Go.Proofs.Ytommbdlkmkphpaa
