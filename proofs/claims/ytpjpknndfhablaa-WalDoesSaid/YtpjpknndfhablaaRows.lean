/-
  No cell of these rows narrows 'for every input' (looked for: loops, veiled, ifaces, maps, wideKeys, modest, calm, conditions, laid).
  DERIVED. THE GIVEN ROWS OF THIS SEAT. 9 by the template 'for every input the law returns true; each argument reads behind the call as it read before'; 0 by the template 'total and deterministic' (their statements: YtpjpknndfhablaaTotals.lean).
  GIVEN WITH THE SEED: the statements are not yours to turn. If you find one false, say at which input.
  Laid BY PROGRAM, IN A SANDBOX (cutbox-rows.mjs): the forced cells as the released guide's own fill.sh prints them over the translation 2f9e1d192b08a7c0… (all of the seat's roots in one cut). By AI agents, Wed Nov 11 2026. No macro, syntax, notation, axiom, sorry.
-/
import Derived.Test.YtpjpknndfhablaaChecked
import GoSem.Claim
import GoSem.ClaimJoined
import GoSem.ClaimMapViews
import Derived.JoinedTies
import Derived.KernelRfl
namespace Go.Proofs.Ytpjpknndfhablaa
/- THE CELL 'sum', in the pinned program and in every row, IS THE sha256 OF THE DUMP (.gsa) THAT YtpjpknndfhablaaProg.lean LOADS. Nothing in Lean hashes anything: it is a label: what it is worth is what the hold of that sum in a sandbox is worth. -/
noncomputable def Try.pinned : Pinned := { name := "ytpjpknndfhablaa", sum := "2f9e1d192b08a7c094618bca9041d53324b0608c8894bf7cbda30c4f2eae1cad", checked := Try.checked }
namespace Rows
def none {H : Type} : Left H := { results := [], args := [] }

/-- 'seneschallaw09.DiskSafe': WHATEVER THE INPUT: true; the input reads as it did. -/
def diskSafeSpec : ChangeSpec := { name := "diskSafe", fn := fun _ => fun
  | [d1, d2, d3] => { results := [.lit (.bool true)], args := [d1, d2, d3] }
  | _ => none }
def diskSafeRow : OpenClaim := { program := "ytpjpknndfhablaa", sum := "2f9e1d192b08a7c094618bca9041d53324b0608c8894bf7cbda30c4f2eae1cad", func := "seneschal/seneschallaw09.DiskSafe", spec := "diskSafe", unfollowed := true, recurses := true, apart := false }
def DiskSafeSaid : Prop := diskSafeRow.holds Try.pinned (OpenSpec.ofChange diskSafeSpec)

/-- ITS FALSE NEIGHBOUR: 'it returns false'. Refute it at one input. -/
def diskSafeWrong : ChangeSpec := { name := "diskSafe", fn := fun _ => fun
  | [d1, d2, d3] => { results := [.lit (.bool false)], args := [d1, d2, d3] }
  | _ => none }
def DiskSafeWrongFalsely : Prop := diskSafeRow.holds Try.pinned (OpenSpec.ofChange diskSafeWrong)

/-- 'seneschallaw09.DiskDoes': WHATEVER THE INPUT: true; the input reads as it did. -/
def diskDoesSpec : ChangeSpec := { name := "diskDoes", fn := fun _ => fun
  | [d1, d2] => { results := [.lit (.bool true)], args := [d1, d2] }
  | _ => none }
def diskDoesRow : OpenClaim := { program := "ytpjpknndfhablaa", sum := "2f9e1d192b08a7c094618bca9041d53324b0608c8894bf7cbda30c4f2eae1cad", func := "seneschal/seneschallaw09.DiskDoes", spec := "diskDoes", unfollowed := true, recurses := true, apart := false }
def DiskDoesSaid : Prop := diskDoesRow.holds Try.pinned (OpenSpec.ofChange diskDoesSpec)

/-- ITS FALSE NEIGHBOUR: 'it returns false'. Refute it at one input. -/
def diskDoesWrong : ChangeSpec := { name := "diskDoes", fn := fun _ => fun
  | [d1, d2] => { results := [.lit (.bool false)], args := [d1, d2] }
  | _ => none }
def DiskDoesWrongFalsely : Prop := diskDoesRow.holds Try.pinned (OpenSpec.ofChange diskDoesWrong)

/-- 'seneschallaw09.DiskLeaves': WHATEVER THE INPUT: true; the input reads as it did. -/
def diskLeavesSpec : ChangeSpec := { name := "diskLeaves", fn := fun _ => fun
  | [d1, d2, d3] => { results := [.lit (.bool true)], args := [d1, d2, d3] }
  | _ => none }
def diskLeavesRow : OpenClaim := { program := "ytpjpknndfhablaa", sum := "2f9e1d192b08a7c094618bca9041d53324b0608c8894bf7cbda30c4f2eae1cad", func := "seneschal/seneschallaw09.DiskLeaves", spec := "diskLeaves", unfollowed := true, recurses := true, apart := false }
def DiskLeavesSaid : Prop := diskLeavesRow.holds Try.pinned (OpenSpec.ofChange diskLeavesSpec)

/-- ITS FALSE NEIGHBOUR: 'it returns false'. Refute it at one input. -/
def diskLeavesWrong : ChangeSpec := { name := "diskLeaves", fn := fun _ => fun
  | [d1, d2, d3] => { results := [.lit (.bool false)], args := [d1, d2, d3] }
  | _ => none }
def DiskLeavesWrongFalsely : Prop := diskLeavesRow.holds Try.pinned (OpenSpec.ofChange diskLeavesWrong)

/-- 'seneschallaw09.DiskArms': WHATEVER THE INPUT: true; the input reads as it did. -/
def diskArmsSpec : ChangeSpec := { name := "diskArms", fn := fun _ => fun
  | [d1, d2, d3] => { results := [.lit (.bool true)], args := [d1, d2, d3] }
  | _ => none }
def diskArmsRow : OpenClaim := { program := "ytpjpknndfhablaa", sum := "2f9e1d192b08a7c094618bca9041d53324b0608c8894bf7cbda30c4f2eae1cad", func := "seneschal/seneschallaw09.DiskArms", spec := "diskArms", unfollowed := true, recurses := true, apart := false }
def DiskArmsSaid : Prop := diskArmsRow.holds Try.pinned (OpenSpec.ofChange diskArmsSpec)

/-- ITS FALSE NEIGHBOUR: 'it returns false'. Refute it at one input. -/
def diskArmsWrong : ChangeSpec := { name := "diskArms", fn := fun _ => fun
  | [d1, d2, d3] => { results := [.lit (.bool false)], args := [d1, d2, d3] }
  | _ => none }
def DiskArmsWrongFalsely : Prop := diskArmsRow.holds Try.pinned (OpenSpec.ofChange diskArmsWrong)

/-- 'seneschallaw10.WalSums': WHATEVER THE INPUT: true; the input reads as it did. -/
def walSumsSpec : ChangeSpec := { name := "walSums", fn := fun _ => fun
  | [d] => { results := [.lit (.bool true)], args := [d] }
  | _ => none }
def walSumsRow : OpenClaim := { program := "ytpjpknndfhablaa", sum := "2f9e1d192b08a7c094618bca9041d53324b0608c8894bf7cbda30c4f2eae1cad", func := "seneschal/seneschallaw10.WalSums", spec := "walSums", unfollowed := true, recurses := true, apart := false }
def WalSumsSaid : Prop := walSumsRow.holds Try.pinned (OpenSpec.ofChange walSumsSpec)

/-- ITS FALSE NEIGHBOUR: 'it returns false'. Refute it at one input. -/
def walSumsWrong : ChangeSpec := { name := "walSums", fn := fun _ => fun
  | [d] => { results := [.lit (.bool false)], args := [d] }
  | _ => none }
def WalSumsWrongFalsely : Prop := walSumsRow.holds Try.pinned (OpenSpec.ofChange walSumsWrong)

/-- 'seneschallaw10.WalRooms': WHATEVER THE INPUT: true; the input reads as it did. -/
def walRoomsSpec : ChangeSpec := { name := "walRooms", fn := fun _ => fun
  | [d] => { results := [.lit (.bool true)], args := [d] }
  | _ => none }
def walRoomsRow : OpenClaim := { program := "ytpjpknndfhablaa", sum := "2f9e1d192b08a7c094618bca9041d53324b0608c8894bf7cbda30c4f2eae1cad", func := "seneschal/seneschallaw10.WalRooms", spec := "walRooms", unfollowed := true, recurses := true, apart := false }
def WalRoomsSaid : Prop := walRoomsRow.holds Try.pinned (OpenSpec.ofChange walRoomsSpec)

/-- ITS FALSE NEIGHBOUR: 'it returns false'. Refute it at one input. -/
def walRoomsWrong : ChangeSpec := { name := "walRooms", fn := fun _ => fun
  | [d] => { results := [.lit (.bool false)], args := [d] }
  | _ => none }
def WalRoomsWrongFalsely : Prop := walRoomsRow.holds Try.pinned (OpenSpec.ofChange walRoomsWrong)

/-- 'seneschallaw10.WalOpens': WHATEVER THE INPUT: true; the input reads as it did. -/
def walOpensSpec : ChangeSpec := { name := "walOpens", fn := fun _ => fun
  | [d1, d2] => { results := [.lit (.bool true)], args := [d1, d2] }
  | _ => none }
def walOpensRow : OpenClaim := { program := "ytpjpknndfhablaa", sum := "2f9e1d192b08a7c094618bca9041d53324b0608c8894bf7cbda30c4f2eae1cad", func := "seneschal/seneschallaw10.WalOpens", spec := "walOpens", unfollowed := true, recurses := true, apart := false }
def WalOpensSaid : Prop := walOpensRow.holds Try.pinned (OpenSpec.ofChange walOpensSpec)

/-- ITS FALSE NEIGHBOUR: 'it returns false'. Refute it at one input. -/
def walOpensWrong : ChangeSpec := { name := "walOpens", fn := fun _ => fun
  | [d1, d2] => { results := [.lit (.bool false)], args := [d1, d2] }
  | _ => none }
def WalOpensWrongFalsely : Prop := walOpensRow.holds Try.pinned (OpenSpec.ofChange walOpensWrong)

/-- 'seneschallaw10.WalLives': WHATEVER THE INPUT: true; the input reads as it did. -/
def walLivesSpec : ChangeSpec := { name := "walLives", fn := fun _ => fun
  | [d] => { results := [.lit (.bool true)], args := [d] }
  | _ => none }
def walLivesRow : OpenClaim := { program := "ytpjpknndfhablaa", sum := "2f9e1d192b08a7c094618bca9041d53324b0608c8894bf7cbda30c4f2eae1cad", func := "seneschal/seneschallaw10.WalLives", spec := "walLives", unfollowed := true, recurses := true, apart := false }
def WalLivesSaid : Prop := walLivesRow.holds Try.pinned (OpenSpec.ofChange walLivesSpec)

/-- ITS FALSE NEIGHBOUR: 'it returns false'. Refute it at one input. -/
def walLivesWrong : ChangeSpec := { name := "walLives", fn := fun _ => fun
  | [d] => { results := [.lit (.bool false)], args := [d] }
  | _ => none }
def WalLivesWrongFalsely : Prop := walLivesRow.holds Try.pinned (OpenSpec.ofChange walLivesWrong)

/-- 'seneschallaw10.WalDoes': WHATEVER THE INPUT: true; the input reads as it did. -/
def walDoesSpec : ChangeSpec := { name := "walDoes", fn := fun _ => fun
  | [d] => { results := [.lit (.bool true)], args := [d] }
  | _ => none }
def walDoesRow : OpenClaim := { program := "ytpjpknndfhablaa", sum := "2f9e1d192b08a7c094618bca9041d53324b0608c8894bf7cbda30c4f2eae1cad", func := "seneschal/seneschallaw10.WalDoes", spec := "walDoes", unfollowed := true, recurses := true, apart := false }
def WalDoesSaid : Prop := walDoesRow.holds Try.pinned (OpenSpec.ofChange walDoesSpec)

/-- ITS FALSE NEIGHBOUR: 'it returns false'. Refute it at one input. -/
def walDoesWrong : ChangeSpec := { name := "walDoes", fn := fun _ => fun
  | [d] => { results := [.lit (.bool false)], args := [d] }
  | _ => none }
def WalDoesWrongFalsely : Prop := walDoesRow.holds Try.pinned (OpenSpec.ofChange walDoesWrong)

/- THE SECOND FORM. 'bulk': how many values and letters a reading holds, each counted each time it is reached (what is shared counts as often as it is met; a slice's spare places count too). A statement '..UptoSaid' is the law's where the arguments, and the package variables that the reading takes, are together of bulk at most 1048576: NARROWER than '..Said'. Prove '..Said' where nothing that the law and all that it calls make is longer than what came in: it says more and counts as full. Else prove '..UptoSaid'. A law counts once. -/
mutual
def uptoBulk {H : Type} : DataW H → Nat
  | .lit (.string bytes) => bytes.length + 1
  | .lit _ => 1
  | .nil => 1
  | .ptr d => uptoBulk d + 1
  | .slice elems spare => uptoBulkAll elems + uptoBulkAll spare + 1
  | .agg parts => uptoBulkAll parts + 1
  | .iface _ d => uptoBulk d + 1
  | .map entries => uptoBulkEntries entries + 1
  | .held _ => 1
def uptoBulkAll {H : Type} : List (DataW H) → Nat
  | [] => 0
  | d :: r => uptoBulk d + uptoBulkAll r
def uptoBulkEntries {H : Type} : List (Lit × DataW H) → Nat
  | [] => 0
  | x :: r => uptoBulkEntry x + uptoBulkEntries r
def uptoBulkEntry {H : Type} : Lit × DataW H → Nat
  | (.string bytes, d) => bytes.length + uptoBulk d + 1
  | (_, d) => uptoBulk d + 1
 end
def uptoSmall : (H : Type) → List (DataW H) → Bool := fun _ ds => decide (uptoBulkAll ds ≤ 1048576)
def OpenSpec.upto (s : _root_.Go.ChangeSpec) : _root_.Go.OpenSpec := { _root_.Go.OpenSpec.ofChange s with cond := some uptoSmall }

/-- 'seneschallaw09.DiskSafe', WHERE WHAT IT READS IS OF BULK AT MOST 1048576: true; the input reads as it did. -/
def diskSafeUptoRow : OpenClaim := { program := "ytpjpknndfhablaa", sum := "2f9e1d192b08a7c094618bca9041d53324b0608c8894bf7cbda30c4f2eae1cad", func := "seneschal/seneschallaw09.DiskSafe", spec := "diskSafe", unfollowed := true, recurses := true, apart := false, narrowed := true }
def DiskSafeUptoSaid : Prop := diskSafeUptoRow.holds Try.pinned (OpenSpec.upto diskSafeSpec)

/-- 'seneschallaw09.DiskDoes', WHERE WHAT IT READS IS OF BULK AT MOST 1048576: true; the input reads as it did. -/
def diskDoesUptoRow : OpenClaim := { program := "ytpjpknndfhablaa", sum := "2f9e1d192b08a7c094618bca9041d53324b0608c8894bf7cbda30c4f2eae1cad", func := "seneschal/seneschallaw09.DiskDoes", spec := "diskDoes", unfollowed := true, recurses := true, apart := false, narrowed := true }
def DiskDoesUptoSaid : Prop := diskDoesUptoRow.holds Try.pinned (OpenSpec.upto diskDoesSpec)

/-- 'seneschallaw09.DiskLeaves', WHERE WHAT IT READS IS OF BULK AT MOST 1048576: true; the input reads as it did. -/
def diskLeavesUptoRow : OpenClaim := { program := "ytpjpknndfhablaa", sum := "2f9e1d192b08a7c094618bca9041d53324b0608c8894bf7cbda30c4f2eae1cad", func := "seneschal/seneschallaw09.DiskLeaves", spec := "diskLeaves", unfollowed := true, recurses := true, apart := false, narrowed := true }
def DiskLeavesUptoSaid : Prop := diskLeavesUptoRow.holds Try.pinned (OpenSpec.upto diskLeavesSpec)

/-- 'seneschallaw09.DiskArms', WHERE WHAT IT READS IS OF BULK AT MOST 1048576: true; the input reads as it did. -/
def diskArmsUptoRow : OpenClaim := { program := "ytpjpknndfhablaa", sum := "2f9e1d192b08a7c094618bca9041d53324b0608c8894bf7cbda30c4f2eae1cad", func := "seneschal/seneschallaw09.DiskArms", spec := "diskArms", unfollowed := true, recurses := true, apart := false, narrowed := true }
def DiskArmsUptoSaid : Prop := diskArmsUptoRow.holds Try.pinned (OpenSpec.upto diskArmsSpec)

/-- 'seneschallaw10.WalSums', WHERE WHAT IT READS IS OF BULK AT MOST 1048576: true; the input reads as it did. -/
def walSumsUptoRow : OpenClaim := { program := "ytpjpknndfhablaa", sum := "2f9e1d192b08a7c094618bca9041d53324b0608c8894bf7cbda30c4f2eae1cad", func := "seneschal/seneschallaw10.WalSums", spec := "walSums", unfollowed := true, recurses := true, apart := false, narrowed := true }
def WalSumsUptoSaid : Prop := walSumsUptoRow.holds Try.pinned (OpenSpec.upto walSumsSpec)

/-- 'seneschallaw10.WalRooms', WHERE WHAT IT READS IS OF BULK AT MOST 1048576: true; the input reads as it did. -/
def walRoomsUptoRow : OpenClaim := { program := "ytpjpknndfhablaa", sum := "2f9e1d192b08a7c094618bca9041d53324b0608c8894bf7cbda30c4f2eae1cad", func := "seneschal/seneschallaw10.WalRooms", spec := "walRooms", unfollowed := true, recurses := true, apart := false, narrowed := true }
def WalRoomsUptoSaid : Prop := walRoomsUptoRow.holds Try.pinned (OpenSpec.upto walRoomsSpec)

/-- 'seneschallaw10.WalOpens', WHERE WHAT IT READS IS OF BULK AT MOST 1048576: true; the input reads as it did. -/
def walOpensUptoRow : OpenClaim := { program := "ytpjpknndfhablaa", sum := "2f9e1d192b08a7c094618bca9041d53324b0608c8894bf7cbda30c4f2eae1cad", func := "seneschal/seneschallaw10.WalOpens", spec := "walOpens", unfollowed := true, recurses := true, apart := false, narrowed := true }
def WalOpensUptoSaid : Prop := walOpensUptoRow.holds Try.pinned (OpenSpec.upto walOpensSpec)

/-- 'seneschallaw10.WalLives', WHERE WHAT IT READS IS OF BULK AT MOST 1048576: true; the input reads as it did. -/
def walLivesUptoRow : OpenClaim := { program := "ytpjpknndfhablaa", sum := "2f9e1d192b08a7c094618bca9041d53324b0608c8894bf7cbda30c4f2eae1cad", func := "seneschal/seneschallaw10.WalLives", spec := "walLives", unfollowed := true, recurses := true, apart := false, narrowed := true }
def WalLivesUptoSaid : Prop := walLivesUptoRow.holds Try.pinned (OpenSpec.upto walLivesSpec)

/-- 'seneschallaw10.WalDoes', WHERE WHAT IT READS IS OF BULK AT MOST 1048576: true; the input reads as it did. -/
def walDoesUptoRow : OpenClaim := { program := "ytpjpknndfhablaa", sum := "2f9e1d192b08a7c094618bca9041d53324b0608c8894bf7cbda30c4f2eae1cad", func := "seneschal/seneschallaw10.WalDoes", spec := "walDoes", unfollowed := true, recurses := true, apart := false, narrowed := true }
def WalDoesUptoSaid : Prop := walDoesUptoRow.holds Try.pinned (OpenSpec.upto walDoesSpec)

end Rows
end Go.Proofs.Ytpjpknndfhablaa
