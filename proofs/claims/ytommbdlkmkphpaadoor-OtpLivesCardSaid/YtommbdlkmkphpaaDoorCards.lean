/-
  DERIVED. GIVEN WITH THE SEED: THE CARDS: each row of YtommbdlkmkphpaaDoorRows.lean that lists a variable, with what it lists TIED to the program's text (the seventh form; the later family's looks); each row that meets fmt, with fmt's text TOLD by the authors' own Lean function (tested against real Go, not proved from fmt's source: count such statements apart). THE CARD IS WHAT COUNTS. Prove the row's statement (the work); the ties are given (YtommbdlkmkphpaaDoorTie.lean); close each card by the builder's one call (the guide's Derived/Test/ToyasCard.lean, 'card_holds'). Laid BY PROGRAM, IN A SANDBOX (cutbox-door.mjs). By AI agents, Wed Nov 11 2026. No macro, syntax, notation, axiom, sorry.
-/
import Derived.Test.YtommbdlkmkphpaaDoorRows
import GoSem.ClaimSeven
namespace Go.Proofs.YtommbdlkmkphpaaDoor
namespace Rows

/-- THE TIED CARD OF 'seneschallaw05.OtpCodes'. -/
def otpCodesCard : Claim7 := { stood := { row := otpCodesRow, standIns := [], harness := (true, "98d58f952779ee36d0283f3107582b8955e343f521c101bc38337ca6389baad6"), looks := false }, kinds := [], alts := [], laidByText := true, laidKinds := [.data, .data, .data], laidTests := true, laidLooks := .later }
def OtpCodesCardSaid : Prop := Claim7.holds Tryd.pinned (.plain (OpenSpec.ofChange otpCodesSpec)) otpCodesCard

/-- THE TIED CARD OF 'seneschallaw05.OtpFinds'. -/
def otpFindsCard : Claim7 := { stood := { row := otpFindsRow, standIns := [], harness := (true, "98d58f952779ee36d0283f3107582b8955e343f521c101bc38337ca6389baad6"), looks := false }, kinds := [], alts := [], laidByText := true, laidKinds := [.data, .data, .data], laidTests := true, laidLooks := .later }
def OtpFindsCardSaid : Prop := Claim7.holds Tryd.pinned (.plain (OpenSpec.ofChange otpFindsSpec)) otpFindsCard

/-- THE TIED CARD OF 'seneschallaw05.OtpLives'. -/
def otpLivesCard : Claim7 := { stood := { row := otpLivesRow, standIns := [], harness := (true, "98d58f952779ee36d0283f3107582b8955e343f521c101bc38337ca6389baad6"), looks := false }, kinds := [], alts := [], laidByText := true, laidKinds := [.data, .data, .data], laidTests := true, laidLooks := .later }
def OtpLivesCardSaid : Prop := Claim7.holds Tryd.pinned (.plain (OpenSpec.ofChange otpLivesSpec)) otpLivesCard

/-- THE TIED CARD OF 'seneschallaw05.OtpForms'. -/
def otpFormsCard : Claim7 := { stood := { row := otpFormsRow, standIns := [], harness := (true, "98d58f952779ee36d0283f3107582b8955e343f521c101bc38337ca6389baad6"), looks := false }, kinds := [], alts := [], laidByText := true, laidKinds := [.data, .data, .data], laidTests := true, laidLooks := .later }
def OtpFormsCardSaid : Prop := Claim7.holds Tryd.pinned (.plain (OpenSpec.ofChange otpFormsSpec)) otpFormsCard

/-- THE TIED CARD OF 'seneschallaw05.OtpWider'. -/
def otpWiderCard : Claim7 := { stood := { row := otpWiderRow, standIns := [], harness := (true, "98d58f952779ee36d0283f3107582b8955e343f521c101bc38337ca6389baad6"), looks := false }, kinds := [], alts := [], laidByText := true, laidKinds := [.data, .data, .data], laidTests := true, laidLooks := .later }
def OtpWiderCardSaid : Prop := Claim7.holds Tryd.pinned (.plain (OpenSpec.ofChange otpWiderSpec)) otpWiderCard

/-- THE SECOND FORM's CARD OF 'seneschallaw05.OtpCodes'. -/
def otpCodesUptoCard : Claim7 := { stood := { row := otpCodesUptoRow, standIns := [], harness := (true, "98d58f952779ee36d0283f3107582b8955e343f521c101bc38337ca6389baad6"), looks := false }, kinds := [], alts := [], laidByText := true, laidKinds := [.data, .data, .data], laidTests := true, laidLooks := .later }
def OtpCodesUptoCardSaid : Prop := Claim7.holds Tryd.pinned (.plain (OpenSpec.upto otpCodesSpec)) otpCodesUptoCard

/-- THE SECOND FORM's CARD OF 'seneschallaw05.OtpFinds'. -/
def otpFindsUptoCard : Claim7 := { stood := { row := otpFindsUptoRow, standIns := [], harness := (true, "98d58f952779ee36d0283f3107582b8955e343f521c101bc38337ca6389baad6"), looks := false }, kinds := [], alts := [], laidByText := true, laidKinds := [.data, .data, .data], laidTests := true, laidLooks := .later }
def OtpFindsUptoCardSaid : Prop := Claim7.holds Tryd.pinned (.plain (OpenSpec.upto otpFindsSpec)) otpFindsUptoCard

/-- THE SECOND FORM's CARD OF 'seneschallaw05.OtpLives'. -/
def otpLivesUptoCard : Claim7 := { stood := { row := otpLivesUptoRow, standIns := [], harness := (true, "98d58f952779ee36d0283f3107582b8955e343f521c101bc38337ca6389baad6"), looks := false }, kinds := [], alts := [], laidByText := true, laidKinds := [.data, .data, .data], laidTests := true, laidLooks := .later }
def OtpLivesUptoCardSaid : Prop := Claim7.holds Tryd.pinned (.plain (OpenSpec.upto otpLivesSpec)) otpLivesUptoCard

/-- THE SECOND FORM's CARD OF 'seneschallaw05.OtpForms'. -/
def otpFormsUptoCard : Claim7 := { stood := { row := otpFormsUptoRow, standIns := [], harness := (true, "98d58f952779ee36d0283f3107582b8955e343f521c101bc38337ca6389baad6"), looks := false }, kinds := [], alts := [], laidByText := true, laidKinds := [.data, .data, .data], laidTests := true, laidLooks := .later }
def OtpFormsUptoCardSaid : Prop := Claim7.holds Tryd.pinned (.plain (OpenSpec.upto otpFormsSpec)) otpFormsUptoCard

/-- THE SECOND FORM's CARD OF 'seneschallaw05.OtpWider'. -/
def otpWiderUptoCard : Claim7 := { stood := { row := otpWiderUptoRow, standIns := [], harness := (true, "98d58f952779ee36d0283f3107582b8955e343f521c101bc38337ca6389baad6"), looks := false }, kinds := [], alts := [], laidByText := true, laidKinds := [.data, .data, .data], laidTests := true, laidLooks := .later }
def OtpWiderUptoCardSaid : Prop := Claim7.holds Tryd.pinned (.plain (OpenSpec.upto otpWiderSpec)) otpWiderUptoCard
end Rows
end Go.Proofs.YtommbdlkmkphpaaDoor
