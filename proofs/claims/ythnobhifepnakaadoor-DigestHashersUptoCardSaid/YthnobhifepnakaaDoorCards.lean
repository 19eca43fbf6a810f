/-
  DERIVED. GIVEN WITH THE SEED: THE CARDS: each row of YthnobhifepnakaaDoorRows.lean that lists a variable, with what it lists TIED to the program's text (the seventh form; the later family's looks); each row that meets fmt, with fmt's text TOLD by the authors' own Lean function (tested against real Go, not proved from fmt's source: count such statements apart). THE CARD IS WHAT COUNTS. Prove the row's statement (the work); the ties are given (YthnobhifepnakaaDoorTie.lean); close each card by the builder's one call (the guide's Derived/Test/ToyasCard.lean, 'card_holds'). Laid BY PROGRAM, IN A SANDBOX (cutbox-door.mjs). By AI agents, Wed Nov 11 2026. No macro, syntax, notation, axiom, sorry.
-/
import Derived.Test.YthnobhifepnakaaDoorRows
import GoSem.ClaimSeven
namespace Go.Proofs.YthnobhifepnakaaDoor
namespace Rows

/-- THE TIED CARD OF 'granarylaw2.DigestCRCs'. -/
def digestCRCsCard : Claim7 := { stood := { row := digestCRCsRow, standIns := [], harness := (true, "46f7beac06e68315f75b4a2c103f6c421681df2f507b88790e83cee35a8019f5"), looks := false }, kinds := [], alts := [], laidByText := true, laidKinds := [.data], laidTests := true, laidLooks := .later }
def DigestCRCsCardSaid : Prop := Claim7.holds Tryd.pinned (.plain (OpenSpec.ofChange digestCRCsSpec)) digestCRCsCard

/-- THE TIED CARD OF 'granarylaw2.DigestJoins'. -/
def digestJoinsCard : Claim7 := { stood := { row := digestJoinsRow, standIns := [], harness := (true, "46f7beac06e68315f75b4a2c103f6c421681df2f507b88790e83cee35a8019f5"), looks := false }, kinds := [], alts := [], laidByText := true, laidKinds := [.data], laidTests := true, laidLooks := .later }
def DigestJoinsCardSaid : Prop := Claim7.holds Tryd.pinned (.plain (OpenSpec.ofChange digestJoinsSpec)) digestJoinsCard

/-- THE TIED CARD OF 'granarylaw2.DigestMD5s'. -/
def digestMD5sCard : Claim7 := { stood := { row := digestMD5sRow, standIns := [], harness := (true, "46f7beac06e68315f75b4a2c103f6c421681df2f507b88790e83cee35a8019f5"), looks := false }, kinds := [], alts := [], laidByText := true, laidKinds := [.data, .data, .data, .data, .data, .data], laidTests := true, laidLooks := .later }
def DigestMD5sCardSaid : Prop := Claim7.holds Tryd.pinned (.plain (OpenSpec.ofChange digestMD5sSpec)) digestMD5sCard

/-- THE TIED CARD OF 'granarylaw2.DigestHashers'. -/
def digestHashersCard : Claim7 := { stood := { row := digestHashersRow, standIns := [], harness := (true, "46f7beac06e68315f75b4a2c103f6c421681df2f507b88790e83cee35a8019f5"), looks := false }, kinds := [], alts := [], laidByText := true, laidKinds := [.data, .data, .data, .data, .data, .data, .data], laidTests := true, laidLooks := .later }
def DigestHashersCardSaid : Prop := Claim7.holds Tryd.pinned (.plain (OpenSpec.ofChange digestHashersSpec)) digestHashersCard

/-- THE TIED CARD OF 'granarylaw2.DigestKnown'. -/
def digestKnownCard : Claim7 := { stood := { row := digestKnownRow, standIns := [], harness := (true, "46f7beac06e68315f75b4a2c103f6c421681df2f507b88790e83cee35a8019f5"), looks := false }, kinds := [], alts := [], laidByText := true, laidKinds := [.data, .data, .data, .data], laidTests := true, laidLooks := .later }
def DigestKnownCardSaid : Prop := Claim7.holds Tryd.pinned (.plain (OpenSpec.ofChange digestKnownSpec)) digestKnownCard

/-- THE TIED CARD OF 'granarylaw2.DigestBurst'. -/
def digestBurstCard : Claim7 := { stood := { row := digestBurstRow, standIns := [], harness := (true, "46f7beac06e68315f75b4a2c103f6c421681df2f507b88790e83cee35a8019f5"), looks := false }, kinds := [], alts := [], laidByText := true, laidKinds := [.data, .data, .data, .data], laidTests := true, laidLooks := .later }
def DigestBurstCardSaid : Prop := Claim7.holds Tryd.pinned (.plain (OpenSpec.ofChange digestBurstSpec)) digestBurstCard

/-- THE TIED CARD OF 'granarylaw2.DigestCuts'. -/
def digestCutsCard : Claim7 := { stood := { row := digestCutsRow, standIns := [], harness := (true, "46f7beac06e68315f75b4a2c103f6c421681df2f507b88790e83cee35a8019f5"), looks := false }, kinds := [], alts := [], laidByText := true, laidKinds := [.data, .data, .data, .data], laidTests := true, laidLooks := .later }
def DigestCutsCardSaid : Prop := Claim7.holds Tryd.pinned (.plain (OpenSpec.ofChange digestCutsSpec)) digestCutsCard

/-- THE TIED CARD OF 'granarylaw2.DigestHexBack'. -/
def digestHexBackCard : Claim7 := { stood := { row := digestHexBackRow, standIns := [], harness := (true, "46f7beac06e68315f75b4a2c103f6c421681df2f507b88790e83cee35a8019f5"), looks := false }, kinds := [], alts := [], laidByText := true, laidKinds := [.data, .data, .data, .data], laidTests := true, laidLooks := .later }
def DigestHexBackCardSaid : Prop := Claim7.holds Tryd.pinned (.plain (OpenSpec.ofChange digestHexBackSpec)) digestHexBackCard

/-- THE TIED CARD OF 'granarylaw2.DigestJoined'. -/
def digestJoinedCard : Claim7 := { stood := { row := digestJoinedRow, standIns := [], harness := (true, "46f7beac06e68315f75b4a2c103f6c421681df2f507b88790e83cee35a8019f5"), looks := false }, kinds := [], alts := [], laidByText := true, laidKinds := [.data, .data, .data, .data], laidTests := true, laidLooks := .later }
def DigestJoinedCardSaid : Prop := Claim7.holds Tryd.pinned (.plain (OpenSpec.ofChange digestJoinedSpec)) digestJoinedCard

/-- THE SECOND FORM's CARD OF 'granarylaw2.DigestCRCs'. -/
def digestCRCsUptoCard : Claim7 := { stood := { row := digestCRCsUptoRow, standIns := [], harness := (true, "46f7beac06e68315f75b4a2c103f6c421681df2f507b88790e83cee35a8019f5"), looks := false }, kinds := [], alts := [], laidByText := true, laidKinds := [.data], laidTests := true, laidLooks := .later }
def DigestCRCsUptoCardSaid : Prop := Claim7.holds Tryd.pinned (.plain (OpenSpec.upto digestCRCsSpec)) digestCRCsUptoCard

/-- THE SECOND FORM's CARD OF 'granarylaw2.DigestJoins'. -/
def digestJoinsUptoCard : Claim7 := { stood := { row := digestJoinsUptoRow, standIns := [], harness := (true, "46f7beac06e68315f75b4a2c103f6c421681df2f507b88790e83cee35a8019f5"), looks := false }, kinds := [], alts := [], laidByText := true, laidKinds := [.data], laidTests := true, laidLooks := .later }
def DigestJoinsUptoCardSaid : Prop := Claim7.holds Tryd.pinned (.plain (OpenSpec.upto digestJoinsSpec)) digestJoinsUptoCard

/-- THE SECOND FORM's CARD OF 'granarylaw2.DigestMD5s'. -/
def digestMD5sUptoCard : Claim7 := { stood := { row := digestMD5sUptoRow, standIns := [], harness := (true, "46f7beac06e68315f75b4a2c103f6c421681df2f507b88790e83cee35a8019f5"), looks := false }, kinds := [], alts := [], laidByText := true, laidKinds := [.data, .data, .data, .data, .data, .data], laidTests := true, laidLooks := .later }
def DigestMD5sUptoCardSaid : Prop := Claim7.holds Tryd.pinned (.plain (OpenSpec.upto digestMD5sSpec)) digestMD5sUptoCard

/-- THE SECOND FORM's CARD OF 'granarylaw2.DigestHashers'. -/
def digestHashersUptoCard : Claim7 := { stood := { row := digestHashersUptoRow, standIns := [], harness := (true, "46f7beac06e68315f75b4a2c103f6c421681df2f507b88790e83cee35a8019f5"), looks := false }, kinds := [], alts := [], laidByText := true, laidKinds := [.data, .data, .data, .data, .data, .data, .data], laidTests := true, laidLooks := .later }
def DigestHashersUptoCardSaid : Prop := Claim7.holds Tryd.pinned (.plain (OpenSpec.upto digestHashersSpec)) digestHashersUptoCard

/-- THE SECOND FORM's CARD OF 'granarylaw2.DigestKnown'. -/
def digestKnownUptoCard : Claim7 := { stood := { row := digestKnownUptoRow, standIns := [], harness := (true, "46f7beac06e68315f75b4a2c103f6c421681df2f507b88790e83cee35a8019f5"), looks := false }, kinds := [], alts := [], laidByText := true, laidKinds := [.data, .data, .data, .data], laidTests := true, laidLooks := .later }
def DigestKnownUptoCardSaid : Prop := Claim7.holds Tryd.pinned (.plain (OpenSpec.upto digestKnownSpec)) digestKnownUptoCard

/-- THE SECOND FORM's CARD OF 'granarylaw2.DigestBurst'. -/
def digestBurstUptoCard : Claim7 := { stood := { row := digestBurstUptoRow, standIns := [], harness := (true, "46f7beac06e68315f75b4a2c103f6c421681df2f507b88790e83cee35a8019f5"), looks := false }, kinds := [], alts := [], laidByText := true, laidKinds := [.data, .data, .data, .data], laidTests := true, laidLooks := .later }
def DigestBurstUptoCardSaid : Prop := Claim7.holds Tryd.pinned (.plain (OpenSpec.upto digestBurstSpec)) digestBurstUptoCard

/-- THE SECOND FORM's CARD OF 'granarylaw2.DigestCuts'. -/
def digestCutsUptoCard : Claim7 := { stood := { row := digestCutsUptoRow, standIns := [], harness := (true, "46f7beac06e68315f75b4a2c103f6c421681df2f507b88790e83cee35a8019f5"), looks := false }, kinds := [], alts := [], laidByText := true, laidKinds := [.data, .data, .data, .data], laidTests := true, laidLooks := .later }
def DigestCutsUptoCardSaid : Prop := Claim7.holds Tryd.pinned (.plain (OpenSpec.upto digestCutsSpec)) digestCutsUptoCard

/-- THE SECOND FORM's CARD OF 'granarylaw2.DigestHexBack'. -/
def digestHexBackUptoCard : Claim7 := { stood := { row := digestHexBackUptoRow, standIns := [], harness := (true, "46f7beac06e68315f75b4a2c103f6c421681df2f507b88790e83cee35a8019f5"), looks := false }, kinds := [], alts := [], laidByText := true, laidKinds := [.data, .data, .data, .data], laidTests := true, laidLooks := .later }
def DigestHexBackUptoCardSaid : Prop := Claim7.holds Tryd.pinned (.plain (OpenSpec.upto digestHexBackSpec)) digestHexBackUptoCard

/-- THE SECOND FORM's CARD OF 'granarylaw2.DigestJoined'. -/
def digestJoinedUptoCard : Claim7 := { stood := { row := digestJoinedUptoRow, standIns := [], harness := (true, "46f7beac06e68315f75b4a2c103f6c421681df2f507b88790e83cee35a8019f5"), looks := false }, kinds := [], alts := [], laidByText := true, laidKinds := [.data, .data, .data, .data], laidTests := true, laidLooks := .later }
def DigestJoinedUptoCardSaid : Prop := Claim7.holds Tryd.pinned (.plain (OpenSpec.upto digestJoinedSpec)) digestJoinedUptoCard
end Rows
end Go.Proofs.YthnobhifepnakaaDoor
