/-
  DERIVED. GIVEN WITH THE SEED: THE CARDS: each row of YtnifgokjagahfaaDoorRows.lean that lists a variable, with what it lists TIED to the program's text (the seventh form; the later family's looks); each row that meets fmt, with fmt's text TOLD by the authors' own Lean function (tested against real Go, not proved from fmt's source: count such statements apart). THE CARD IS WHAT COUNTS. Prove the row's statement (the work); the ties are given (YtnifgokjagahfaaDoorTie.lean); close each card by the builder's one call (the guide's Derived/Test/ToyasCard.lean, 'card_holds'). Laid BY PROGRAM, IN A SANDBOX (cutbox-door.mjs). By AI agents, Wed Nov 11 2026. No macro, syntax, notation, axiom, sorry.
-/
import Derived.Test.YtnifgokjagahfaaDoorRows
import GoSem.ClaimSeven
namespace Go.Proofs.YtnifgokjagahfaaDoor
namespace Rows

/-- THE TIED CARD OF 'granarylaw5.FrameEncodes'. -/
def frameEncodesCard : Claim7 := { stood := { row := frameEncodesRow, standIns := [], harness := (true, "d0845f2eb6a836890353d4b897030da83306ad17cc0322de5598e7693ccf1179"), looks := false }, kinds := [], alts := [], laidByText := true, laidKinds := [.data, .data], laidTests := true, laidLooks := .later }
def FrameEncodesCardSaid : Prop := Claim7.holds Tryd.pinned (.plain (OpenSpec.ofChange frameEncodesSpec)) frameEncodesCard

/-- THE TIED CARD OF 'granarylaw5.FrameDecodes'. -/
def frameDecodesCard : Claim7 := { stood := { row := frameDecodesRow, standIns := [], harness := (true, "d0845f2eb6a836890353d4b897030da83306ad17cc0322de5598e7693ccf1179"), looks := false }, kinds := [], alts := [], laidByText := true, laidKinds := [.data, .data], laidTests := true, laidLooks := .later }
def FrameDecodesCardSaid : Prop := Claim7.holds Tryd.pinned (.plain (OpenSpec.ofChange frameDecodesSpec)) frameDecodesCard

/-- THE TIED CARD OF 'granarylaw5.FrameSplits'. -/
def frameSplitsCard : Claim7 := { stood := { row := frameSplitsRow, standIns := [], harness := (true, "d0845f2eb6a836890353d4b897030da83306ad17cc0322de5598e7693ccf1179"), looks := false }, kinds := [], alts := [], laidByText := true, laidKinds := [.data, .data], laidTests := true, laidLooks := .later }
def FrameSplitsCardSaid : Prop := Claim7.holds Tryd.pinned (.plain (OpenSpec.ofChange frameSplitsSpec)) frameSplitsCard

/-- THE TIED CARD OF 'granarylaw5.FrameScans'. -/
def frameScansCard : Claim7 := { stood := { row := frameScansRow, standIns := [], harness := (true, "d0845f2eb6a836890353d4b897030da83306ad17cc0322de5598e7693ccf1179"), looks := false }, kinds := [], alts := [], laidByText := true, laidKinds := [.data, .data], laidTests := true, laidLooks := .later }
def FrameScansCardSaid : Prop := Claim7.holds Tryd.pinned (.plain (OpenSpec.ofChange frameScansSpec)) frameScansCard

/-- THE TIED CARD OF 'granarylaw5.FrameBack'. -/
def frameBackCard : Claim7 := { stood := { row := frameBackRow, standIns := [], harness := (true, "d0845f2eb6a836890353d4b897030da83306ad17cc0322de5598e7693ccf1179"), looks := false }, kinds := [], alts := [], laidByText := true, laidKinds := [.data, .data], laidTests := true, laidLooks := .later }
def FrameBackCardSaid : Prop := Claim7.holds Tryd.pinned (.plain (OpenSpec.ofChange frameBackSpec)) frameBackCard

/-- THE TIED CARD OF 'granarylaw5.FrameCanon'. -/
def frameCanonCard : Claim7 := { stood := { row := frameCanonRow, standIns := [], harness := (true, "d0845f2eb6a836890353d4b897030da83306ad17cc0322de5598e7693ccf1179"), looks := false }, kinds := [], alts := [], laidByText := true, laidKinds := [.data], laidTests := true, laidLooks := .later }
def FrameCanonCardSaid : Prop := Claim7.holds Tryd.pinned (.plain (OpenSpec.ofChange frameCanonSpec)) frameCanonCard

/-- THE TIED CARD OF 'granarylaw5.FrameBurst'. -/
def frameBurstCard : Claim7 := { stood := { row := frameBurstRow, standIns := [], harness := (true, "d0845f2eb6a836890353d4b897030da83306ad17cc0322de5598e7693ccf1179"), looks := false }, kinds := [], alts := [], laidByText := true, laidKinds := [.data, .data], laidTests := true, laidLooks := .later }
def FrameBurstCardSaid : Prop := Claim7.holds Tryd.pinned (.plain (OpenSpec.ofChange frameBurstSpec)) frameBurstCard

/-- THE TIED CARD OF 'granarylaw5.FrameReaders'. -/
def frameReadersCard : Claim7 := { stood := { row := frameReadersRow, standIns := [], harness := (true, "d0845f2eb6a836890353d4b897030da83306ad17cc0322de5598e7693ccf1179"), looks := false }, kinds := [], alts := [], laidByText := true, laidKinds := [.data, .data], laidTests := true, laidLooks := .later }
def FrameReadersCardSaid : Prop := Claim7.holds Tryd.pinned (.plain (OpenSpec.ofChange frameReadersSpec)) frameReadersCard

/-- THE TIED CARD OF 'granarylaw5.FrameCuts'. -/
def frameCutsCard : Claim7 := { stood := { row := frameCutsRow, standIns := [], harness := (true, "d0845f2eb6a836890353d4b897030da83306ad17cc0322de5598e7693ccf1179"), looks := false }, kinds := [], alts := [], laidByText := true, laidKinds := [.data], laidTests := true, laidLooks := .later }
def FrameCutsCardSaid : Prop := Claim7.holds Tryd.pinned (.plain (OpenSpec.ofChange frameCutsSpec)) frameCutsCard

/-- THE TIED CARD OF 'granarylaw5.FrameStream'. -/
def frameStreamCard : Claim7 := { stood := { row := frameStreamRow, standIns := [], harness := (true, "d0845f2eb6a836890353d4b897030da83306ad17cc0322de5598e7693ccf1179"), looks := false }, kinds := [], alts := [], laidByText := true, laidKinds := [.data, .data], laidTests := true, laidLooks := .later }
def FrameStreamCardSaid : Prop := Claim7.holds Tryd.pinned (.plain (OpenSpec.ofChange frameStreamSpec)) frameStreamCard

/-- THE SECOND FORM's CARD OF 'granarylaw5.FrameEncodes'. -/
def frameEncodesUptoCard : Claim7 := { stood := { row := frameEncodesUptoRow, standIns := [], harness := (true, "d0845f2eb6a836890353d4b897030da83306ad17cc0322de5598e7693ccf1179"), looks := false }, kinds := [], alts := [], laidByText := true, laidKinds := [.data, .data], laidTests := true, laidLooks := .later }
def FrameEncodesUptoCardSaid : Prop := Claim7.holds Tryd.pinned (.plain (OpenSpec.upto frameEncodesSpec)) frameEncodesUptoCard

/-- THE SECOND FORM's CARD OF 'granarylaw5.FrameDecodes'. -/
def frameDecodesUptoCard : Claim7 := { stood := { row := frameDecodesUptoRow, standIns := [], harness := (true, "d0845f2eb6a836890353d4b897030da83306ad17cc0322de5598e7693ccf1179"), looks := false }, kinds := [], alts := [], laidByText := true, laidKinds := [.data, .data], laidTests := true, laidLooks := .later }
def FrameDecodesUptoCardSaid : Prop := Claim7.holds Tryd.pinned (.plain (OpenSpec.upto frameDecodesSpec)) frameDecodesUptoCard

/-- THE SECOND FORM's CARD OF 'granarylaw5.FrameSplits'. -/
def frameSplitsUptoCard : Claim7 := { stood := { row := frameSplitsUptoRow, standIns := [], harness := (true, "d0845f2eb6a836890353d4b897030da83306ad17cc0322de5598e7693ccf1179"), looks := false }, kinds := [], alts := [], laidByText := true, laidKinds := [.data, .data], laidTests := true, laidLooks := .later }
def FrameSplitsUptoCardSaid : Prop := Claim7.holds Tryd.pinned (.plain (OpenSpec.upto frameSplitsSpec)) frameSplitsUptoCard

/-- THE SECOND FORM's CARD OF 'granarylaw5.FrameScans'. -/
def frameScansUptoCard : Claim7 := { stood := { row := frameScansUptoRow, standIns := [], harness := (true, "d0845f2eb6a836890353d4b897030da83306ad17cc0322de5598e7693ccf1179"), looks := false }, kinds := [], alts := [], laidByText := true, laidKinds := [.data, .data], laidTests := true, laidLooks := .later }
def FrameScansUptoCardSaid : Prop := Claim7.holds Tryd.pinned (.plain (OpenSpec.upto frameScansSpec)) frameScansUptoCard

/-- THE SECOND FORM's CARD OF 'granarylaw5.FrameBack'. -/
def frameBackUptoCard : Claim7 := { stood := { row := frameBackUptoRow, standIns := [], harness := (true, "d0845f2eb6a836890353d4b897030da83306ad17cc0322de5598e7693ccf1179"), looks := false }, kinds := [], alts := [], laidByText := true, laidKinds := [.data, .data], laidTests := true, laidLooks := .later }
def FrameBackUptoCardSaid : Prop := Claim7.holds Tryd.pinned (.plain (OpenSpec.upto frameBackSpec)) frameBackUptoCard

/-- THE SECOND FORM's CARD OF 'granarylaw5.FrameCanon'. -/
def frameCanonUptoCard : Claim7 := { stood := { row := frameCanonUptoRow, standIns := [], harness := (true, "d0845f2eb6a836890353d4b897030da83306ad17cc0322de5598e7693ccf1179"), looks := false }, kinds := [], alts := [], laidByText := true, laidKinds := [.data], laidTests := true, laidLooks := .later }
def FrameCanonUptoCardSaid : Prop := Claim7.holds Tryd.pinned (.plain (OpenSpec.upto frameCanonSpec)) frameCanonUptoCard

/-- THE SECOND FORM's CARD OF 'granarylaw5.FrameBurst'. -/
def frameBurstUptoCard : Claim7 := { stood := { row := frameBurstUptoRow, standIns := [], harness := (true, "d0845f2eb6a836890353d4b897030da83306ad17cc0322de5598e7693ccf1179"), looks := false }, kinds := [], alts := [], laidByText := true, laidKinds := [.data, .data], laidTests := true, laidLooks := .later }
def FrameBurstUptoCardSaid : Prop := Claim7.holds Tryd.pinned (.plain (OpenSpec.upto frameBurstSpec)) frameBurstUptoCard

/-- THE SECOND FORM's CARD OF 'granarylaw5.FrameReaders'. -/
def frameReadersUptoCard : Claim7 := { stood := { row := frameReadersUptoRow, standIns := [], harness := (true, "d0845f2eb6a836890353d4b897030da83306ad17cc0322de5598e7693ccf1179"), looks := false }, kinds := [], alts := [], laidByText := true, laidKinds := [.data, .data], laidTests := true, laidLooks := .later }
def FrameReadersUptoCardSaid : Prop := Claim7.holds Tryd.pinned (.plain (OpenSpec.upto frameReadersSpec)) frameReadersUptoCard

/-- THE SECOND FORM's CARD OF 'granarylaw5.FrameCuts'. -/
def frameCutsUptoCard : Claim7 := { stood := { row := frameCutsUptoRow, standIns := [], harness := (true, "d0845f2eb6a836890353d4b897030da83306ad17cc0322de5598e7693ccf1179"), looks := false }, kinds := [], alts := [], laidByText := true, laidKinds := [.data], laidTests := true, laidLooks := .later }
def FrameCutsUptoCardSaid : Prop := Claim7.holds Tryd.pinned (.plain (OpenSpec.upto frameCutsSpec)) frameCutsUptoCard

/-- THE SECOND FORM's CARD OF 'granarylaw5.FrameStream'. -/
def frameStreamUptoCard : Claim7 := { stood := { row := frameStreamUptoRow, standIns := [], harness := (true, "d0845f2eb6a836890353d4b897030da83306ad17cc0322de5598e7693ccf1179"), looks := false }, kinds := [], alts := [], laidByText := true, laidKinds := [.data, .data], laidTests := true, laidLooks := .later }
def FrameStreamUptoCardSaid : Prop := Claim7.holds Tryd.pinned (.plain (OpenSpec.upto frameStreamSpec)) frameStreamUptoCard
end Rows
end Go.Proofs.YtnifgokjagahfaaDoor
