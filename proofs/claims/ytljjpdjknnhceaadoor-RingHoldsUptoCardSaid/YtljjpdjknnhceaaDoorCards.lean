/-
  DERIVED. GIVEN WITH THE SEED: THE CARDS: each row of YtljjpdjknnhceaaDoorRows.lean that lists a variable, with what it lists TIED to the program's text (the seventh form; the later family's looks); each row that meets fmt, with fmt's text TOLD by the authors' own Lean function (tested against real Go, not proved from fmt's source: count such statements apart). THE CARD IS WHAT COUNTS. Prove the row's statement (the work); the ties are given (YtljjpdjknnhceaaDoorTie.lean); close each card by the builder's one call (the guide's Derived/Test/ToyasCard.lean, 'card_holds'). Laid BY PROGRAM, IN A SANDBOX (cutbox-door.mjs). By AI agents, Wed Nov 11 2026. No macro, syntax, notation, axiom, sorry.
-/
import Derived.Test.YtljjpdjknnhceaaDoorRows
import GoSem.ClaimSeven
namespace Go.Proofs.YtljjpdjknnhceaaDoor
namespace Rows

/-- THE TIED CARD OF 'granarylaw6.RingChecks'. -/
def ringChecksCard : Claim7 := { stood := { row := ringChecksRow, standIns := [], harness := (true, "86d9945112063dc8465f1b416d049e83899246d44e6c02df39952ee5fb829f8c"), looks := false }, kinds := [], alts := [], laidByText := true, laidKinds := [.data], laidTests := true, laidLooks := .later }
def RingChecksCardSaid : Prop := Claim7.holds Tryd.pinned (.plain (OpenSpec.ofChange ringChecksSpec)) ringChecksCard

/-- THE TIED CARD OF 'granarylaw6.RingWalks'. -/
def ringWalksCard : Claim7 := { stood := { row := ringWalksRow, standIns := [], harness := (true, "86d9945112063dc8465f1b416d049e83899246d44e6c02df39952ee5fb829f8c"), looks := false }, kinds := [], alts := [], laidByText := true, laidKinds := [.data], laidTests := true, laidLooks := .later }
def RingWalksCardSaid : Prop := Claim7.holds Tryd.pinned (.plain (OpenSpec.ofChange ringWalksSpec)) ringWalksCard

/-- THE TIED CARD OF 'granarylaw6.RingLocates'. -/
def ringLocatesCard : Claim7 := { stood := { row := ringLocatesRow, standIns := [], harness := (true, "86d9945112063dc8465f1b416d049e83899246d44e6c02df39952ee5fb829f8c"), looks := false }, kinds := [], alts := [], laidByText := true, laidKinds := [.data, .data, .data, .data, .data, .data, .data], laidTests := true, laidLooks := .later }
def RingLocatesCardSaid : Prop := Claim7.holds Tryd.pinned (.plain (OpenSpec.ofChange ringLocatesSpec)) ringLocatesCard

/-- THE TIED CARD OF 'granarylaw6.RingPlaces'. -/
def ringPlacesCard : Claim7 := { stood := { row := ringPlacesRow, standIns := [], harness := (true, "86d9945112063dc8465f1b416d049e83899246d44e6c02df39952ee5fb829f8c"), looks := false }, kinds := [], alts := [], laidByText := true, laidKinds := [.data, .data, .data], laidTests := true, laidLooks := .later }
def RingPlacesCardSaid : Prop := Claim7.holds Tryd.pinned (.plain (OpenSpec.ofChange ringPlacesSpec)) ringPlacesCard

/-- THE TIED CARD OF 'granarylaw6.RingPrints'. -/
def ringPrintsCard : Claim7 := { stood := { row := ringPrintsRow, standIns := [], harness := (true, "86d9945112063dc8465f1b416d049e83899246d44e6c02df39952ee5fb829f8c"), looks := false }, kinds := [], alts := [], laidByText := true, laidKinds := [.data, .data, .data, .data, .data], laidTests := true, laidLooks := .later }
def RingPrintsCardSaid : Prop := Claim7.holds Tryd.pinned (.plain (OpenSpec.ofChange ringPrintsSpec)) ringPrintsCard

/-- THE TIED CARD OF 'granarylaw6.RingParses'. -/
def ringParsesCard : Claim7 := { stood := { row := ringParsesRow, standIns := [], harness := (true, "86d9945112063dc8465f1b416d049e83899246d44e6c02df39952ee5fb829f8c"), looks := false }, kinds := [], alts := [], laidByText := true, laidKinds := [.data, .data, .data, .pinned], laidTests := true, laidLooks := .later }
def RingParsesCardSaid : Prop := Claim7.holds Tryd.pinned (.plain (OpenSpec.ofChange ringParsesSpec)) ringParsesCard

/-- THE TIED CARD OF 'granarylaw6.RingNames'. -/
def ringNamesCard : Claim7 := { stood := { row := ringNamesRow, standIns := [], harness := (true, "86d9945112063dc8465f1b416d049e83899246d44e6c02df39952ee5fb829f8c"), looks := false }, kinds := [], alts := [], laidByText := true, laidKinds := [.data, .data, .data, .data, .pinned], laidTests := true, laidLooks := .later }
def RingNamesCardSaid : Prop := Claim7.holds Tryd.pinned (.plain (OpenSpec.ofChange ringNamesSpec)) ringNamesCard

/-- THE TIED CARD OF 'granarylaw6.RingHolds'. -/
def ringHoldsCard : Claim7 := { stood := { row := ringHoldsRow, standIns := [], harness := (true, "86d9945112063dc8465f1b416d049e83899246d44e6c02df39952ee5fb829f8c"), looks := false }, kinds := [], alts := [], laidByText := true, laidKinds := [.data, .data, .data, .data], laidTests := true, laidLooks := .later }
def RingHoldsCardSaid : Prop := Claim7.holds Tryd.pinned (.plain (OpenSpec.ofChange ringHoldsSpec)) ringHoldsCard

/-- THE TIED CARD OF 'granarylaw6.RingTextBack'. -/
def ringTextBackCard : Claim7 := { stood := { row := ringTextBackRow, standIns := [], harness := (true, "86d9945112063dc8465f1b416d049e83899246d44e6c02df39952ee5fb829f8c"), looks := false }, kinds := [], alts := [], laidByText := true, laidKinds := [.data, .data, .data, .data, .pinned], laidTests := true, laidLooks := .later }
def RingTextBackCardSaid : Prop := Claim7.holds Tryd.pinned (.plain (OpenSpec.ofChange ringTextBackSpec)) ringTextBackCard

/-- THE SECOND FORM's CARD OF 'granarylaw6.RingChecks'. -/
def ringChecksUptoCard : Claim7 := { stood := { row := ringChecksUptoRow, standIns := [], harness := (true, "86d9945112063dc8465f1b416d049e83899246d44e6c02df39952ee5fb829f8c"), looks := false }, kinds := [], alts := [], laidByText := true, laidKinds := [.data], laidTests := true, laidLooks := .later }
def RingChecksUptoCardSaid : Prop := Claim7.holds Tryd.pinned (.plain (OpenSpec.upto ringChecksSpec)) ringChecksUptoCard

/-- THE SECOND FORM's CARD OF 'granarylaw6.RingWalks'. -/
def ringWalksUptoCard : Claim7 := { stood := { row := ringWalksUptoRow, standIns := [], harness := (true, "86d9945112063dc8465f1b416d049e83899246d44e6c02df39952ee5fb829f8c"), looks := false }, kinds := [], alts := [], laidByText := true, laidKinds := [.data], laidTests := true, laidLooks := .later }
def RingWalksUptoCardSaid : Prop := Claim7.holds Tryd.pinned (.plain (OpenSpec.upto ringWalksSpec)) ringWalksUptoCard

/-- THE SECOND FORM's CARD OF 'granarylaw6.RingLocates'. -/
def ringLocatesUptoCard : Claim7 := { stood := { row := ringLocatesUptoRow, standIns := [], harness := (true, "86d9945112063dc8465f1b416d049e83899246d44e6c02df39952ee5fb829f8c"), looks := false }, kinds := [], alts := [], laidByText := true, laidKinds := [.data, .data, .data, .data, .data, .data, .data], laidTests := true, laidLooks := .later }
def RingLocatesUptoCardSaid : Prop := Claim7.holds Tryd.pinned (.plain (OpenSpec.upto ringLocatesSpec)) ringLocatesUptoCard

/-- THE SECOND FORM's CARD OF 'granarylaw6.RingPlaces'. -/
def ringPlacesUptoCard : Claim7 := { stood := { row := ringPlacesUptoRow, standIns := [], harness := (true, "86d9945112063dc8465f1b416d049e83899246d44e6c02df39952ee5fb829f8c"), looks := false }, kinds := [], alts := [], laidByText := true, laidKinds := [.data, .data, .data], laidTests := true, laidLooks := .later }
def RingPlacesUptoCardSaid : Prop := Claim7.holds Tryd.pinned (.plain (OpenSpec.upto ringPlacesSpec)) ringPlacesUptoCard

/-- THE SECOND FORM's CARD OF 'granarylaw6.RingPrints'. -/
def ringPrintsUptoCard : Claim7 := { stood := { row := ringPrintsUptoRow, standIns := [], harness := (true, "86d9945112063dc8465f1b416d049e83899246d44e6c02df39952ee5fb829f8c"), looks := false }, kinds := [], alts := [], laidByText := true, laidKinds := [.data, .data, .data, .data, .data], laidTests := true, laidLooks := .later }
def RingPrintsUptoCardSaid : Prop := Claim7.holds Tryd.pinned (.plain (OpenSpec.upto ringPrintsSpec)) ringPrintsUptoCard

/-- THE SECOND FORM's CARD OF 'granarylaw6.RingParses'. -/
def ringParsesUptoCard : Claim7 := { stood := { row := ringParsesUptoRow, standIns := [], harness := (true, "86d9945112063dc8465f1b416d049e83899246d44e6c02df39952ee5fb829f8c"), looks := false }, kinds := [], alts := [], laidByText := true, laidKinds := [.data, .data, .data, .pinned], laidTests := true, laidLooks := .later }
def RingParsesUptoCardSaid : Prop := Claim7.holds Tryd.pinned (.plain (OpenSpec.upto ringParsesSpec)) ringParsesUptoCard

/-- THE SECOND FORM's CARD OF 'granarylaw6.RingNames'. -/
def ringNamesUptoCard : Claim7 := { stood := { row := ringNamesUptoRow, standIns := [], harness := (true, "86d9945112063dc8465f1b416d049e83899246d44e6c02df39952ee5fb829f8c"), looks := false }, kinds := [], alts := [], laidByText := true, laidKinds := [.data, .data, .data, .data, .pinned], laidTests := true, laidLooks := .later }
def RingNamesUptoCardSaid : Prop := Claim7.holds Tryd.pinned (.plain (OpenSpec.upto ringNamesSpec)) ringNamesUptoCard

/-- THE SECOND FORM's CARD OF 'granarylaw6.RingHolds'. -/
def ringHoldsUptoCard : Claim7 := { stood := { row := ringHoldsUptoRow, standIns := [], harness := (true, "86d9945112063dc8465f1b416d049e83899246d44e6c02df39952ee5fb829f8c"), looks := false }, kinds := [], alts := [], laidByText := true, laidKinds := [.data, .data, .data, .data], laidTests := true, laidLooks := .later }
def RingHoldsUptoCardSaid : Prop := Claim7.holds Tryd.pinned (.plain (OpenSpec.upto ringHoldsSpec)) ringHoldsUptoCard

/-- THE SECOND FORM's CARD OF 'granarylaw6.RingTextBack'. -/
def ringTextBackUptoCard : Claim7 := { stood := { row := ringTextBackUptoRow, standIns := [], harness := (true, "86d9945112063dc8465f1b416d049e83899246d44e6c02df39952ee5fb829f8c"), looks := false }, kinds := [], alts := [], laidByText := true, laidKinds := [.data, .data, .data, .data, .pinned], laidTests := true, laidLooks := .later }
def RingTextBackUptoCardSaid : Prop := Claim7.holds Tryd.pinned (.plain (OpenSpec.upto ringTextBackSpec)) ringTextBackUptoCard
end Rows
end Go.Proofs.YtljjpdjknnhceaaDoor
