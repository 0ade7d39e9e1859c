/-
  DERIVED. GIVEN WITH THE SEED: THE CARDS: each row of YtdgejpgbppfhmaaGreatDoorRows.lean that lists a variable, with what it lists TIED to the program's text (the seventh form; the later family's looks); each row that meets fmt, with fmt's text TOLD by the authors' own Lean function (tested against real Go, not proved from fmt's source: count such statements apart). THE CARD IS WHAT COUNTS. Prove the row's statement (the work); the ties are given (YtdgejpgbppfhmaaGreatDoorTie.lean); close each card by the builder's one call (the guide's Derived/Test/ToyasCard.lean, 'card_holds'). Laid BY PROGRAM, IN A SANDBOX (cutbox-door.mjs). By AI agents, Wed Nov 11 2026. No macro, syntax, notation, axiom, sorry.
-/
import Derived.Test.YtdgejpgbppfhmaaGreatDoorRows
import GoSem.ClaimSeven
namespace Go.Proofs.YtdgejpgbppfhmaaGreatDoor
namespace Rows

/-- THE TIED CARD OF 'workflowlaw09.SourcePrints'. -/
def sourcePrintsCard : Claim7 := { stood := { row := sourcePrintsRow, standIns := [], harness := (true, "c5b4141e127f3766b45fdd2c26213df5cd3585ecb6ffb26b77768c52392dbbbb"), looks := true }, kinds := [], alts := [], laidByText := true, laidKinds := [.data, .data, .data, .sentinel, .sentinel, .listed, .data], laidTests := true, laidLooks := .later }
def SourcePrintsCardSaid : Prop := Claim7.holds Tryz.pinned (.plain (OpenSpec.ofChange sourcePrintsSpec)) sourcePrintsCard

/-- THE TIED CARD OF 'workflowlaw09.SourceFormats'. -/
def sourceFormatsCard : Claim7 := { stood := { row := sourceFormatsRow, standIns := [], harness := (true, "c5b4141e127f3766b45fdd2c26213df5cd3585ecb6ffb26b77768c52392dbbbb"), looks := true }, kinds := [], alts := [], laidByText := true, laidKinds := [.data, .data, .data, .sentinel, .sentinel, .listed, .data], laidTests := true, laidLooks := .later }
def SourceFormatsCardSaid : Prop := Claim7.holds Tryz.pinned (.plain (OpenSpec.ofChange sourceFormatsSpec)) sourceFormatsCard

/-- THE TIED CARD OF 'workflowlaw09.SourceRoundTrip'. -/
def sourceRoundTripCard : Claim7 := { stood := { row := sourceRoundTripRow, standIns := [], harness := (true, "c5b4141e127f3766b45fdd2c26213df5cd3585ecb6ffb26b77768c52392dbbbb"), looks := true }, kinds := [], alts := [], laidByText := true, laidKinds := [.data, .data, .data, .sentinel, .sentinel, .listed, .data], laidTests := true, laidLooks := .later }
def SourceRoundTripCardSaid : Prop := Claim7.holds Tryz.pinned (.plain (OpenSpec.ofChange sourceRoundTripSpec)) sourceRoundTripCard

/-- THE TIED CARD OF 'workflowlaw09.SourceStable'. -/
def sourceStableCard : Claim7 := { stood := { row := sourceStableRow, standIns := [], harness := (true, "c5b4141e127f3766b45fdd2c26213df5cd3585ecb6ffb26b77768c52392dbbbb"), looks := true }, kinds := [], alts := [], laidByText := true, laidKinds := [.data, .data, .data, .sentinel, .sentinel, .listed, .data], laidTests := true, laidLooks := .later }
def SourceStableCardSaid : Prop := Claim7.holds Tryz.pinned (.plain (OpenSpec.ofChange sourceStableSpec)) sourceStableCard

/-- THE TIED CARD OF 'workflowlaw09.SourceBlanks'. -/
def sourceBlanksCard : Claim7 := { stood := { row := sourceBlanksRow, standIns := [], harness := (true, "c5b4141e127f3766b45fdd2c26213df5cd3585ecb6ffb26b77768c52392dbbbb"), looks := true }, kinds := [], alts := [], laidByText := true, laidKinds := [.data, .data, .data, .sentinel, .sentinel, .listed, .data], laidTests := true, laidLooks := .later }
def SourceBlanksCardSaid : Prop := Claim7.holds Tryz.pinned (.plain (OpenSpec.ofChange sourceBlanksSpec)) sourceBlanksCard

/-- THE SECOND FORM's CARD OF 'workflowlaw09.SourcePrints'. -/
def sourcePrintsUptoCard : Claim7 := { stood := { row := sourcePrintsUptoRow, standIns := [], harness := (true, "c5b4141e127f3766b45fdd2c26213df5cd3585ecb6ffb26b77768c52392dbbbb"), looks := true }, kinds := [], alts := [], laidByText := true, laidKinds := [.data, .data, .data, .sentinel, .sentinel, .listed, .data], laidTests := true, laidLooks := .later }
def SourcePrintsUptoCardSaid : Prop := Claim7.holds Tryz.pinned (.plain (OpenSpec.upto sourcePrintsSpec)) sourcePrintsUptoCard

/-- THE SECOND FORM's CARD OF 'workflowlaw09.SourceFormats'. -/
def sourceFormatsUptoCard : Claim7 := { stood := { row := sourceFormatsUptoRow, standIns := [], harness := (true, "c5b4141e127f3766b45fdd2c26213df5cd3585ecb6ffb26b77768c52392dbbbb"), looks := true }, kinds := [], alts := [], laidByText := true, laidKinds := [.data, .data, .data, .sentinel, .sentinel, .listed, .data], laidTests := true, laidLooks := .later }
def SourceFormatsUptoCardSaid : Prop := Claim7.holds Tryz.pinned (.plain (OpenSpec.upto sourceFormatsSpec)) sourceFormatsUptoCard

/-- THE SECOND FORM's CARD OF 'workflowlaw09.SourceRoundTrip'. -/
def sourceRoundTripUptoCard : Claim7 := { stood := { row := sourceRoundTripUptoRow, standIns := [], harness := (true, "c5b4141e127f3766b45fdd2c26213df5cd3585ecb6ffb26b77768c52392dbbbb"), looks := true }, kinds := [], alts := [], laidByText := true, laidKinds := [.data, .data, .data, .sentinel, .sentinel, .listed, .data], laidTests := true, laidLooks := .later }
def SourceRoundTripUptoCardSaid : Prop := Claim7.holds Tryz.pinned (.plain (OpenSpec.upto sourceRoundTripSpec)) sourceRoundTripUptoCard

/-- THE SECOND FORM's CARD OF 'workflowlaw09.SourceStable'. -/
def sourceStableUptoCard : Claim7 := { stood := { row := sourceStableUptoRow, standIns := [], harness := (true, "c5b4141e127f3766b45fdd2c26213df5cd3585ecb6ffb26b77768c52392dbbbb"), looks := true }, kinds := [], alts := [], laidByText := true, laidKinds := [.data, .data, .data, .sentinel, .sentinel, .listed, .data], laidTests := true, laidLooks := .later }
def SourceStableUptoCardSaid : Prop := Claim7.holds Tryz.pinned (.plain (OpenSpec.upto sourceStableSpec)) sourceStableUptoCard

/-- THE SECOND FORM's CARD OF 'workflowlaw09.SourceBlanks'. -/
def sourceBlanksUptoCard : Claim7 := { stood := { row := sourceBlanksUptoRow, standIns := [], harness := (true, "c5b4141e127f3766b45fdd2c26213df5cd3585ecb6ffb26b77768c52392dbbbb"), looks := true }, kinds := [], alts := [], laidByText := true, laidKinds := [.data, .data, .data, .sentinel, .sentinel, .listed, .data], laidTests := true, laidLooks := .later }
def SourceBlanksUptoCardSaid : Prop := Claim7.holds Tryz.pinned (.plain (OpenSpec.upto sourceBlanksSpec)) sourceBlanksUptoCard
end Rows
end Go.Proofs.YtdgejpgbppfhmaaGreatDoor
