/-
  DERIVED. GIVEN WITH THE SEED: THE CARDS: each row of YtahpbjjfpbmaiaaDoorRows.lean that lists a variable, with what it lists TIED to the program's text (the seventh form; the later family's looks); each row that meets fmt, with fmt's text TOLD by the authors' own Lean function (tested against real Go, not proved from fmt's source: count such statements apart). THE CARD IS WHAT COUNTS. Prove the row's statement (the work); the ties are given (YtahpbjjfpbmaiaaDoorTie.lean); close each card by the builder's one call (the guide's Derived/Test/ToyasCard.lean, 'card_holds'). Laid BY PROGRAM, IN A SANDBOX (cutbox-door.mjs). By AI agents, Wed Nov 11 2026. No macro, syntax, notation, axiom, sorry.
-/
import Derived.Test.YtahpbjjfpbmaiaaDoorRows
import GoSem.ClaimSeven
namespace Go.Proofs.YtahpbjjfpbmaiaaDoor
namespace Rows

/-- THE TIED CARD OF 'workflowlaw07.TokenScan'. -/
def tokenScanCard : Claim7 := { stood := { row := tokenScanRow, standIns := [], harness := (true, "d576a4431d10a640c4062a81e6e21b08cf4e06976c40f34335b2a0c2940e2f28"), looks := true }, kinds := [], alts := [], laidByText := true, laidKinds := [.data, .data, .data, .sentinel, .sentinel, .listed, .data], laidTests := true, laidLooks := .later }
def TokenScanCardSaid : Prop := Claim7.holds Tryd.pinned (.plain (OpenSpec.ofChange tokenScanSpec)) tokenScanCard

/-- THE TIED CARD OF 'workflowlaw07.TokenWords'. -/
def tokenWordsCard : Claim7 := { stood := { row := tokenWordsRow, standIns := [], harness := (true, "d576a4431d10a640c4062a81e6e21b08cf4e06976c40f34335b2a0c2940e2f28"), looks := true }, kinds := [], alts := [], laidByText := true, laidKinds := [.data, .data, .data, .sentinel, .sentinel, .listed, .data], laidTests := true, laidLooks := .later }
def TokenWordsCardSaid : Prop := Claim7.holds Tryd.pinned (.plain (OpenSpec.ofChange tokenWordsSpec)) tokenWordsCard

/-- THE TIED CARD OF 'workflowlaw07.TokenLiteral'. -/
def tokenLiteralCard : Claim7 := { stood := { row := tokenLiteralRow, standIns := [], harness := (true, "d576a4431d10a640c4062a81e6e21b08cf4e06976c40f34335b2a0c2940e2f28"), looks := true }, kinds := [], alts := [], laidByText := true, laidKinds := [.data, .data, .data, .sentinel, .sentinel, .listed, .data], laidTests := true, laidLooks := .later }
def TokenLiteralCardSaid : Prop := Claim7.holds Tryd.pinned (.plain (OpenSpec.ofChange tokenLiteralSpec)) tokenLiteralCard

/-- THE TIED CARD OF 'workflowlaw07.TokenOffsets'. -/
def tokenOffsetsCard : Claim7 := { stood := { row := tokenOffsetsRow, standIns := [], harness := (true, "d576a4431d10a640c4062a81e6e21b08cf4e06976c40f34335b2a0c2940e2f28"), looks := true }, kinds := [], alts := [], laidByText := true, laidKinds := [.data, .data, .data, .sentinel, .sentinel, .listed, .data], laidTests := true, laidLooks := .later }
def TokenOffsetsCardSaid : Prop := Claim7.holds Tryd.pinned (.plain (OpenSpec.ofChange tokenOffsetsSpec)) tokenOffsetsCard

/-- THE TIED CARD OF 'workflowlaw07.TokenBlanks'. -/
def tokenBlanksCard : Claim7 := { stood := { row := tokenBlanksRow, standIns := [], harness := (true, "d576a4431d10a640c4062a81e6e21b08cf4e06976c40f34335b2a0c2940e2f28"), looks := true }, kinds := [], alts := [], laidByText := true, laidKinds := [.data, .data, .data, .sentinel, .sentinel, .listed, .data], laidTests := true, laidLooks := .later }
def TokenBlanksCardSaid : Prop := Claim7.holds Tryd.pinned (.plain (OpenSpec.ofChange tokenBlanksSpec)) tokenBlanksCard

/-- THE TIED CARD OF 'workflowlaw07.TokenSpell'. -/
def tokenSpellCard : Claim7 := { stood := { row := tokenSpellRow, standIns := [], harness := (true, "d576a4431d10a640c4062a81e6e21b08cf4e06976c40f34335b2a0c2940e2f28"), looks := true }, kinds := [], alts := [], laidByText := true, laidKinds := [.data, .data, .data, .sentinel, .sentinel, .listed, .data], laidTests := true, laidLooks := .later }
def TokenSpellCardSaid : Prop := Claim7.holds Tryd.pinned (.plain (OpenSpec.ofChange tokenSpellSpec)) tokenSpellCard

/-- THE TIED CARD OF 'workflowlaw07.TokenAgain'. -/
def tokenAgainCard : Claim7 := { stood := { row := tokenAgainRow, standIns := [], harness := (true, "d576a4431d10a640c4062a81e6e21b08cf4e06976c40f34335b2a0c2940e2f28"), looks := true }, kinds := [], alts := [], laidByText := true, laidKinds := [.data, .data, .data, .sentinel, .sentinel, .listed, .data], laidTests := true, laidLooks := .later }
def TokenAgainCardSaid : Prop := Claim7.holds Tryd.pinned (.plain (OpenSpec.ofChange tokenAgainSpec)) tokenAgainCard

/-- THE SECOND FORM's CARD OF 'workflowlaw07.TokenScan'. -/
def tokenScanUptoCard : Claim7 := { stood := { row := tokenScanUptoRow, standIns := [], harness := (true, "d576a4431d10a640c4062a81e6e21b08cf4e06976c40f34335b2a0c2940e2f28"), looks := true }, kinds := [], alts := [], laidByText := true, laidKinds := [.data, .data, .data, .sentinel, .sentinel, .listed, .data], laidTests := true, laidLooks := .later }
def TokenScanUptoCardSaid : Prop := Claim7.holds Tryd.pinned (.plain (OpenSpec.upto tokenScanSpec)) tokenScanUptoCard

/-- THE SECOND FORM's CARD OF 'workflowlaw07.TokenWords'. -/
def tokenWordsUptoCard : Claim7 := { stood := { row := tokenWordsUptoRow, standIns := [], harness := (true, "d576a4431d10a640c4062a81e6e21b08cf4e06976c40f34335b2a0c2940e2f28"), looks := true }, kinds := [], alts := [], laidByText := true, laidKinds := [.data, .data, .data, .sentinel, .sentinel, .listed, .data], laidTests := true, laidLooks := .later }
def TokenWordsUptoCardSaid : Prop := Claim7.holds Tryd.pinned (.plain (OpenSpec.upto tokenWordsSpec)) tokenWordsUptoCard

/-- THE SECOND FORM's CARD OF 'workflowlaw07.TokenLiteral'. -/
def tokenLiteralUptoCard : Claim7 := { stood := { row := tokenLiteralUptoRow, standIns := [], harness := (true, "d576a4431d10a640c4062a81e6e21b08cf4e06976c40f34335b2a0c2940e2f28"), looks := true }, kinds := [], alts := [], laidByText := true, laidKinds := [.data, .data, .data, .sentinel, .sentinel, .listed, .data], laidTests := true, laidLooks := .later }
def TokenLiteralUptoCardSaid : Prop := Claim7.holds Tryd.pinned (.plain (OpenSpec.upto tokenLiteralSpec)) tokenLiteralUptoCard

/-- THE SECOND FORM's CARD OF 'workflowlaw07.TokenOffsets'. -/
def tokenOffsetsUptoCard : Claim7 := { stood := { row := tokenOffsetsUptoRow, standIns := [], harness := (true, "d576a4431d10a640c4062a81e6e21b08cf4e06976c40f34335b2a0c2940e2f28"), looks := true }, kinds := [], alts := [], laidByText := true, laidKinds := [.data, .data, .data, .sentinel, .sentinel, .listed, .data], laidTests := true, laidLooks := .later }
def TokenOffsetsUptoCardSaid : Prop := Claim7.holds Tryd.pinned (.plain (OpenSpec.upto tokenOffsetsSpec)) tokenOffsetsUptoCard

/-- THE SECOND FORM's CARD OF 'workflowlaw07.TokenBlanks'. -/
def tokenBlanksUptoCard : Claim7 := { stood := { row := tokenBlanksUptoRow, standIns := [], harness := (true, "d576a4431d10a640c4062a81e6e21b08cf4e06976c40f34335b2a0c2940e2f28"), looks := true }, kinds := [], alts := [], laidByText := true, laidKinds := [.data, .data, .data, .sentinel, .sentinel, .listed, .data], laidTests := true, laidLooks := .later }
def TokenBlanksUptoCardSaid : Prop := Claim7.holds Tryd.pinned (.plain (OpenSpec.upto tokenBlanksSpec)) tokenBlanksUptoCard

/-- THE SECOND FORM's CARD OF 'workflowlaw07.TokenSpell'. -/
def tokenSpellUptoCard : Claim7 := { stood := { row := tokenSpellUptoRow, standIns := [], harness := (true, "d576a4431d10a640c4062a81e6e21b08cf4e06976c40f34335b2a0c2940e2f28"), looks := true }, kinds := [], alts := [], laidByText := true, laidKinds := [.data, .data, .data, .sentinel, .sentinel, .listed, .data], laidTests := true, laidLooks := .later }
def TokenSpellUptoCardSaid : Prop := Claim7.holds Tryd.pinned (.plain (OpenSpec.upto tokenSpellSpec)) tokenSpellUptoCard

/-- THE SECOND FORM's CARD OF 'workflowlaw07.TokenAgain'. -/
def tokenAgainUptoCard : Claim7 := { stood := { row := tokenAgainUptoRow, standIns := [], harness := (true, "d576a4431d10a640c4062a81e6e21b08cf4e06976c40f34335b2a0c2940e2f28"), looks := true }, kinds := [], alts := [], laidByText := true, laidKinds := [.data, .data, .data, .sentinel, .sentinel, .listed, .data], laidTests := true, laidLooks := .later }
def TokenAgainUptoCardSaid : Prop := Claim7.holds Tryd.pinned (.plain (OpenSpec.upto tokenAgainSpec)) tokenAgainUptoCard
end Rows
end Go.Proofs.YtahpbjjfpbmaiaaDoor
