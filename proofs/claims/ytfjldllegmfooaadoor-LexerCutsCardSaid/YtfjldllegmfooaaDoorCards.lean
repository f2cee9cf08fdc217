/-
  DERIVED. GIVEN WITH THE SEED: THE CARDS: each row of YtfjldllegmfooaaDoorRows.lean that lists a variable, with what it lists TIED to the program's text (the seventh form; the later family's looks); each row that meets fmt, with fmt's text TOLD by the authors' own Lean function (tested against real Go, not proved from fmt's source: count such statements apart). THE CARD IS WHAT COUNTS. Prove the row's statement (the work); the ties are given (YtfjldllegmfooaaDoorTie.lean); close each card by the builder's one call (the guide's Derived/Test/ToyasCard.lean, 'card_holds'). Laid BY PROGRAM, IN A SANDBOX (cutbox-door.mjs). By AI agents, Wed Nov 11 2026. No macro, syntax, notation, axiom, sorry.
-/
import Derived.Test.YtfjldllegmfooaaDoorRows
import GoSem.ClaimSeven
namespace Go.Proofs.YtfjldllegmfooaaDoor
namespace Rows

/-- THE TIED CARD OF 'gangwaylaw10.LexerCuts'. -/
def lexerCutsCard : Claim7 := { stood := { row := lexerCutsRow, standIns := [], harness := (true, "6fb8461e39a92ef0c0f3fdbdd304ea4641f8df72a33be60957a9aa3d8c12e273"), looks := true }, kinds := [], alts := [], laidByText := true, laidKinds := [.data, .data, .data, .data, .sentinel, .sentinel, .pinned], laidTests := true, laidLooks := .later }
def LexerCutsCardSaid : Prop := Claim7.holds Tryd.pinned (.plain (OpenSpec.ofChange lexerCutsSpec)) lexerCutsCard

/-- THE TIED CARD OF 'gangwaylaw10.LexerLines'. -/
def lexerLinesCard : Claim7 := { stood := { row := lexerLinesRow, standIns := [], harness := (true, "6fb8461e39a92ef0c0f3fdbdd304ea4641f8df72a33be60957a9aa3d8c12e273"), looks := true }, kinds := [], alts := [], laidByText := true, laidKinds := [.data, .data, .data, .data, .sentinel, .sentinel, .pinned], laidTests := true, laidLooks := .later }
def LexerLinesCardSaid : Prop := Claim7.holds Tryd.pinned (.plain (OpenSpec.ofChange lexerLinesSpec)) lexerLinesCard

/-- THE TIED CARD OF 'gangwaylaw10.LexerClean'. -/
def lexerCleanCard : Claim7 := { stood := { row := lexerCleanRow, standIns := [], harness := (true, "6fb8461e39a92ef0c0f3fdbdd304ea4641f8df72a33be60957a9aa3d8c12e273"), looks := true }, kinds := [], alts := [], laidByText := true, laidKinds := [.data, .data, .data, .data, .sentinel, .sentinel, .pinned], laidTests := true, laidLooks := .later }
def LexerCleanCardSaid : Prop := Claim7.holds Tryd.pinned (.plain (OpenSpec.ofChange lexerCleanSpec)) lexerCleanCard

/-- THE TIED CARD OF 'gangwaylaw10.LexerTexts'. -/
def lexerTextsCard : Claim7 := { stood := { row := lexerTextsRow, standIns := [], harness := (true, "6fb8461e39a92ef0c0f3fdbdd304ea4641f8df72a33be60957a9aa3d8c12e273"), looks := true }, kinds := [], alts := [], laidByText := true, laidKinds := [.data, .data, .data, .data, .sentinel, .sentinel, .pinned], laidTests := true, laidLooks := .later }
def LexerTextsCardSaid : Prop := Claim7.holds Tryd.pinned (.plain (OpenSpec.ofChange lexerTextsSpec)) lexerTextsCard

/-- THE TIED CARD OF 'gangwaylaw10.LexerBack'. -/
def lexerBackCard : Claim7 := { stood := { row := lexerBackRow, standIns := [], harness := (true, "6fb8461e39a92ef0c0f3fdbdd304ea4641f8df72a33be60957a9aa3d8c12e273"), looks := true }, kinds := [], alts := [], laidByText := true, laidKinds := [.data, .data, .data, .data, .sentinel, .sentinel, .pinned], laidTests := true, laidLooks := .later }
def LexerBackCardSaid : Prop := Claim7.holds Tryd.pinned (.plain (OpenSpec.ofChange lexerBackSpec)) lexerBackCard

/-- THE TIED CARD OF 'gangwaylaw11.ExprLaws'. -/
def exprLawsCard : Claim7 := { stood := { row := exprLawsRow, standIns := [], harness := (true, "6fb8461e39a92ef0c0f3fdbdd304ea4641f8df72a33be60957a9aa3d8c12e273"), looks := true }, kinds := [], alts := [], laidByText := true, laidKinds := [.data, .data, .data, .data, .sentinel, .sentinel, .pinned], laidTests := true, laidLooks := .later }
def ExprLawsCardSaid : Prop := Claim7.holds Tryd.pinned (.plain (OpenSpec.ofChange exprLawsSpec)) exprLawsCard

/-- THE TIED CARD OF 'gangwaylaw11.ExprLevels'. -/
def exprLevelsCard : Claim7 := { stood := { row := exprLevelsRow, standIns := [], harness := (true, "6fb8461e39a92ef0c0f3fdbdd304ea4641f8df72a33be60957a9aa3d8c12e273"), looks := true }, kinds := [], alts := [], laidByText := true, laidKinds := [.data, .data, .data, .data, .sentinel, .sentinel, .pinned], laidTests := true, laidLooks := .later }
def ExprLevelsCardSaid : Prop := Claim7.holds Tryd.pinned (.plain (OpenSpec.ofChange exprLevelsSpec)) exprLevelsCard

/-- THE TIED CARD OF 'gangwaylaw11.ExprTwos'. -/
def exprTwosCard : Claim7 := { stood := { row := exprTwosRow, standIns := [], harness := (true, "6fb8461e39a92ef0c0f3fdbdd304ea4641f8df72a33be60957a9aa3d8c12e273"), looks := true }, kinds := [], alts := [], laidByText := true, laidKinds := [.data, .data, .data, .data, .sentinel, .sentinel, .pinned], laidTests := true, laidLooks := .later }
def ExprTwosCardSaid : Prop := Claim7.holds Tryd.pinned (.plain (OpenSpec.ofChange exprTwosSpec)) exprTwosCard

/-- THE TIED CARD OF 'gangwaylaw11.ExprBack'. -/
def exprBackCard : Claim7 := { stood := { row := exprBackRow, standIns := [], harness := (true, "6fb8461e39a92ef0c0f3fdbdd304ea4641f8df72a33be60957a9aa3d8c12e273"), looks := true }, kinds := [], alts := [], laidByText := true, laidKinds := [.data, .data, .data, .data, .sentinel, .sentinel, .pinned], laidTests := true, laidLooks := .later }
def ExprBackCardSaid : Prop := Claim7.holds Tryd.pinned (.plain (OpenSpec.ofChange exprBackSpec)) exprBackCard

/-- THE SECOND FORM's CARD OF 'gangwaylaw10.LexerCuts'. -/
def lexerCutsUptoCard : Claim7 := { stood := { row := lexerCutsUptoRow, standIns := [], harness := (true, "6fb8461e39a92ef0c0f3fdbdd304ea4641f8df72a33be60957a9aa3d8c12e273"), looks := true }, kinds := [], alts := [], laidByText := true, laidKinds := [.data, .data, .data, .data, .sentinel, .sentinel, .pinned], laidTests := true, laidLooks := .later }
def LexerCutsUptoCardSaid : Prop := Claim7.holds Tryd.pinned (.plain (OpenSpec.upto lexerCutsSpec)) lexerCutsUptoCard

/-- THE SECOND FORM's CARD OF 'gangwaylaw10.LexerLines'. -/
def lexerLinesUptoCard : Claim7 := { stood := { row := lexerLinesUptoRow, standIns := [], harness := (true, "6fb8461e39a92ef0c0f3fdbdd304ea4641f8df72a33be60957a9aa3d8c12e273"), looks := true }, kinds := [], alts := [], laidByText := true, laidKinds := [.data, .data, .data, .data, .sentinel, .sentinel, .pinned], laidTests := true, laidLooks := .later }
def LexerLinesUptoCardSaid : Prop := Claim7.holds Tryd.pinned (.plain (OpenSpec.upto lexerLinesSpec)) lexerLinesUptoCard

/-- THE SECOND FORM's CARD OF 'gangwaylaw10.LexerClean'. -/
def lexerCleanUptoCard : Claim7 := { stood := { row := lexerCleanUptoRow, standIns := [], harness := (true, "6fb8461e39a92ef0c0f3fdbdd304ea4641f8df72a33be60957a9aa3d8c12e273"), looks := true }, kinds := [], alts := [], laidByText := true, laidKinds := [.data, .data, .data, .data, .sentinel, .sentinel, .pinned], laidTests := true, laidLooks := .later }
def LexerCleanUptoCardSaid : Prop := Claim7.holds Tryd.pinned (.plain (OpenSpec.upto lexerCleanSpec)) lexerCleanUptoCard

/-- THE SECOND FORM's CARD OF 'gangwaylaw10.LexerTexts'. -/
def lexerTextsUptoCard : Claim7 := { stood := { row := lexerTextsUptoRow, standIns := [], harness := (true, "6fb8461e39a92ef0c0f3fdbdd304ea4641f8df72a33be60957a9aa3d8c12e273"), looks := true }, kinds := [], alts := [], laidByText := true, laidKinds := [.data, .data, .data, .data, .sentinel, .sentinel, .pinned], laidTests := true, laidLooks := .later }
def LexerTextsUptoCardSaid : Prop := Claim7.holds Tryd.pinned (.plain (OpenSpec.upto lexerTextsSpec)) lexerTextsUptoCard

/-- THE SECOND FORM's CARD OF 'gangwaylaw10.LexerBack'. -/
def lexerBackUptoCard : Claim7 := { stood := { row := lexerBackUptoRow, standIns := [], harness := (true, "6fb8461e39a92ef0c0f3fdbdd304ea4641f8df72a33be60957a9aa3d8c12e273"), looks := true }, kinds := [], alts := [], laidByText := true, laidKinds := [.data, .data, .data, .data, .sentinel, .sentinel, .pinned], laidTests := true, laidLooks := .later }
def LexerBackUptoCardSaid : Prop := Claim7.holds Tryd.pinned (.plain (OpenSpec.upto lexerBackSpec)) lexerBackUptoCard

/-- THE SECOND FORM's CARD OF 'gangwaylaw11.ExprLaws'. -/
def exprLawsUptoCard : Claim7 := { stood := { row := exprLawsUptoRow, standIns := [], harness := (true, "6fb8461e39a92ef0c0f3fdbdd304ea4641f8df72a33be60957a9aa3d8c12e273"), looks := true }, kinds := [], alts := [], laidByText := true, laidKinds := [.data, .data, .data, .data, .sentinel, .sentinel, .pinned], laidTests := true, laidLooks := .later }
def ExprLawsUptoCardSaid : Prop := Claim7.holds Tryd.pinned (.plain (OpenSpec.upto exprLawsSpec)) exprLawsUptoCard

/-- THE SECOND FORM's CARD OF 'gangwaylaw11.ExprLevels'. -/
def exprLevelsUptoCard : Claim7 := { stood := { row := exprLevelsUptoRow, standIns := [], harness := (true, "6fb8461e39a92ef0c0f3fdbdd304ea4641f8df72a33be60957a9aa3d8c12e273"), looks := true }, kinds := [], alts := [], laidByText := true, laidKinds := [.data, .data, .data, .data, .sentinel, .sentinel, .pinned], laidTests := true, laidLooks := .later }
def ExprLevelsUptoCardSaid : Prop := Claim7.holds Tryd.pinned (.plain (OpenSpec.upto exprLevelsSpec)) exprLevelsUptoCard

/-- THE SECOND FORM's CARD OF 'gangwaylaw11.ExprTwos'. -/
def exprTwosUptoCard : Claim7 := { stood := { row := exprTwosUptoRow, standIns := [], harness := (true, "6fb8461e39a92ef0c0f3fdbdd304ea4641f8df72a33be60957a9aa3d8c12e273"), looks := true }, kinds := [], alts := [], laidByText := true, laidKinds := [.data, .data, .data, .data, .sentinel, .sentinel, .pinned], laidTests := true, laidLooks := .later }
def ExprTwosUptoCardSaid : Prop := Claim7.holds Tryd.pinned (.plain (OpenSpec.upto exprTwosSpec)) exprTwosUptoCard

/-- THE SECOND FORM's CARD OF 'gangwaylaw11.ExprBack'. -/
def exprBackUptoCard : Claim7 := { stood := { row := exprBackUptoRow, standIns := [], harness := (true, "6fb8461e39a92ef0c0f3fdbdd304ea4641f8df72a33be60957a9aa3d8c12e273"), looks := true }, kinds := [], alts := [], laidByText := true, laidKinds := [.data, .data, .data, .data, .sentinel, .sentinel, .pinned], laidTests := true, laidLooks := .later }
def ExprBackUptoCardSaid : Prop := Claim7.holds Tryd.pinned (.plain (OpenSpec.upto exprBackSpec)) exprBackUptoCard
end Rows
end Go.Proofs.YtfjldllegmfooaaDoor
