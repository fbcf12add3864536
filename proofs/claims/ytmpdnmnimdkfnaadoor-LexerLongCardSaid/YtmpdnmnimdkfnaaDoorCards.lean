/-
  DERIVED. GIVEN WITH THE SEED: THE CARDS: each row of YtmpdnmnimdkfnaaDoorRows.lean that lists a variable, with what it lists TIED to the program's text (the seventh form; the later family's looks); each row that meets fmt, with fmt's text TOLD by the authors' own Lean function (tested against real Go, not proved from fmt's source: count such statements apart). THE CARD IS WHAT COUNTS. Prove the row's statement (the work); the ties are given (YtmpdnmnimdkfnaaDoorTie.lean); close each card by the builder's one call (the guide's Derived/Test/ToyasCard.lean, 'card_holds'). Laid BY PROGRAM, IN A SANDBOX (cutbox-door.mjs). By AI agents, Wed Nov 11 2026. No macro, syntax, notation, axiom, sorry.
-/
import Derived.Test.YtmpdnmnimdkfnaaDoorRows
import GoSem.ClaimSeven
namespace Go.Proofs.YtmpdnmnimdkfnaaDoor
namespace Rows

/-- THE TIED CARD OF 'gameplayerlaw04.LexerLexes'. -/
def lexerLexesCard : Claim7 := { stood := { row := lexerLexesRow, standIns := [], harness := (true, "62d2ce449b4dc6cb75521f24e44fdbf5dad19db215f1099c6749d9d9e8ff6726"), looks := false }, kinds := [], alts := [], laidByText := true, laidKinds := [.widerDeep], laidTests := true, laidLooks := .later }
def LexerLexesCardSaid : Prop := Claim7.holds Tryd.pinned (.plain (OpenSpec.ofChange lexerLexesSpec)) lexerLexesCard

/-- THE TIED CARD OF 'gameplayerlaw04.LexerWords'. -/
def lexerWordsCard : Claim7 := { stood := { row := lexerWordsRow, standIns := [], harness := (true, "62d2ce449b4dc6cb75521f24e44fdbf5dad19db215f1099c6749d9d9e8ff6726"), looks := false }, kinds := [], alts := [], laidByText := true, laidKinds := [.widerDeep], laidTests := true, laidLooks := .later }
def LexerWordsCardSaid : Prop := Claim7.holds Tryd.pinned (.plain (OpenSpec.ofChange lexerWordsSpec)) lexerWordsCard

/-- THE TIED CARD OF 'gameplayerlaw04.LexerJoins'. -/
def lexerJoinsCard : Claim7 := { stood := { row := lexerJoinsRow, standIns := [], harness := (true, "62d2ce449b4dc6cb75521f24e44fdbf5dad19db215f1099c6749d9d9e8ff6726"), looks := false }, kinds := [], alts := [], laidByText := true, laidKinds := [.widerDeep], laidTests := true, laidLooks := .later }
def LexerJoinsCardSaid : Prop := Claim7.holds Tryd.pinned (.plain (OpenSpec.ofChange lexerJoinsSpec)) lexerJoinsCard

/-- THE TIED CARD OF 'gameplayerlaw04.LexerPositions'. -/
def lexerPositionsCard : Claim7 := { stood := { row := lexerPositionsRow, standIns := [], harness := (true, "62d2ce449b4dc6cb75521f24e44fdbf5dad19db215f1099c6749d9d9e8ff6726"), looks := false }, kinds := [], alts := [], laidByText := true, laidKinds := [.widerDeep], laidTests := true, laidLooks := .later }
def LexerPositionsCardSaid : Prop := Claim7.holds Tryd.pinned (.plain (OpenSpec.ofChange lexerPositionsSpec)) lexerPositionsCard

/-- THE TIED CARD OF 'gameplayerlaw04.LexerBack'. -/
def lexerBackCard : Claim7 := { stood := { row := lexerBackRow, standIns := [], harness := (true, "62d2ce449b4dc6cb75521f24e44fdbf5dad19db215f1099c6749d9d9e8ff6726"), looks := false }, kinds := [], alts := [], laidByText := true, laidKinds := [.widerDeep], laidTests := true, laidLooks := .later }
def LexerBackCardSaid : Prop := Claim7.holds Tryd.pinned (.plain (OpenSpec.ofChange lexerBackSpec)) lexerBackCard

/-- THE TIED CARD OF 'gameplayerlaw04.LexerCovers'. -/
def lexerCoversCard : Claim7 := { stood := { row := lexerCoversRow, standIns := [], harness := (true, "62d2ce449b4dc6cb75521f24e44fdbf5dad19db215f1099c6749d9d9e8ff6726"), looks := false }, kinds := [], alts := [], laidByText := true, laidKinds := [.widerDeep], laidTests := true, laidLooks := .later }
def LexerCoversCardSaid : Prop := Claim7.holds Tryd.pinned (.plain (OpenSpec.ofChange lexerCoversSpec)) lexerCoversCard

/-- THE TIED CARD OF 'gameplayerlaw04.LexerLines'. -/
def lexerLinesCard : Claim7 := { stood := { row := lexerLinesRow, standIns := [], harness := (true, "62d2ce449b4dc6cb75521f24e44fdbf5dad19db215f1099c6749d9d9e8ff6726"), looks := false }, kinds := [], alts := [], laidByText := true, laidKinds := [.widerDeep], laidTests := true, laidLooks := .later }
def LexerLinesCardSaid : Prop := Claim7.holds Tryd.pinned (.plain (OpenSpec.ofChange lexerLinesSpec)) lexerLinesCard

/-- THE TIED CARD OF 'gameplayerlaw04.LexerLong'. -/
def lexerLongCard : Claim7 := { stood := { row := lexerLongRow, standIns := [], harness := (true, "62d2ce449b4dc6cb75521f24e44fdbf5dad19db215f1099c6749d9d9e8ff6726"), looks := false }, kinds := [], alts := [], laidByText := true, laidKinds := [.widerDeep], laidTests := true, laidLooks := .later }
def LexerLongCardSaid : Prop := Claim7.holds Tryd.pinned (.plain (OpenSpec.ofChange lexerLongSpec)) lexerLongCard

/-- THE SECOND FORM's CARD OF 'gameplayerlaw04.LexerLexes'. -/
def lexerLexesUptoCard : Claim7 := { stood := { row := lexerLexesUptoRow, standIns := [], harness := (true, "62d2ce449b4dc6cb75521f24e44fdbf5dad19db215f1099c6749d9d9e8ff6726"), looks := false }, kinds := [], alts := [], laidByText := true, laidKinds := [.widerDeep], laidTests := true, laidLooks := .later }
def LexerLexesUptoCardSaid : Prop := Claim7.holds Tryd.pinned (.plain (OpenSpec.upto lexerLexesSpec)) lexerLexesUptoCard

/-- THE SECOND FORM's CARD OF 'gameplayerlaw04.LexerWords'. -/
def lexerWordsUptoCard : Claim7 := { stood := { row := lexerWordsUptoRow, standIns := [], harness := (true, "62d2ce449b4dc6cb75521f24e44fdbf5dad19db215f1099c6749d9d9e8ff6726"), looks := false }, kinds := [], alts := [], laidByText := true, laidKinds := [.widerDeep], laidTests := true, laidLooks := .later }
def LexerWordsUptoCardSaid : Prop := Claim7.holds Tryd.pinned (.plain (OpenSpec.upto lexerWordsSpec)) lexerWordsUptoCard

/-- THE SECOND FORM's CARD OF 'gameplayerlaw04.LexerJoins'. -/
def lexerJoinsUptoCard : Claim7 := { stood := { row := lexerJoinsUptoRow, standIns := [], harness := (true, "62d2ce449b4dc6cb75521f24e44fdbf5dad19db215f1099c6749d9d9e8ff6726"), looks := false }, kinds := [], alts := [], laidByText := true, laidKinds := [.widerDeep], laidTests := true, laidLooks := .later }
def LexerJoinsUptoCardSaid : Prop := Claim7.holds Tryd.pinned (.plain (OpenSpec.upto lexerJoinsSpec)) lexerJoinsUptoCard

/-- THE SECOND FORM's CARD OF 'gameplayerlaw04.LexerPositions'. -/
def lexerPositionsUptoCard : Claim7 := { stood := { row := lexerPositionsUptoRow, standIns := [], harness := (true, "62d2ce449b4dc6cb75521f24e44fdbf5dad19db215f1099c6749d9d9e8ff6726"), looks := false }, kinds := [], alts := [], laidByText := true, laidKinds := [.widerDeep], laidTests := true, laidLooks := .later }
def LexerPositionsUptoCardSaid : Prop := Claim7.holds Tryd.pinned (.plain (OpenSpec.upto lexerPositionsSpec)) lexerPositionsUptoCard

/-- THE SECOND FORM's CARD OF 'gameplayerlaw04.LexerBack'. -/
def lexerBackUptoCard : Claim7 := { stood := { row := lexerBackUptoRow, standIns := [], harness := (true, "62d2ce449b4dc6cb75521f24e44fdbf5dad19db215f1099c6749d9d9e8ff6726"), looks := false }, kinds := [], alts := [], laidByText := true, laidKinds := [.widerDeep], laidTests := true, laidLooks := .later }
def LexerBackUptoCardSaid : Prop := Claim7.holds Tryd.pinned (.plain (OpenSpec.upto lexerBackSpec)) lexerBackUptoCard

/-- THE SECOND FORM's CARD OF 'gameplayerlaw04.LexerCovers'. -/
def lexerCoversUptoCard : Claim7 := { stood := { row := lexerCoversUptoRow, standIns := [], harness := (true, "62d2ce449b4dc6cb75521f24e44fdbf5dad19db215f1099c6749d9d9e8ff6726"), looks := false }, kinds := [], alts := [], laidByText := true, laidKinds := [.widerDeep], laidTests := true, laidLooks := .later }
def LexerCoversUptoCardSaid : Prop := Claim7.holds Tryd.pinned (.plain (OpenSpec.upto lexerCoversSpec)) lexerCoversUptoCard

/-- THE SECOND FORM's CARD OF 'gameplayerlaw04.LexerLines'. -/
def lexerLinesUptoCard : Claim7 := { stood := { row := lexerLinesUptoRow, standIns := [], harness := (true, "62d2ce449b4dc6cb75521f24e44fdbf5dad19db215f1099c6749d9d9e8ff6726"), looks := false }, kinds := [], alts := [], laidByText := true, laidKinds := [.widerDeep], laidTests := true, laidLooks := .later }
def LexerLinesUptoCardSaid : Prop := Claim7.holds Tryd.pinned (.plain (OpenSpec.upto lexerLinesSpec)) lexerLinesUptoCard

/-- THE SECOND FORM's CARD OF 'gameplayerlaw04.LexerLong'. -/
def lexerLongUptoCard : Claim7 := { stood := { row := lexerLongUptoRow, standIns := [], harness := (true, "62d2ce449b4dc6cb75521f24e44fdbf5dad19db215f1099c6749d9d9e8ff6726"), looks := false }, kinds := [], alts := [], laidByText := true, laidKinds := [.widerDeep], laidTests := true, laidLooks := .later }
def LexerLongUptoCardSaid : Prop := Claim7.holds Tryd.pinned (.plain (OpenSpec.upto lexerLongSpec)) lexerLongUptoCard
end Rows
end Go.Proofs.YtmpdnmnimdkfnaaDoor
