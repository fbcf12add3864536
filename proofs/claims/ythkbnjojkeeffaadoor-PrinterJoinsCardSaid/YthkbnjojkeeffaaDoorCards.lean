/-
  DERIVED. GIVEN WITH THE SEED: THE CARDS: each row of YthkbnjojkeeffaaDoorRows.lean that lists a variable, with what it lists TIED to the program's text (the seventh form; the later family's looks); each row that meets fmt, with fmt's text TOLD by the authors' own Lean function (tested against real Go, not proved from fmt's source: count such statements apart). THE CARD IS WHAT COUNTS. Prove the row's statement (the work); the ties are given (YthkbnjojkeeffaaDoorTie.lean); close each card by the builder's one call (the guide's Derived/Test/ToyasCard.lean, 'card_holds'). Laid BY PROGRAM, IN A SANDBOX (cutbox-door.mjs). By AI agents, Wed Nov 11 2026. No macro, syntax, notation, axiom, sorry.
-/
import Derived.Test.YthkbnjojkeeffaaDoorRows
import GoSem.ClaimSeven
namespace Go.Proofs.YthkbnjojkeeffaaDoor
namespace Rows

/-- THE TIED CARD OF 'gameplayerlaw06.PrinterTexts'. -/
def printerTextsCard : Claim7 := { stood := { row := printerTextsRow, standIns := [], harness := (true, "0daa58baddab64d90edc236b644b41513fd86a5fb1654a01a0a401a9c90b9450"), looks := true }, kinds := [], alts := [], laidByText := true, laidKinds := [.widerDeep], laidTests := true, laidLooks := .later }
def PrinterTextsCardSaid : Prop := Claim7.holds Tryd.pinned (.plain (OpenSpec.ofChange printerTextsSpec)) printerTextsCard

/-- THE TIED CARD OF 'gameplayerlaw06.PrinterTerms'. -/
def printerTermsCard : Claim7 := { stood := { row := printerTermsRow, standIns := [], harness := (true, "0daa58baddab64d90edc236b644b41513fd86a5fb1654a01a0a401a9c90b9450"), looks := true }, kinds := [], alts := [], laidByText := true, laidKinds := [.widerDeep], laidTests := true, laidLooks := .later }
def PrinterTermsCardSaid : Prop := Claim7.holds Tryd.pinned (.plain (OpenSpec.ofChange printerTermsSpec)) printerTermsCard

/-- THE TIED CARD OF 'gameplayerlaw06.PrinterChecks'. -/
def printerChecksCard : Claim7 := { stood := { row := printerChecksRow, standIns := [], harness := (true, "0daa58baddab64d90edc236b644b41513fd86a5fb1654a01a0a401a9c90b9450"), looks := true }, kinds := [], alts := [], laidByText := true, laidKinds := [.widerDeep], laidTests := true, laidLooks := .later }
def PrinterChecksCardSaid : Prop := Claim7.holds Tryd.pinned (.plain (OpenSpec.ofChange printerChecksSpec)) printerChecksCard

/-- THE TIED CARD OF 'gameplayerlaw06.PrinterFormats'. -/
def printerFormatsCard : Claim7 := { stood := { row := printerFormatsRow, standIns := [], harness := (true, "0daa58baddab64d90edc236b644b41513fd86a5fb1654a01a0a401a9c90b9450"), looks := true }, kinds := [], alts := [], laidByText := true, laidKinds := [.widerDeep], laidTests := true, laidLooks := .later }
def PrinterFormatsCardSaid : Prop := Claim7.holds Tryd.pinned (.plain (OpenSpec.ofChange printerFormatsSpec)) printerFormatsCard

/-- THE TIED CARD OF 'gameplayerlaw06.PrinterBack'. -/
def printerBackCard : Claim7 := { stood := { row := printerBackRow, standIns := [], harness := (true, "0daa58baddab64d90edc236b644b41513fd86a5fb1654a01a0a401a9c90b9450"), looks := true }, kinds := [], alts := [], laidByText := true, laidKinds := [.widerDeep], laidTests := true, laidLooks := .later }
def PrinterBackCardSaid : Prop := Claim7.holds Tryd.pinned (.plain (OpenSpec.ofChange printerBackSpec)) printerBackCard

/-- THE TIED CARD OF 'gameplayerlaw06.PrinterTwice'. -/
def printerTwiceCard : Claim7 := { stood := { row := printerTwiceRow, standIns := [], harness := (true, "0daa58baddab64d90edc236b644b41513fd86a5fb1654a01a0a401a9c90b9450"), looks := true }, kinds := [], alts := [], laidByText := true, laidKinds := [.widerDeep], laidTests := true, laidLooks := .later }
def PrinterTwiceCardSaid : Prop := Claim7.holds Tryd.pinned (.plain (OpenSpec.ofChange printerTwiceSpec)) printerTwiceCard

/-- THE TIED CARD OF 'gameplayerlaw06.PrinterJoins'. -/
def printerJoinsCard : Claim7 := { stood := { row := printerJoinsRow, standIns := [], harness := (true, "0daa58baddab64d90edc236b644b41513fd86a5fb1654a01a0a401a9c90b9450"), looks := true }, kinds := [], alts := [], laidByText := true, laidKinds := [.widerDeep], laidTests := true, laidLooks := .later }
def PrinterJoinsCardSaid : Prop := Claim7.holds Tryd.pinned (.plain (OpenSpec.ofChange printerJoinsSpec)) printerJoinsCard

/-- THE TIED CARD OF 'gameplayerlaw06.PrinterValid'. -/
def printerValidCard : Claim7 := { stood := { row := printerValidRow, standIns := [], harness := (true, "0daa58baddab64d90edc236b644b41513fd86a5fb1654a01a0a401a9c90b9450"), looks := true }, kinds := [], alts := [], laidByText := true, laidKinds := [.widerDeep], laidTests := true, laidLooks := .later }
def PrinterValidCardSaid : Prop := Claim7.holds Tryd.pinned (.plain (OpenSpec.ofChange printerValidSpec)) printerValidCard

/-- THE SECOND FORM's CARD OF 'gameplayerlaw06.PrinterTexts'. -/
def printerTextsUptoCard : Claim7 := { stood := { row := printerTextsUptoRow, standIns := [], harness := (true, "0daa58baddab64d90edc236b644b41513fd86a5fb1654a01a0a401a9c90b9450"), looks := true }, kinds := [], alts := [], laidByText := true, laidKinds := [.widerDeep], laidTests := true, laidLooks := .later }
def PrinterTextsUptoCardSaid : Prop := Claim7.holds Tryd.pinned (.plain (OpenSpec.upto printerTextsSpec)) printerTextsUptoCard

/-- THE SECOND FORM's CARD OF 'gameplayerlaw06.PrinterTerms'. -/
def printerTermsUptoCard : Claim7 := { stood := { row := printerTermsUptoRow, standIns := [], harness := (true, "0daa58baddab64d90edc236b644b41513fd86a5fb1654a01a0a401a9c90b9450"), looks := true }, kinds := [], alts := [], laidByText := true, laidKinds := [.widerDeep], laidTests := true, laidLooks := .later }
def PrinterTermsUptoCardSaid : Prop := Claim7.holds Tryd.pinned (.plain (OpenSpec.upto printerTermsSpec)) printerTermsUptoCard

/-- THE SECOND FORM's CARD OF 'gameplayerlaw06.PrinterChecks'. -/
def printerChecksUptoCard : Claim7 := { stood := { row := printerChecksUptoRow, standIns := [], harness := (true, "0daa58baddab64d90edc236b644b41513fd86a5fb1654a01a0a401a9c90b9450"), looks := true }, kinds := [], alts := [], laidByText := true, laidKinds := [.widerDeep], laidTests := true, laidLooks := .later }
def PrinterChecksUptoCardSaid : Prop := Claim7.holds Tryd.pinned (.plain (OpenSpec.upto printerChecksSpec)) printerChecksUptoCard

/-- THE SECOND FORM's CARD OF 'gameplayerlaw06.PrinterFormats'. -/
def printerFormatsUptoCard : Claim7 := { stood := { row := printerFormatsUptoRow, standIns := [], harness := (true, "0daa58baddab64d90edc236b644b41513fd86a5fb1654a01a0a401a9c90b9450"), looks := true }, kinds := [], alts := [], laidByText := true, laidKinds := [.widerDeep], laidTests := true, laidLooks := .later }
def PrinterFormatsUptoCardSaid : Prop := Claim7.holds Tryd.pinned (.plain (OpenSpec.upto printerFormatsSpec)) printerFormatsUptoCard

/-- THE SECOND FORM's CARD OF 'gameplayerlaw06.PrinterBack'. -/
def printerBackUptoCard : Claim7 := { stood := { row := printerBackUptoRow, standIns := [], harness := (true, "0daa58baddab64d90edc236b644b41513fd86a5fb1654a01a0a401a9c90b9450"), looks := true }, kinds := [], alts := [], laidByText := true, laidKinds := [.widerDeep], laidTests := true, laidLooks := .later }
def PrinterBackUptoCardSaid : Prop := Claim7.holds Tryd.pinned (.plain (OpenSpec.upto printerBackSpec)) printerBackUptoCard

/-- THE SECOND FORM's CARD OF 'gameplayerlaw06.PrinterTwice'. -/
def printerTwiceUptoCard : Claim7 := { stood := { row := printerTwiceUptoRow, standIns := [], harness := (true, "0daa58baddab64d90edc236b644b41513fd86a5fb1654a01a0a401a9c90b9450"), looks := true }, kinds := [], alts := [], laidByText := true, laidKinds := [.widerDeep], laidTests := true, laidLooks := .later }
def PrinterTwiceUptoCardSaid : Prop := Claim7.holds Tryd.pinned (.plain (OpenSpec.upto printerTwiceSpec)) printerTwiceUptoCard

/-- THE SECOND FORM's CARD OF 'gameplayerlaw06.PrinterJoins'. -/
def printerJoinsUptoCard : Claim7 := { stood := { row := printerJoinsUptoRow, standIns := [], harness := (true, "0daa58baddab64d90edc236b644b41513fd86a5fb1654a01a0a401a9c90b9450"), looks := true }, kinds := [], alts := [], laidByText := true, laidKinds := [.widerDeep], laidTests := true, laidLooks := .later }
def PrinterJoinsUptoCardSaid : Prop := Claim7.holds Tryd.pinned (.plain (OpenSpec.upto printerJoinsSpec)) printerJoinsUptoCard

/-- THE SECOND FORM's CARD OF 'gameplayerlaw06.PrinterValid'. -/
def printerValidUptoCard : Claim7 := { stood := { row := printerValidUptoRow, standIns := [], harness := (true, "0daa58baddab64d90edc236b644b41513fd86a5fb1654a01a0a401a9c90b9450"), looks := true }, kinds := [], alts := [], laidByText := true, laidKinds := [.widerDeep], laidTests := true, laidLooks := .later }
def PrinterValidUptoCardSaid : Prop := Claim7.holds Tryd.pinned (.plain (OpenSpec.upto printerValidSpec)) printerValidUptoCard
end Rows
end Go.Proofs.YthkbnjojkeeffaaDoor
