/-
  DERIVED. GIVEN WITH THE SEED: THE CARDS: each row of YtmplpbdldcokjaaGreatDoorRows.lean that lists a variable, with what it lists TIED to the program's text (the seventh form; the later family's looks); each row that meets fmt, with fmt's text TOLD by the authors' own Lean function (tested against real Go, not proved from fmt's source: count such statements apart). THE CARD IS WHAT COUNTS. Prove the row's statement (the work); the ties are given (YtmplpbdldcokjaaGreatDoorTie.lean); close each card by the builder's one call (the guide's Derived/Test/ToyasCard.lean, 'card_holds'). Laid BY PROGRAM, IN A SANDBOX (cutbox-door.mjs). By AI agents, Wed Nov 11 2026. No macro, syntax, notation, axiom, sorry.
-/
import Derived.Test.YtmplpbdldcokjaaGreatDoorRows
import GoSem.ClaimSeven
namespace Go.Proofs.YtmplpbdldcokjaaGreatDoor
namespace Rows

/-- THE TIED CARD OF 'gameplayerlaw43.MessageOne'. -/
def messageOneCard : Claim7 := { stood := { row := messageOneRow, standIns := [], harness := (true, "fe4bdd638275982c32e44c405251ca291f912df4fb558ee2684eabf7c46be33f"), looks := true }, kinds := [], alts := [], laidByText := true, laidKinds := [.data, .data, .data, .data, .sentinel, .sentinel, .widerDeep, .pinned], laidTests := true, laidLooks := .later }
def MessageOneCardSaid : Prop := Claim7.holds Tryz.pinned (.plain (OpenSpec.ofChange messageOneSpec)) messageOneCard

/-- THE TIED CARD OF 'gameplayerlaw43.MessageWords'. -/
def messageWordsCard : Claim7 := { stood := { row := messageWordsRow, standIns := [], harness := (true, "fe4bdd638275982c32e44c405251ca291f912df4fb558ee2684eabf7c46be33f"), looks := true }, kinds := [], alts := [], laidByText := true, laidKinds := [.data, .data, .data, .data, .sentinel, .sentinel, .widerDeep, .pinned], laidTests := true, laidLooks := .later }
def MessageWordsCardSaid : Prop := Claim7.holds Tryz.pinned (.plain (OpenSpec.ofChange messageWordsSpec)) messageWordsCard

/-- THE TIED CARD OF 'gameplayerlaw43.MessageChecks'. -/
def messageChecksCard : Claim7 := { stood := { row := messageChecksRow, standIns := [], harness := (true, "fe4bdd638275982c32e44c405251ca291f912df4fb558ee2684eabf7c46be33f"), looks := true }, kinds := [], alts := [], laidByText := true, laidKinds := [.data, .data, .data, .data, .sentinel, .sentinel, .widerDeep, .pinned], laidTests := true, laidLooks := .later }
def MessageChecksCardSaid : Prop := Claim7.holds Tryz.pinned (.plain (OpenSpec.ofChange messageChecksSpec)) messageChecksCard

/-- THE TIED CARD OF 'gameplayerlaw43.MessageEncodes'. -/
def messageEncodesCard : Claim7 := { stood := { row := messageEncodesRow, standIns := [], harness := (true, "fe4bdd638275982c32e44c405251ca291f912df4fb558ee2684eabf7c46be33f"), looks := true }, kinds := [], alts := [], laidByText := true, laidKinds := [.data, .data, .data, .data, .sentinel, .sentinel, .widerDeep, .pinned], laidTests := true, laidLooks := .later }
def MessageEncodesCardSaid : Prop := Claim7.holds Tryz.pinned (.plain (OpenSpec.ofChange messageEncodesSpec)) messageEncodesCard

/-- THE TIED CARD OF 'gameplayerlaw43.MessageDecodes'. -/
def messageDecodesCard : Claim7 := { stood := { row := messageDecodesRow, standIns := [], harness := (true, "fe4bdd638275982c32e44c405251ca291f912df4fb558ee2684eabf7c46be33f"), looks := true }, kinds := [], alts := [], laidByText := true, laidKinds := [.data, .data, .data, .data, .sentinel, .sentinel, .widerDeep, .pinned], laidTests := true, laidLooks := .later }
def MessageDecodesCardSaid : Prop := Claim7.holds Tryz.pinned (.plain (OpenSpec.ofChange messageDecodesSpec)) messageDecodesCard

/-- THE TIED CARD OF 'gameplayerlaw43.MessageEscapes'. -/
def messageEscapesCard : Claim7 := { stood := { row := messageEscapesRow, standIns := [], harness := (true, "fe4bdd638275982c32e44c405251ca291f912df4fb558ee2684eabf7c46be33f"), looks := true }, kinds := [], alts := [], laidByText := true, laidKinds := [.data, .data, .data, .data, .sentinel, .sentinel, .widerDeep, .pinned], laidTests := true, laidLooks := .later }
def MessageEscapesCardSaid : Prop := Claim7.holds Tryz.pinned (.plain (OpenSpec.ofChange messageEscapesSpec)) messageEscapesCard

/-- THE TIED CARD OF 'gameplayerlaw43.MessageBack'. -/
def messageBackCard : Claim7 := { stood := { row := messageBackRow, standIns := [], harness := (true, "fe4bdd638275982c32e44c405251ca291f912df4fb558ee2684eabf7c46be33f"), looks := true }, kinds := [], alts := [], laidByText := true, laidKinds := [.data, .data, .data, .data, .sentinel, .sentinel, .widerDeep, .pinned], laidTests := true, laidLooks := .later }
def MessageBackCardSaid : Prop := Claim7.holds Tryz.pinned (.plain (OpenSpec.ofChange messageBackSpec)) messageBackCard

/-- THE SECOND FORM's CARD OF 'gameplayerlaw43.MessageOne'. -/
def messageOneUptoCard : Claim7 := { stood := { row := messageOneUptoRow, standIns := [], harness := (true, "fe4bdd638275982c32e44c405251ca291f912df4fb558ee2684eabf7c46be33f"), looks := true }, kinds := [], alts := [], laidByText := true, laidKinds := [.data, .data, .data, .data, .sentinel, .sentinel, .widerDeep, .pinned], laidTests := true, laidLooks := .later }
def MessageOneUptoCardSaid : Prop := Claim7.holds Tryz.pinned (.plain (OpenSpec.upto messageOneSpec)) messageOneUptoCard

/-- THE SECOND FORM's CARD OF 'gameplayerlaw43.MessageWords'. -/
def messageWordsUptoCard : Claim7 := { stood := { row := messageWordsUptoRow, standIns := [], harness := (true, "fe4bdd638275982c32e44c405251ca291f912df4fb558ee2684eabf7c46be33f"), looks := true }, kinds := [], alts := [], laidByText := true, laidKinds := [.data, .data, .data, .data, .sentinel, .sentinel, .widerDeep, .pinned], laidTests := true, laidLooks := .later }
def MessageWordsUptoCardSaid : Prop := Claim7.holds Tryz.pinned (.plain (OpenSpec.upto messageWordsSpec)) messageWordsUptoCard

/-- THE SECOND FORM's CARD OF 'gameplayerlaw43.MessageChecks'. -/
def messageChecksUptoCard : Claim7 := { stood := { row := messageChecksUptoRow, standIns := [], harness := (true, "fe4bdd638275982c32e44c405251ca291f912df4fb558ee2684eabf7c46be33f"), looks := true }, kinds := [], alts := [], laidByText := true, laidKinds := [.data, .data, .data, .data, .sentinel, .sentinel, .widerDeep, .pinned], laidTests := true, laidLooks := .later }
def MessageChecksUptoCardSaid : Prop := Claim7.holds Tryz.pinned (.plain (OpenSpec.upto messageChecksSpec)) messageChecksUptoCard

/-- THE SECOND FORM's CARD OF 'gameplayerlaw43.MessageEncodes'. -/
def messageEncodesUptoCard : Claim7 := { stood := { row := messageEncodesUptoRow, standIns := [], harness := (true, "fe4bdd638275982c32e44c405251ca291f912df4fb558ee2684eabf7c46be33f"), looks := true }, kinds := [], alts := [], laidByText := true, laidKinds := [.data, .data, .data, .data, .sentinel, .sentinel, .widerDeep, .pinned], laidTests := true, laidLooks := .later }
def MessageEncodesUptoCardSaid : Prop := Claim7.holds Tryz.pinned (.plain (OpenSpec.upto messageEncodesSpec)) messageEncodesUptoCard

/-- THE SECOND FORM's CARD OF 'gameplayerlaw43.MessageDecodes'. -/
def messageDecodesUptoCard : Claim7 := { stood := { row := messageDecodesUptoRow, standIns := [], harness := (true, "fe4bdd638275982c32e44c405251ca291f912df4fb558ee2684eabf7c46be33f"), looks := true }, kinds := [], alts := [], laidByText := true, laidKinds := [.data, .data, .data, .data, .sentinel, .sentinel, .widerDeep, .pinned], laidTests := true, laidLooks := .later }
def MessageDecodesUptoCardSaid : Prop := Claim7.holds Tryz.pinned (.plain (OpenSpec.upto messageDecodesSpec)) messageDecodesUptoCard

/-- THE SECOND FORM's CARD OF 'gameplayerlaw43.MessageEscapes'. -/
def messageEscapesUptoCard : Claim7 := { stood := { row := messageEscapesUptoRow, standIns := [], harness := (true, "fe4bdd638275982c32e44c405251ca291f912df4fb558ee2684eabf7c46be33f"), looks := true }, kinds := [], alts := [], laidByText := true, laidKinds := [.data, .data, .data, .data, .sentinel, .sentinel, .widerDeep, .pinned], laidTests := true, laidLooks := .later }
def MessageEscapesUptoCardSaid : Prop := Claim7.holds Tryz.pinned (.plain (OpenSpec.upto messageEscapesSpec)) messageEscapesUptoCard

/-- THE SECOND FORM's CARD OF 'gameplayerlaw43.MessageBack'. -/
def messageBackUptoCard : Claim7 := { stood := { row := messageBackUptoRow, standIns := [], harness := (true, "fe4bdd638275982c32e44c405251ca291f912df4fb558ee2684eabf7c46be33f"), looks := true }, kinds := [], alts := [], laidByText := true, laidKinds := [.data, .data, .data, .data, .sentinel, .sentinel, .widerDeep, .pinned], laidTests := true, laidLooks := .later }
def MessageBackUptoCardSaid : Prop := Claim7.holds Tryz.pinned (.plain (OpenSpec.upto messageBackSpec)) messageBackUptoCard
end Rows
end Go.Proofs.YtmplpbdldcokjaaGreatDoor
