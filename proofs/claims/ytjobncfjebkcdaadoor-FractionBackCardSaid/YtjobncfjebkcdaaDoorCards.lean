/-
  DERIVED. GIVEN WITH THE SEED: THE CARDS: each row of YtjobncfjebkcdaaDoorRows.lean that lists a variable, with what it lists TIED to the program's text (the seventh form; the later family's looks); each row that meets fmt, with fmt's text TOLD by the authors' own Lean function (tested against real Go, not proved from fmt's source: count such statements apart). THE CARD IS WHAT COUNTS. Prove the row's statement (the work); the ties are given (YtjobncfjebkcdaaDoorTie.lean); close each card by the builder's one call (the guide's Derived/Test/ToyasCard.lean, 'card_holds'). Laid BY PROGRAM, IN A SANDBOX (cutbox-door.mjs). By AI agents, Wed Nov 11 2026. No macro, syntax, notation, axiom, sorry.
-/
import Derived.Test.YtjobncfjebkcdaaDoorRows
import GoSem.ClaimSeven
namespace Go.Proofs.YtjobncfjebkcdaaDoor
namespace Rows

/-- THE TIED CARD OF 'gameplayerlaw02.FractionMakes'. -/
def fractionMakesCard : Claim7 := { stood := { row := fractionMakesRow, standIns := [], harness := (true, "0400b747b8e37d4aaaf3dd451adfaf116982c25a1d8143bc42a72633d71495b7"), looks := true }, kinds := [], alts := [], laidByText := true, laidKinds := [.data, .data, .data], laidTests := true, laidLooks := .later }
def FractionMakesCardSaid : Prop := Claim7.holds Tryd.pinned (.plain (OpenSpec.ofChange fractionMakesSpec)) fractionMakesCard

/-- THE TIED CARD OF 'gameplayerlaw02.FractionDoes'. -/
def fractionDoesCard : Claim7 := { stood := { row := fractionDoesRow, standIns := [], harness := (true, "0400b747b8e37d4aaaf3dd451adfaf116982c25a1d8143bc42a72633d71495b7"), looks := true }, kinds := [], alts := [], laidByText := true, laidKinds := [.data, .data, .data], laidTests := true, laidLooks := .later }
def FractionDoesCardSaid : Prop := Claim7.holds Tryd.pinned (.plain (OpenSpec.ofChange fractionDoesSpec)) fractionDoesCard

/-- THE TIED CARD OF 'gameplayerlaw02.FractionLaws'. -/
def fractionLawsCard : Claim7 := { stood := { row := fractionLawsRow, standIns := [], harness := (true, "0400b747b8e37d4aaaf3dd451adfaf116982c25a1d8143bc42a72633d71495b7"), looks := true }, kinds := [], alts := [], laidByText := true, laidKinds := [.data, .data, .data], laidTests := true, laidLooks := .later }
def FractionLawsCardSaid : Prop := Claim7.holds Tryd.pinned (.plain (OpenSpec.ofChange fractionLawsSpec)) fractionLawsCard

/-- THE TIED CARD OF 'gameplayerlaw02.FractionRounds'. -/
def fractionRoundsCard : Claim7 := { stood := { row := fractionRoundsRow, standIns := [], harness := (true, "0400b747b8e37d4aaaf3dd451adfaf116982c25a1d8143bc42a72633d71495b7"), looks := true }, kinds := [], alts := [], laidByText := true, laidKinds := [.data, .data, .data], laidTests := true, laidLooks := .later }
def FractionRoundsCardSaid : Prop := Claim7.holds Tryd.pinned (.plain (OpenSpec.ofChange fractionRoundsSpec)) fractionRoundsCard

/-- THE TIED CARD OF 'gameplayerlaw02.FractionOrder'. -/
def fractionOrderCard : Claim7 := { stood := { row := fractionOrderRow, standIns := [], harness := (true, "0400b747b8e37d4aaaf3dd451adfaf116982c25a1d8143bc42a72633d71495b7"), looks := true }, kinds := [], alts := [], laidByText := true, laidKinds := [.data, .data, .data], laidTests := true, laidLooks := .later }
def FractionOrderCardSaid : Prop := Claim7.holds Tryd.pinned (.plain (OpenSpec.ofChange fractionOrderSpec)) fractionOrderCard

/-- THE TIED CARD OF 'gameplayerlaw02.FractionSums'. -/
def fractionSumsCard : Claim7 := { stood := { row := fractionSumsRow, standIns := [], harness := (true, "0400b747b8e37d4aaaf3dd451adfaf116982c25a1d8143bc42a72633d71495b7"), looks := true }, kinds := [], alts := [], laidByText := true, laidKinds := [.data, .data, .data], laidTests := true, laidLooks := .later }
def FractionSumsCardSaid : Prop := Claim7.holds Tryd.pinned (.plain (OpenSpec.ofChange fractionSumsSpec)) fractionSumsCard

/-- THE TIED CARD OF 'gameplayerlaw02.FractionBack'. -/
def fractionBackCard : Claim7 := { stood := { row := fractionBackRow, standIns := [], harness := (true, "0400b747b8e37d4aaaf3dd451adfaf116982c25a1d8143bc42a72633d71495b7"), looks := true }, kinds := [], alts := [], laidByText := true, laidKinds := [.data, .data, .data, .sentinel, .sentinel], laidTests := true, laidLooks := .later }
def FractionBackCardSaid : Prop := Claim7.holds Tryd.pinned (.plain (OpenSpec.ofChange fractionBackSpec)) fractionBackCard

/-- THE SECOND FORM's CARD OF 'gameplayerlaw02.FractionMakes'. -/
def fractionMakesUptoCard : Claim7 := { stood := { row := fractionMakesUptoRow, standIns := [], harness := (true, "0400b747b8e37d4aaaf3dd451adfaf116982c25a1d8143bc42a72633d71495b7"), looks := true }, kinds := [], alts := [], laidByText := true, laidKinds := [.data, .data, .data], laidTests := true, laidLooks := .later }
def FractionMakesUptoCardSaid : Prop := Claim7.holds Tryd.pinned (.plain (OpenSpec.upto fractionMakesSpec)) fractionMakesUptoCard

/-- THE SECOND FORM's CARD OF 'gameplayerlaw02.FractionDoes'. -/
def fractionDoesUptoCard : Claim7 := { stood := { row := fractionDoesUptoRow, standIns := [], harness := (true, "0400b747b8e37d4aaaf3dd451adfaf116982c25a1d8143bc42a72633d71495b7"), looks := true }, kinds := [], alts := [], laidByText := true, laidKinds := [.data, .data, .data], laidTests := true, laidLooks := .later }
def FractionDoesUptoCardSaid : Prop := Claim7.holds Tryd.pinned (.plain (OpenSpec.upto fractionDoesSpec)) fractionDoesUptoCard

/-- THE SECOND FORM's CARD OF 'gameplayerlaw02.FractionLaws'. -/
def fractionLawsUptoCard : Claim7 := { stood := { row := fractionLawsUptoRow, standIns := [], harness := (true, "0400b747b8e37d4aaaf3dd451adfaf116982c25a1d8143bc42a72633d71495b7"), looks := true }, kinds := [], alts := [], laidByText := true, laidKinds := [.data, .data, .data], laidTests := true, laidLooks := .later }
def FractionLawsUptoCardSaid : Prop := Claim7.holds Tryd.pinned (.plain (OpenSpec.upto fractionLawsSpec)) fractionLawsUptoCard

/-- THE SECOND FORM's CARD OF 'gameplayerlaw02.FractionRounds'. -/
def fractionRoundsUptoCard : Claim7 := { stood := { row := fractionRoundsUptoRow, standIns := [], harness := (true, "0400b747b8e37d4aaaf3dd451adfaf116982c25a1d8143bc42a72633d71495b7"), looks := true }, kinds := [], alts := [], laidByText := true, laidKinds := [.data, .data, .data], laidTests := true, laidLooks := .later }
def FractionRoundsUptoCardSaid : Prop := Claim7.holds Tryd.pinned (.plain (OpenSpec.upto fractionRoundsSpec)) fractionRoundsUptoCard

/-- THE SECOND FORM's CARD OF 'gameplayerlaw02.FractionOrder'. -/
def fractionOrderUptoCard : Claim7 := { stood := { row := fractionOrderUptoRow, standIns := [], harness := (true, "0400b747b8e37d4aaaf3dd451adfaf116982c25a1d8143bc42a72633d71495b7"), looks := true }, kinds := [], alts := [], laidByText := true, laidKinds := [.data, .data, .data], laidTests := true, laidLooks := .later }
def FractionOrderUptoCardSaid : Prop := Claim7.holds Tryd.pinned (.plain (OpenSpec.upto fractionOrderSpec)) fractionOrderUptoCard

/-- THE SECOND FORM's CARD OF 'gameplayerlaw02.FractionSums'. -/
def fractionSumsUptoCard : Claim7 := { stood := { row := fractionSumsUptoRow, standIns := [], harness := (true, "0400b747b8e37d4aaaf3dd451adfaf116982c25a1d8143bc42a72633d71495b7"), looks := true }, kinds := [], alts := [], laidByText := true, laidKinds := [.data, .data, .data], laidTests := true, laidLooks := .later }
def FractionSumsUptoCardSaid : Prop := Claim7.holds Tryd.pinned (.plain (OpenSpec.upto fractionSumsSpec)) fractionSumsUptoCard

/-- THE SECOND FORM's CARD OF 'gameplayerlaw02.FractionBack'. -/
def fractionBackUptoCard : Claim7 := { stood := { row := fractionBackUptoRow, standIns := [], harness := (true, "0400b747b8e37d4aaaf3dd451adfaf116982c25a1d8143bc42a72633d71495b7"), looks := true }, kinds := [], alts := [], laidByText := true, laidKinds := [.data, .data, .data, .sentinel, .sentinel], laidTests := true, laidLooks := .later }
def FractionBackUptoCardSaid : Prop := Claim7.holds Tryd.pinned (.plain (OpenSpec.upto fractionBackSpec)) fractionBackUptoCard
end Rows
end Go.Proofs.YtjobncfjebkcdaaDoor
