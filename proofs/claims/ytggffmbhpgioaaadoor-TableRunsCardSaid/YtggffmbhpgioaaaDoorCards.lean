/-
  DERIVED. GIVEN WITH THE SEED: THE CARDS: each row of YtggffmbhpgioaaaDoorRows.lean that lists a variable, with what it lists TIED to the program's text (the seventh form; the later family's looks); each row that meets fmt, with fmt's text TOLD by the authors' own Lean function (tested against real Go, not proved from fmt's source: count such statements apart). THE CARD IS WHAT COUNTS. Prove the row's statement (the work); the ties are given (YtggffmbhpgioaaaDoorTie.lean); close each card by the builder's one call (the guide's Derived/Test/ToyasCard.lean, 'card_holds'). Laid BY PROGRAM, IN A SANDBOX (cutbox-door.mjs). By AI agents, Wed Nov 11 2026. No macro, syntax, notation, axiom, sorry.
-/
import Derived.Test.YtggffmbhpgioaaaDoorRows
import GoSem.ClaimSeven
namespace Go.Proofs.YtggffmbhpgioaaaDoor
namespace Rows

/-- THE TIED CARD OF 'gameplayerlaw31.TableHashes'. -/
def tableHashesCard : Claim7 := { stood := { row := tableHashesRow, standIns := [], harness := (true, "f06ac7ea2715e6dc5f8de076980601096b6473a1e9bb0d9789ed5a2051fbe06d"), looks := false }, kinds := [], alts := [], laidByText := true, laidKinds := [.data, .data, .data], laidTests := true, laidLooks := .later }
def TableHashesCardSaid : Prop := Claim7.holds Tryd.pinned (.plain (OpenSpec.ofChange tableHashesSpec)) tableHashesCard

/-- THE TIED CARD OF 'gameplayerlaw31.TableTrue'. -/
def tableTrueCard : Claim7 := { stood := { row := tableTrueRow, standIns := [], harness := (true, "f06ac7ea2715e6dc5f8de076980601096b6473a1e9bb0d9789ed5a2051fbe06d"), looks := false }, kinds := [], alts := [], laidByText := true, laidKinds := [.data, .data, .data], laidTests := true, laidLooks := .later }
def TableTrueCardSaid : Prop := Claim7.holds Tryd.pinned (.plain (OpenSpec.ofChange tableTrueSpec)) tableTrueCard

/-- THE TIED CARD OF 'gameplayerlaw31.TableNews'. -/
def tableNewsCard : Claim7 := { stood := { row := tableNewsRow, standIns := [], harness := (true, "f06ac7ea2715e6dc5f8de076980601096b6473a1e9bb0d9789ed5a2051fbe06d"), looks := false }, kinds := [], alts := [], laidByText := true, laidKinds := [.data, .data, .data], laidTests := true, laidLooks := .later }
def TableNewsCardSaid : Prop := Claim7.holds Tryd.pinned (.plain (OpenSpec.ofChange tableNewsSpec)) tableNewsCard

/-- THE TIED CARD OF 'gameplayerlaw31.TableRuns'. -/
def tableRunsCard : Claim7 := { stood := { row := tableRunsRow, standIns := [], harness := (true, "f06ac7ea2715e6dc5f8de076980601096b6473a1e9bb0d9789ed5a2051fbe06d"), looks := false }, kinds := [], alts := [], laidByText := true, laidKinds := [.data, .data, .data], laidTests := true, laidLooks := .later }
def TableRunsCardSaid : Prop := Claim7.holds Tryd.pinned (.plain (OpenSpec.ofChange tableRunsSpec)) tableRunsCard

/-- THE TIED CARD OF 'gameplayerlaw31.TableNewest'. -/
def tableNewestCard : Claim7 := { stood := { row := tableNewestRow, standIns := [], harness := (true, "f06ac7ea2715e6dc5f8de076980601096b6473a1e9bb0d9789ed5a2051fbe06d"), looks := false }, kinds := [], alts := [], laidByText := true, laidKinds := [.data, .data, .data], laidTests := true, laidLooks := .later }
def TableNewestCardSaid : Prop := Claim7.holds Tryd.pinned (.plain (OpenSpec.ofChange tableNewestSpec)) tableNewestCard

/-- THE SECOND FORM's CARD OF 'gameplayerlaw31.TableHashes'. -/
def tableHashesUptoCard : Claim7 := { stood := { row := tableHashesUptoRow, standIns := [], harness := (true, "f06ac7ea2715e6dc5f8de076980601096b6473a1e9bb0d9789ed5a2051fbe06d"), looks := false }, kinds := [], alts := [], laidByText := true, laidKinds := [.data, .data, .data], laidTests := true, laidLooks := .later }
def TableHashesUptoCardSaid : Prop := Claim7.holds Tryd.pinned (.plain (OpenSpec.upto tableHashesSpec)) tableHashesUptoCard

/-- THE SECOND FORM's CARD OF 'gameplayerlaw31.TableTrue'. -/
def tableTrueUptoCard : Claim7 := { stood := { row := tableTrueUptoRow, standIns := [], harness := (true, "f06ac7ea2715e6dc5f8de076980601096b6473a1e9bb0d9789ed5a2051fbe06d"), looks := false }, kinds := [], alts := [], laidByText := true, laidKinds := [.data, .data, .data], laidTests := true, laidLooks := .later }
def TableTrueUptoCardSaid : Prop := Claim7.holds Tryd.pinned (.plain (OpenSpec.upto tableTrueSpec)) tableTrueUptoCard

/-- THE SECOND FORM's CARD OF 'gameplayerlaw31.TableNews'. -/
def tableNewsUptoCard : Claim7 := { stood := { row := tableNewsUptoRow, standIns := [], harness := (true, "f06ac7ea2715e6dc5f8de076980601096b6473a1e9bb0d9789ed5a2051fbe06d"), looks := false }, kinds := [], alts := [], laidByText := true, laidKinds := [.data, .data, .data], laidTests := true, laidLooks := .later }
def TableNewsUptoCardSaid : Prop := Claim7.holds Tryd.pinned (.plain (OpenSpec.upto tableNewsSpec)) tableNewsUptoCard

/-- THE SECOND FORM's CARD OF 'gameplayerlaw31.TableRuns'. -/
def tableRunsUptoCard : Claim7 := { stood := { row := tableRunsUptoRow, standIns := [], harness := (true, "f06ac7ea2715e6dc5f8de076980601096b6473a1e9bb0d9789ed5a2051fbe06d"), looks := false }, kinds := [], alts := [], laidByText := true, laidKinds := [.data, .data, .data], laidTests := true, laidLooks := .later }
def TableRunsUptoCardSaid : Prop := Claim7.holds Tryd.pinned (.plain (OpenSpec.upto tableRunsSpec)) tableRunsUptoCard

/-- THE SECOND FORM's CARD OF 'gameplayerlaw31.TableNewest'. -/
def tableNewestUptoCard : Claim7 := { stood := { row := tableNewestUptoRow, standIns := [], harness := (true, "f06ac7ea2715e6dc5f8de076980601096b6473a1e9bb0d9789ed5a2051fbe06d"), looks := false }, kinds := [], alts := [], laidByText := true, laidKinds := [.data, .data, .data], laidTests := true, laidLooks := .later }
def TableNewestUptoCardSaid : Prop := Claim7.holds Tryd.pinned (.plain (OpenSpec.upto tableNewestSpec)) tableNewestUptoCard
end Rows
end Go.Proofs.YtggffmbhpgioaaaDoor
