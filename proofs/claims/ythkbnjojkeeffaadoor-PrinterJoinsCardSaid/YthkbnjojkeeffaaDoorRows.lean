/-
  NARROWER THAN 'FOR EVERY INPUT', by the rows' own cells (each row's printed sentence says how): PrinterTexts: loops, laid · PrinterTerms: loops, laid · PrinterChecks: loops, laid · PrinterFormats: laid · PrinterBack: loops, laid · PrinterTwice: laid · PrinterJoins: loops, laid · PrinterValid: loops, laid.
  DERIVED. THE GIVEN ROWS OF THIS SEAT. 8 by the template 'for every input the law returns true; each argument reads behind the call as it read before'; 0 by the template 'total and deterministic' (their statements: YthkbnjojkeeffaaDoorTotals.lean).
  GIVEN WITH THE SEED: the statements are not yours to turn. If you find one false, say at which input.
  Laid BY PROGRAM, IN A SANDBOX (cutbox-rows.mjs): the forced cells as the released guide's own fill.sh prints them over the translation 0bfbdfbb199c714a… (all of the seat's roots in one cut). By AI agents, Wed Nov 11 2026. No macro, syntax, notation, axiom, sorry.
-/
import Derived.Test.YthkbnjojkeeffaaDoorChecked
import GoSem.Claim
import GoSem.ClaimJoined
import GoSem.ClaimMapViews
import Derived.JoinedTies
import Derived.KernelRfl
namespace Go.Proofs.YthkbnjojkeeffaaDoor
/- THE CELL 'sum', in the pinned program and in every row, IS THE sha256 OF THE DUMP (.gsa) THAT YthkbnjojkeeffaaDoorProg.lean LOADS. Nothing in Lean hashes anything: it is a label: what it is worth is what the hold of that sum in a sandbox is worth. -/
noncomputable def Tryd.pinned : Pinned := { name := "ythkbnjojkeeffaadoor", sum := "0bfbdfbb199c714a8fa28054afde5d5cdd828163d7e6fb09d1f54da0e4eb6149", checked := Tryd.checked }
namespace Rows
def none {H : Type} : Left H := { results := [], args := [] }

/- WHAT THE LISTED PACKAGE-LEVEL VARIABLES READ AS WHEN THE CALL BEGINS. Each datum BY PROGRAM (the guide's laid-datum.mjs) off the statement by which the dump's own 'gosem.cut.vars' lays the variable. In a bare row this is a premise. The card (YthkbnjojkeeffaaDoorCards.lean) ties it to the program's text. -/
def laid_gameplayer_lexer_words {H : Type} : DataW H := .agg [.lit (.string [105, 102]), .lit (.string [97, 110, 100]), .lit (.string [110, 111, 116])]

/-- 'gameplayerlaw06.PrinterTexts': WHATEVER THE INPUT: true; the input reads as it did. -/
def printerTextsSpec : ChangeSpec := { name := "printerTexts", fn := fun _ => fun
  | [d] => { results := [.lit (.bool true)], args := [d] }
  | _ => none }
def printerTextsRow : OpenClaim := { program := "ythkbnjojkeeffaadoor", sum := "0bfbdfbb199c714a8fa28054afde5d5cdd828163d7e6fb09d1f54da0e4eb6149", func := "gameplayer/gameplayerlaw06.PrinterTexts", spec := "printerTexts", inPlace := ["internal/abi.NoEscape", "internal/bytealg.MakeNoZero", "internal/bytealg.IndexByteString"], unfollowed := true, recurses := true, named := ["gameplayer/lexer.words"], loops := true, apart := false, laid := [("gameplayer/lexer.words", laid_gameplayer_lexer_words)] }
def PrinterTextsSaid : Prop := printerTextsRow.holds Tryd.pinned (OpenSpec.ofChange printerTextsSpec)

/-- ITS FALSE NEIGHBOUR: 'it returns false'. Refute it at one input. -/
def printerTextsWrong : ChangeSpec := { name := "printerTexts", fn := fun _ => fun
  | [d] => { results := [.lit (.bool false)], args := [d] }
  | _ => none }
def PrinterTextsWrongFalsely : Prop := printerTextsRow.holds Tryd.pinned (OpenSpec.ofChange printerTextsWrong)

/-- 'gameplayerlaw06.PrinterTerms': WHATEVER THE INPUT: true; the input reads as it did. -/
def printerTermsSpec : ChangeSpec := { name := "printerTerms", fn := fun _ => fun
  | [d] => { results := [.lit (.bool true)], args := [d] }
  | _ => none }
def printerTermsRow : OpenClaim := { program := "ythkbnjojkeeffaadoor", sum := "0bfbdfbb199c714a8fa28054afde5d5cdd828163d7e6fb09d1f54da0e4eb6149", func := "gameplayer/gameplayerlaw06.PrinterTerms", spec := "printerTerms", inPlace := ["internal/abi.NoEscape", "internal/bytealg.MakeNoZero", "internal/bytealg.IndexByteString"], unfollowed := true, recurses := true, named := ["gameplayer/lexer.words"], loops := true, apart := false, laid := [("gameplayer/lexer.words", laid_gameplayer_lexer_words)] }
def PrinterTermsSaid : Prop := printerTermsRow.holds Tryd.pinned (OpenSpec.ofChange printerTermsSpec)

/-- ITS FALSE NEIGHBOUR: 'it returns false'. Refute it at one input. -/
def printerTermsWrong : ChangeSpec := { name := "printerTerms", fn := fun _ => fun
  | [d] => { results := [.lit (.bool false)], args := [d] }
  | _ => none }
def PrinterTermsWrongFalsely : Prop := printerTermsRow.holds Tryd.pinned (OpenSpec.ofChange printerTermsWrong)

/-- 'gameplayerlaw06.PrinterChecks': WHATEVER THE INPUT: true; the input reads as it did. -/
def printerChecksSpec : ChangeSpec := { name := "printerChecks", fn := fun _ => fun
  | [d] => { results := [.lit (.bool true)], args := [d] }
  | _ => none }
def printerChecksRow : OpenClaim := { program := "ythkbnjojkeeffaadoor", sum := "0bfbdfbb199c714a8fa28054afde5d5cdd828163d7e6fb09d1f54da0e4eb6149", func := "gameplayer/gameplayerlaw06.PrinterChecks", spec := "printerChecks", inPlace := ["internal/abi.NoEscape", "internal/bytealg.MakeNoZero", "internal/bytealg.IndexByteString"], unfollowed := true, recurses := true, named := ["gameplayer/lexer.words"], loops := true, apart := false, laid := [("gameplayer/lexer.words", laid_gameplayer_lexer_words)] }
def PrinterChecksSaid : Prop := printerChecksRow.holds Tryd.pinned (OpenSpec.ofChange printerChecksSpec)

/-- ITS FALSE NEIGHBOUR: 'it returns false'. Refute it at one input. -/
def printerChecksWrong : ChangeSpec := { name := "printerChecks", fn := fun _ => fun
  | [d] => { results := [.lit (.bool false)], args := [d] }
  | _ => none }
def PrinterChecksWrongFalsely : Prop := printerChecksRow.holds Tryd.pinned (OpenSpec.ofChange printerChecksWrong)

/-- 'gameplayerlaw06.PrinterFormats': WHATEVER THE INPUT: true; the input reads as it did. -/
def printerFormatsSpec : ChangeSpec := { name := "printerFormats", fn := fun _ => fun
  | [d] => { results := [.lit (.bool true)], args := [d] }
  | _ => none }
def printerFormatsRow : OpenClaim := { program := "ythkbnjojkeeffaadoor", sum := "0bfbdfbb199c714a8fa28054afde5d5cdd828163d7e6fb09d1f54da0e4eb6149", func := "gameplayer/gameplayerlaw06.PrinterFormats", spec := "printerFormats", inPlace := ["internal/abi.NoEscape", "internal/bytealg.MakeNoZero", "internal/bytealg.IndexByteString"], unfollowed := true, recurses := true, named := ["gameplayer/lexer.words"], apart := false, laid := [("gameplayer/lexer.words", laid_gameplayer_lexer_words)] }
def PrinterFormatsSaid : Prop := printerFormatsRow.holds Tryd.pinned (OpenSpec.ofChange printerFormatsSpec)

/-- ITS FALSE NEIGHBOUR: 'it returns false'. Refute it at one input. -/
def printerFormatsWrong : ChangeSpec := { name := "printerFormats", fn := fun _ => fun
  | [d] => { results := [.lit (.bool false)], args := [d] }
  | _ => none }
def PrinterFormatsWrongFalsely : Prop := printerFormatsRow.holds Tryd.pinned (OpenSpec.ofChange printerFormatsWrong)

/-- 'gameplayerlaw06.PrinterBack': WHATEVER THE INPUT: true; the input reads as it did. -/
def printerBackSpec : ChangeSpec := { name := "printerBack", fn := fun _ => fun
  | [d] => { results := [.lit (.bool true)], args := [d] }
  | _ => none }
def printerBackRow : OpenClaim := { program := "ythkbnjojkeeffaadoor", sum := "0bfbdfbb199c714a8fa28054afde5d5cdd828163d7e6fb09d1f54da0e4eb6149", func := "gameplayer/gameplayerlaw06.PrinterBack", spec := "printerBack", inPlace := ["internal/abi.NoEscape", "internal/bytealg.MakeNoZero", "internal/bytealg.IndexByteString"], unfollowed := true, recurses := true, named := ["gameplayer/lexer.words"], loops := true, apart := false, laid := [("gameplayer/lexer.words", laid_gameplayer_lexer_words)] }
def PrinterBackSaid : Prop := printerBackRow.holds Tryd.pinned (OpenSpec.ofChange printerBackSpec)

/-- ITS FALSE NEIGHBOUR: 'it returns false'. Refute it at one input. -/
def printerBackWrong : ChangeSpec := { name := "printerBack", fn := fun _ => fun
  | [d] => { results := [.lit (.bool false)], args := [d] }
  | _ => none }
def PrinterBackWrongFalsely : Prop := printerBackRow.holds Tryd.pinned (OpenSpec.ofChange printerBackWrong)

/-- 'gameplayerlaw06.PrinterTwice': WHATEVER THE INPUT: true; the input reads as it did. -/
def printerTwiceSpec : ChangeSpec := { name := "printerTwice", fn := fun _ => fun
  | [d] => { results := [.lit (.bool true)], args := [d] }
  | _ => none }
def printerTwiceRow : OpenClaim := { program := "ythkbnjojkeeffaadoor", sum := "0bfbdfbb199c714a8fa28054afde5d5cdd828163d7e6fb09d1f54da0e4eb6149", func := "gameplayer/gameplayerlaw06.PrinterTwice", spec := "printerTwice", inPlace := ["internal/abi.NoEscape", "internal/bytealg.MakeNoZero", "internal/bytealg.IndexByteString"], unfollowed := true, recurses := true, named := ["gameplayer/lexer.words"], apart := false, laid := [("gameplayer/lexer.words", laid_gameplayer_lexer_words)] }
def PrinterTwiceSaid : Prop := printerTwiceRow.holds Tryd.pinned (OpenSpec.ofChange printerTwiceSpec)

/-- ITS FALSE NEIGHBOUR: 'it returns false'. Refute it at one input. -/
def printerTwiceWrong : ChangeSpec := { name := "printerTwice", fn := fun _ => fun
  | [d] => { results := [.lit (.bool false)], args := [d] }
  | _ => none }
def PrinterTwiceWrongFalsely : Prop := printerTwiceRow.holds Tryd.pinned (OpenSpec.ofChange printerTwiceWrong)

/-- 'gameplayerlaw06.PrinterJoins': WHATEVER THE INPUT: true; the input reads as it did. -/
def printerJoinsSpec : ChangeSpec := { name := "printerJoins", fn := fun _ => fun
  | [d1, d2] => { results := [.lit (.bool true)], args := [d1, d2] }
  | _ => none }
def printerJoinsRow : OpenClaim := { program := "ythkbnjojkeeffaadoor", sum := "0bfbdfbb199c714a8fa28054afde5d5cdd828163d7e6fb09d1f54da0e4eb6149", func := "gameplayer/gameplayerlaw06.PrinterJoins", spec := "printerJoins", inPlace := ["internal/abi.NoEscape", "internal/bytealg.MakeNoZero", "internal/bytealg.IndexByteString"], unfollowed := true, recurses := true, named := ["gameplayer/lexer.words"], loops := true, apart := false, laid := [("gameplayer/lexer.words", laid_gameplayer_lexer_words)] }
def PrinterJoinsSaid : Prop := printerJoinsRow.holds Tryd.pinned (OpenSpec.ofChange printerJoinsSpec)

/-- ITS FALSE NEIGHBOUR: 'it returns false'. Refute it at one input. -/
def printerJoinsWrong : ChangeSpec := { name := "printerJoins", fn := fun _ => fun
  | [d1, d2] => { results := [.lit (.bool false)], args := [d1, d2] }
  | _ => none }
def PrinterJoinsWrongFalsely : Prop := printerJoinsRow.holds Tryd.pinned (OpenSpec.ofChange printerJoinsWrong)

/-- 'gameplayerlaw06.PrinterValid': WHATEVER THE INPUT: true; the input reads as it did. -/
def printerValidSpec : ChangeSpec := { name := "printerValid", fn := fun _ => fun
  | [d] => { results := [.lit (.bool true)], args := [d] }
  | _ => none }
def printerValidRow : OpenClaim := { program := "ythkbnjojkeeffaadoor", sum := "0bfbdfbb199c714a8fa28054afde5d5cdd828163d7e6fb09d1f54da0e4eb6149", func := "gameplayer/gameplayerlaw06.PrinterValid", spec := "printerValid", inPlace := ["internal/abi.NoEscape", "internal/bytealg.MakeNoZero", "internal/bytealg.IndexByteString"], unfollowed := true, recurses := true, named := ["gameplayer/lexer.words"], loops := true, apart := false, laid := [("gameplayer/lexer.words", laid_gameplayer_lexer_words)] }
def PrinterValidSaid : Prop := printerValidRow.holds Tryd.pinned (OpenSpec.ofChange printerValidSpec)

/-- ITS FALSE NEIGHBOUR: 'it returns false'. Refute it at one input. -/
def printerValidWrong : ChangeSpec := { name := "printerValid", fn := fun _ => fun
  | [d] => { results := [.lit (.bool false)], args := [d] }
  | _ => none }
def PrinterValidWrongFalsely : Prop := printerValidRow.holds Tryd.pinned (OpenSpec.ofChange printerValidWrong)

/- THE SECOND FORM. 'bulk': how many values and letters a reading holds, each counted each time it is reached (what is shared counts as often as it is met; a slice's spare places count too). A statement '..UptoSaid' is the law's where the arguments, and the package variables that the reading takes, are together of bulk at most 1048576: NARROWER than '..Said'. Prove '..Said' where nothing that the law and all that it calls make is longer than what came in: it says more and counts as full. Else prove '..UptoSaid'. A law counts once. -/
mutual
def uptoBulk {H : Type} : DataW H → Nat
  | .lit (.string bytes) => bytes.length + 1
  | .lit _ => 1
  | .nil => 1
  | .ptr d => uptoBulk d + 1
  | .slice elems spare => uptoBulkAll elems + uptoBulkAll spare + 1
  | .agg parts => uptoBulkAll parts + 1
  | .iface _ d => uptoBulk d + 1
  | .map entries => uptoBulkEntries entries + 1
  | .held _ => 1
def uptoBulkAll {H : Type} : List (DataW H) → Nat
  | [] => 0
  | d :: r => uptoBulk d + uptoBulkAll r
def uptoBulkEntries {H : Type} : List (Lit × DataW H) → Nat
  | [] => 0
  | x :: r => uptoBulkEntry x + uptoBulkEntries r
def uptoBulkEntry {H : Type} : Lit × DataW H → Nat
  | (.string bytes, d) => bytes.length + uptoBulk d + 1
  | (_, d) => uptoBulk d + 1
 end
def uptoSmall : (H : Type) → List (DataW H) → Bool := fun _ ds => decide (uptoBulkAll ds ≤ 1048576)
def OpenSpec.upto (s : _root_.Go.ChangeSpec) : _root_.Go.OpenSpec := { _root_.Go.OpenSpec.ofChange s with cond := some uptoSmall }

/-- 'gameplayerlaw06.PrinterTexts', WHERE WHAT IT READS IS OF BULK AT MOST 1048576: true; the input reads as it did. -/
def printerTextsUptoRow : OpenClaim := { program := "ythkbnjojkeeffaadoor", sum := "0bfbdfbb199c714a8fa28054afde5d5cdd828163d7e6fb09d1f54da0e4eb6149", func := "gameplayer/gameplayerlaw06.PrinterTexts", spec := "printerTexts", inPlace := ["internal/abi.NoEscape", "internal/bytealg.MakeNoZero", "internal/bytealg.IndexByteString"], unfollowed := true, recurses := true, named := ["gameplayer/lexer.words"], loops := true, apart := false, laid := [("gameplayer/lexer.words", laid_gameplayer_lexer_words)], narrowed := true }
def PrinterTextsUptoSaid : Prop := printerTextsUptoRow.holds Tryd.pinned (OpenSpec.upto printerTextsSpec)

/-- 'gameplayerlaw06.PrinterTerms', WHERE WHAT IT READS IS OF BULK AT MOST 1048576: true; the input reads as it did. -/
def printerTermsUptoRow : OpenClaim := { program := "ythkbnjojkeeffaadoor", sum := "0bfbdfbb199c714a8fa28054afde5d5cdd828163d7e6fb09d1f54da0e4eb6149", func := "gameplayer/gameplayerlaw06.PrinterTerms", spec := "printerTerms", inPlace := ["internal/abi.NoEscape", "internal/bytealg.MakeNoZero", "internal/bytealg.IndexByteString"], unfollowed := true, recurses := true, named := ["gameplayer/lexer.words"], loops := true, apart := false, laid := [("gameplayer/lexer.words", laid_gameplayer_lexer_words)], narrowed := true }
def PrinterTermsUptoSaid : Prop := printerTermsUptoRow.holds Tryd.pinned (OpenSpec.upto printerTermsSpec)

/-- 'gameplayerlaw06.PrinterChecks', WHERE WHAT IT READS IS OF BULK AT MOST 1048576: true; the input reads as it did. -/
def printerChecksUptoRow : OpenClaim := { program := "ythkbnjojkeeffaadoor", sum := "0bfbdfbb199c714a8fa28054afde5d5cdd828163d7e6fb09d1f54da0e4eb6149", func := "gameplayer/gameplayerlaw06.PrinterChecks", spec := "printerChecks", inPlace := ["internal/abi.NoEscape", "internal/bytealg.MakeNoZero", "internal/bytealg.IndexByteString"], unfollowed := true, recurses := true, named := ["gameplayer/lexer.words"], loops := true, apart := false, laid := [("gameplayer/lexer.words", laid_gameplayer_lexer_words)], narrowed := true }
def PrinterChecksUptoSaid : Prop := printerChecksUptoRow.holds Tryd.pinned (OpenSpec.upto printerChecksSpec)

/-- 'gameplayerlaw06.PrinterFormats', WHERE WHAT IT READS IS OF BULK AT MOST 1048576: true; the input reads as it did. -/
def printerFormatsUptoRow : OpenClaim := { program := "ythkbnjojkeeffaadoor", sum := "0bfbdfbb199c714a8fa28054afde5d5cdd828163d7e6fb09d1f54da0e4eb6149", func := "gameplayer/gameplayerlaw06.PrinterFormats", spec := "printerFormats", inPlace := ["internal/abi.NoEscape", "internal/bytealg.MakeNoZero", "internal/bytealg.IndexByteString"], unfollowed := true, recurses := true, named := ["gameplayer/lexer.words"], apart := false, laid := [("gameplayer/lexer.words", laid_gameplayer_lexer_words)], narrowed := true }
def PrinterFormatsUptoSaid : Prop := printerFormatsUptoRow.holds Tryd.pinned (OpenSpec.upto printerFormatsSpec)

/-- 'gameplayerlaw06.PrinterBack', WHERE WHAT IT READS IS OF BULK AT MOST 1048576: true; the input reads as it did. -/
def printerBackUptoRow : OpenClaim := { program := "ythkbnjojkeeffaadoor", sum := "0bfbdfbb199c714a8fa28054afde5d5cdd828163d7e6fb09d1f54da0e4eb6149", func := "gameplayer/gameplayerlaw06.PrinterBack", spec := "printerBack", inPlace := ["internal/abi.NoEscape", "internal/bytealg.MakeNoZero", "internal/bytealg.IndexByteString"], unfollowed := true, recurses := true, named := ["gameplayer/lexer.words"], loops := true, apart := false, laid := [("gameplayer/lexer.words", laid_gameplayer_lexer_words)], narrowed := true }
def PrinterBackUptoSaid : Prop := printerBackUptoRow.holds Tryd.pinned (OpenSpec.upto printerBackSpec)

/-- 'gameplayerlaw06.PrinterTwice', WHERE WHAT IT READS IS OF BULK AT MOST 1048576: true; the input reads as it did. -/
def printerTwiceUptoRow : OpenClaim := { program := "ythkbnjojkeeffaadoor", sum := "0bfbdfbb199c714a8fa28054afde5d5cdd828163d7e6fb09d1f54da0e4eb6149", func := "gameplayer/gameplayerlaw06.PrinterTwice", spec := "printerTwice", inPlace := ["internal/abi.NoEscape", "internal/bytealg.MakeNoZero", "internal/bytealg.IndexByteString"], unfollowed := true, recurses := true, named := ["gameplayer/lexer.words"], apart := false, laid := [("gameplayer/lexer.words", laid_gameplayer_lexer_words)], narrowed := true }
def PrinterTwiceUptoSaid : Prop := printerTwiceUptoRow.holds Tryd.pinned (OpenSpec.upto printerTwiceSpec)

/-- 'gameplayerlaw06.PrinterJoins', WHERE WHAT IT READS IS OF BULK AT MOST 1048576: true; the input reads as it did. -/
def printerJoinsUptoRow : OpenClaim := { program := "ythkbnjojkeeffaadoor", sum := "0bfbdfbb199c714a8fa28054afde5d5cdd828163d7e6fb09d1f54da0e4eb6149", func := "gameplayer/gameplayerlaw06.PrinterJoins", spec := "printerJoins", inPlace := ["internal/abi.NoEscape", "internal/bytealg.MakeNoZero", "internal/bytealg.IndexByteString"], unfollowed := true, recurses := true, named := ["gameplayer/lexer.words"], loops := true, apart := false, laid := [("gameplayer/lexer.words", laid_gameplayer_lexer_words)], narrowed := true }
def PrinterJoinsUptoSaid : Prop := printerJoinsUptoRow.holds Tryd.pinned (OpenSpec.upto printerJoinsSpec)

/-- 'gameplayerlaw06.PrinterValid', WHERE WHAT IT READS IS OF BULK AT MOST 1048576: true; the input reads as it did. -/
def printerValidUptoRow : OpenClaim := { program := "ythkbnjojkeeffaadoor", sum := "0bfbdfbb199c714a8fa28054afde5d5cdd828163d7e6fb09d1f54da0e4eb6149", func := "gameplayer/gameplayerlaw06.PrinterValid", spec := "printerValid", inPlace := ["internal/abi.NoEscape", "internal/bytealg.MakeNoZero", "internal/bytealg.IndexByteString"], unfollowed := true, recurses := true, named := ["gameplayer/lexer.words"], loops := true, apart := false, laid := [("gameplayer/lexer.words", laid_gameplayer_lexer_words)], narrowed := true }
def PrinterValidUptoSaid : Prop := printerValidUptoRow.holds Tryd.pinned (OpenSpec.upto printerValidSpec)

end Rows
end Go.Proofs.YthkbnjojkeeffaaDoor
