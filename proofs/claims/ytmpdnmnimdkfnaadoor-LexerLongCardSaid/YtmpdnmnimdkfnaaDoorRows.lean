/-
  NARROWER THAN 'FOR EVERY INPUT', by the rows' own cells (each row's printed sentence says how): LexerLexes: laid · LexerWords: laid · LexerJoins: laid · LexerPositions: laid · LexerBack: laid · LexerCovers: laid · LexerLines: laid · LexerLong: laid.
  DERIVED. THE GIVEN ROWS OF THIS SEAT. 8 by the template 'for every input the law returns true; each argument reads behind the call as it read before'; 0 by the template 'total and deterministic' (their statements: YtmpdnmnimdkfnaaDoorTotals.lean).
  GIVEN WITH THE SEED: the statements are not yours to turn. If you find one false, say at which input.
  Laid BY PROGRAM, IN A SANDBOX (cutbox-rows.mjs): the forced cells as the released guide's own fill.sh prints them over the translation e9dddb5373cf0b7b… (all of the seat's roots in one cut). By AI agents, Wed Nov 11 2026. No macro, syntax, notation, axiom, sorry.
-/
import Derived.Test.YtmpdnmnimdkfnaaDoorChecked
import GoSem.Claim
import GoSem.ClaimJoined
import GoSem.ClaimMapViews
import Derived.JoinedTies
import Derived.KernelRfl
namespace Go.Proofs.YtmpdnmnimdkfnaaDoor
/- THE CELL 'sum', in the pinned program and in every row, IS THE sha256 OF THE DUMP (.gsa) THAT YtmpdnmnimdkfnaaDoorProg.lean LOADS. Nothing in Lean hashes anything: it is a label: what it is worth is what the hold of that sum in a sandbox is worth. -/
noncomputable def Tryd.pinned : Pinned := { name := "ytmpdnmnimdkfnaadoor", sum := "e9dddb5373cf0b7b9bd66b6daf01c6dce268a87663e7733bae6a19acc357f5d1", checked := Tryd.checked }
namespace Rows
def none {H : Type} : Left H := { results := [], args := [] }

/- WHAT THE LISTED PACKAGE-LEVEL VARIABLES READ AS WHEN THE CALL BEGINS. Each datum BY PROGRAM (the guide's laid-datum.mjs) off the statement by which the dump's own 'gosem.cut.vars' lays the variable. In a bare row this is a premise. The card (YtmpdnmnimdkfnaaDoorCards.lean) ties it to the program's text. -/
def laid_gameplayer_lexer_words {H : Type} : DataW H := .agg [.lit (.string [105, 102]), .lit (.string [97, 110, 100]), .lit (.string [110, 111, 116])]

/-- 'gameplayerlaw04.LexerLexes': WHATEVER THE INPUT: true; the input reads as it did. -/
def lexerLexesSpec : ChangeSpec := { name := "lexerLexes", fn := fun _ => fun
  | [d] => { results := [.lit (.bool true)], args := [d] }
  | _ => none }
def lexerLexesRow : OpenClaim := { program := "ytmpdnmnimdkfnaadoor", sum := "e9dddb5373cf0b7b9bd66b6daf01c6dce268a87663e7733bae6a19acc357f5d1", func := "gameplayer/gameplayerlaw04.LexerLexes", spec := "lexerLexes", inPlace := ["internal/bytealg.IndexByteString", "internal/bytealg.CountString", "internal/bytealg.IndexString", "internal/abi.NoEscape", "internal/bytealg.MakeNoZero"], unfollowed := true, recurses := true, named := ["gameplayer/lexer.words", "internal/bytealg.MaxLen"], apart := false, laid := [("gameplayer/lexer.words", laid_gameplayer_lexer_words)] }
def LexerLexesSaid : Prop := lexerLexesRow.holds Tryd.pinned (OpenSpec.ofChange lexerLexesSpec)

/-- ITS FALSE NEIGHBOUR: 'it returns false'. Refute it at one input. -/
def lexerLexesWrong : ChangeSpec := { name := "lexerLexes", fn := fun _ => fun
  | [d] => { results := [.lit (.bool false)], args := [d] }
  | _ => none }
def LexerLexesWrongFalsely : Prop := lexerLexesRow.holds Tryd.pinned (OpenSpec.ofChange lexerLexesWrong)

/-- 'gameplayerlaw04.LexerWords': WHATEVER THE INPUT: true; the input reads as it did. -/
def lexerWordsSpec : ChangeSpec := { name := "lexerWords", fn := fun _ => fun
  | [d] => { results := [.lit (.bool true)], args := [d] }
  | _ => none }
def lexerWordsRow : OpenClaim := { program := "ytmpdnmnimdkfnaadoor", sum := "e9dddb5373cf0b7b9bd66b6daf01c6dce268a87663e7733bae6a19acc357f5d1", func := "gameplayer/gameplayerlaw04.LexerWords", spec := "lexerWords", inPlace := ["internal/bytealg.IndexByteString", "internal/bytealg.CountString", "internal/bytealg.IndexString", "internal/abi.NoEscape", "internal/bytealg.MakeNoZero"], unfollowed := true, recurses := true, named := ["gameplayer/lexer.words", "internal/bytealg.MaxLen"], apart := false, laid := [("gameplayer/lexer.words", laid_gameplayer_lexer_words)] }
def LexerWordsSaid : Prop := lexerWordsRow.holds Tryd.pinned (OpenSpec.ofChange lexerWordsSpec)

/-- ITS FALSE NEIGHBOUR: 'it returns false'. Refute it at one input. -/
def lexerWordsWrong : ChangeSpec := { name := "lexerWords", fn := fun _ => fun
  | [d] => { results := [.lit (.bool false)], args := [d] }
  | _ => none }
def LexerWordsWrongFalsely : Prop := lexerWordsRow.holds Tryd.pinned (OpenSpec.ofChange lexerWordsWrong)

/-- 'gameplayerlaw04.LexerJoins': WHATEVER THE INPUT: true; the input reads as it did. -/
def lexerJoinsSpec : ChangeSpec := { name := "lexerJoins", fn := fun _ => fun
  | [d] => { results := [.lit (.bool true)], args := [d] }
  | _ => none }
def lexerJoinsRow : OpenClaim := { program := "ytmpdnmnimdkfnaadoor", sum := "e9dddb5373cf0b7b9bd66b6daf01c6dce268a87663e7733bae6a19acc357f5d1", func := "gameplayer/gameplayerlaw04.LexerJoins", spec := "lexerJoins", inPlace := ["internal/bytealg.IndexByteString", "internal/bytealg.CountString", "internal/bytealg.IndexString", "internal/abi.NoEscape", "internal/bytealg.MakeNoZero"], unfollowed := true, recurses := true, named := ["gameplayer/lexer.words", "internal/bytealg.MaxLen"], apart := false, laid := [("gameplayer/lexer.words", laid_gameplayer_lexer_words)] }
def LexerJoinsSaid : Prop := lexerJoinsRow.holds Tryd.pinned (OpenSpec.ofChange lexerJoinsSpec)

/-- ITS FALSE NEIGHBOUR: 'it returns false'. Refute it at one input. -/
def lexerJoinsWrong : ChangeSpec := { name := "lexerJoins", fn := fun _ => fun
  | [d] => { results := [.lit (.bool false)], args := [d] }
  | _ => none }
def LexerJoinsWrongFalsely : Prop := lexerJoinsRow.holds Tryd.pinned (OpenSpec.ofChange lexerJoinsWrong)

/-- 'gameplayerlaw04.LexerPositions': WHATEVER THE INPUT: true; the input reads as it did. -/
def lexerPositionsSpec : ChangeSpec := { name := "lexerPositions", fn := fun _ => fun
  | [d1, d2] => { results := [.lit (.bool true)], args := [d1, d2] }
  | _ => none }
def lexerPositionsRow : OpenClaim := { program := "ytmpdnmnimdkfnaadoor", sum := "e9dddb5373cf0b7b9bd66b6daf01c6dce268a87663e7733bae6a19acc357f5d1", func := "gameplayer/gameplayerlaw04.LexerPositions", spec := "lexerPositions", inPlace := ["internal/bytealg.IndexByteString", "internal/bytealg.CountString", "internal/bytealg.IndexString", "internal/abi.NoEscape", "internal/bytealg.MakeNoZero"], unfollowed := true, recurses := true, named := ["gameplayer/lexer.words", "internal/bytealg.MaxLen"], apart := false, laid := [("gameplayer/lexer.words", laid_gameplayer_lexer_words)] }
def LexerPositionsSaid : Prop := lexerPositionsRow.holds Tryd.pinned (OpenSpec.ofChange lexerPositionsSpec)

/-- ITS FALSE NEIGHBOUR: 'it returns false'. Refute it at one input. -/
def lexerPositionsWrong : ChangeSpec := { name := "lexerPositions", fn := fun _ => fun
  | [d1, d2] => { results := [.lit (.bool false)], args := [d1, d2] }
  | _ => none }
def LexerPositionsWrongFalsely : Prop := lexerPositionsRow.holds Tryd.pinned (OpenSpec.ofChange lexerPositionsWrong)

/-- 'gameplayerlaw04.LexerBack': WHATEVER THE INPUT: true; the input reads as it did. -/
def lexerBackSpec : ChangeSpec := { name := "lexerBack", fn := fun _ => fun
  | [d] => { results := [.lit (.bool true)], args := [d] }
  | _ => none }
def lexerBackRow : OpenClaim := { program := "ytmpdnmnimdkfnaadoor", sum := "e9dddb5373cf0b7b9bd66b6daf01c6dce268a87663e7733bae6a19acc357f5d1", func := "gameplayer/gameplayerlaw04.LexerBack", spec := "lexerBack", inPlace := ["internal/bytealg.IndexByteString", "internal/bytealg.CountString", "internal/bytealg.IndexString", "internal/abi.NoEscape", "internal/bytealg.MakeNoZero"], unfollowed := true, recurses := true, named := ["gameplayer/lexer.words", "internal/bytealg.MaxLen"], apart := false, laid := [("gameplayer/lexer.words", laid_gameplayer_lexer_words)] }
def LexerBackSaid : Prop := lexerBackRow.holds Tryd.pinned (OpenSpec.ofChange lexerBackSpec)

/-- ITS FALSE NEIGHBOUR: 'it returns false'. Refute it at one input. -/
def lexerBackWrong : ChangeSpec := { name := "lexerBack", fn := fun _ => fun
  | [d] => { results := [.lit (.bool false)], args := [d] }
  | _ => none }
def LexerBackWrongFalsely : Prop := lexerBackRow.holds Tryd.pinned (OpenSpec.ofChange lexerBackWrong)

/-- 'gameplayerlaw04.LexerCovers': WHATEVER THE INPUT: true; the input reads as it did. -/
def lexerCoversSpec : ChangeSpec := { name := "lexerCovers", fn := fun _ => fun
  | [d] => { results := [.lit (.bool true)], args := [d] }
  | _ => none }
def lexerCoversRow : OpenClaim := { program := "ytmpdnmnimdkfnaadoor", sum := "e9dddb5373cf0b7b9bd66b6daf01c6dce268a87663e7733bae6a19acc357f5d1", func := "gameplayer/gameplayerlaw04.LexerCovers", spec := "lexerCovers", inPlace := ["internal/bytealg.IndexByteString", "internal/bytealg.CountString", "internal/bytealg.IndexString", "internal/abi.NoEscape", "internal/bytealg.MakeNoZero"], unfollowed := true, recurses := true, named := ["gameplayer/lexer.words", "internal/bytealg.MaxLen"], apart := false, laid := [("gameplayer/lexer.words", laid_gameplayer_lexer_words)] }
def LexerCoversSaid : Prop := lexerCoversRow.holds Tryd.pinned (OpenSpec.ofChange lexerCoversSpec)

/-- ITS FALSE NEIGHBOUR: 'it returns false'. Refute it at one input. -/
def lexerCoversWrong : ChangeSpec := { name := "lexerCovers", fn := fun _ => fun
  | [d] => { results := [.lit (.bool false)], args := [d] }
  | _ => none }
def LexerCoversWrongFalsely : Prop := lexerCoversRow.holds Tryd.pinned (OpenSpec.ofChange lexerCoversWrong)

/-- 'gameplayerlaw04.LexerLines': WHATEVER THE INPUT: true; the input reads as it did. -/
def lexerLinesSpec : ChangeSpec := { name := "lexerLines", fn := fun _ => fun
  | [d1, d2] => { results := [.lit (.bool true)], args := [d1, d2] }
  | _ => none }
def lexerLinesRow : OpenClaim := { program := "ytmpdnmnimdkfnaadoor", sum := "e9dddb5373cf0b7b9bd66b6daf01c6dce268a87663e7733bae6a19acc357f5d1", func := "gameplayer/gameplayerlaw04.LexerLines", spec := "lexerLines", inPlace := ["internal/bytealg.IndexByteString", "internal/bytealg.CountString", "internal/bytealg.IndexString", "internal/abi.NoEscape", "internal/bytealg.MakeNoZero"], unfollowed := true, recurses := true, named := ["gameplayer/lexer.words", "internal/bytealg.MaxLen"], apart := false, laid := [("gameplayer/lexer.words", laid_gameplayer_lexer_words)] }
def LexerLinesSaid : Prop := lexerLinesRow.holds Tryd.pinned (OpenSpec.ofChange lexerLinesSpec)

/-- ITS FALSE NEIGHBOUR: 'it returns false'. Refute it at one input. -/
def lexerLinesWrong : ChangeSpec := { name := "lexerLines", fn := fun _ => fun
  | [d1, d2] => { results := [.lit (.bool false)], args := [d1, d2] }
  | _ => none }
def LexerLinesWrongFalsely : Prop := lexerLinesRow.holds Tryd.pinned (OpenSpec.ofChange lexerLinesWrong)

/-- 'gameplayerlaw04.LexerLong': WHATEVER THE INPUT: true; the input reads as it did. -/
def lexerLongSpec : ChangeSpec := { name := "lexerLong", fn := fun _ => fun
  | [d1, d2] => { results := [.lit (.bool true)], args := [d1, d2] }
  | _ => none }
def lexerLongRow : OpenClaim := { program := "ytmpdnmnimdkfnaadoor", sum := "e9dddb5373cf0b7b9bd66b6daf01c6dce268a87663e7733bae6a19acc357f5d1", func := "gameplayer/gameplayerlaw04.LexerLong", spec := "lexerLong", inPlace := ["internal/bytealg.IndexByteString", "internal/bytealg.CountString", "internal/bytealg.IndexString", "internal/abi.NoEscape", "internal/bytealg.MakeNoZero"], unfollowed := true, recurses := true, named := ["gameplayer/lexer.words", "internal/bytealg.MaxLen"], apart := false, laid := [("gameplayer/lexer.words", laid_gameplayer_lexer_words)] }
def LexerLongSaid : Prop := lexerLongRow.holds Tryd.pinned (OpenSpec.ofChange lexerLongSpec)

/-- ITS FALSE NEIGHBOUR: 'it returns false'. Refute it at one input. -/
def lexerLongWrong : ChangeSpec := { name := "lexerLong", fn := fun _ => fun
  | [d1, d2] => { results := [.lit (.bool false)], args := [d1, d2] }
  | _ => none }
def LexerLongWrongFalsely : Prop := lexerLongRow.holds Tryd.pinned (OpenSpec.ofChange lexerLongWrong)

/- THE SECOND FORM. 'bulk': how many values and letters a reading holds, each counted each time it is reached (what is shared counts as often as it is met; a slice's spare places count too). A statement '..UptoSaid' is the law's where the arguments, and the package variables that the reading takes, are together of bulk at most 1048576: NARROWER than '..Said'. Prove '..Said' where nothing that the law and all that it calls make is longer than what came in: it says more and counts as full. Else prove '..UptoSaid'. A law counts once. -/
mutual
def uptoBulk {H : Type} : DataW H → Nat
  | .lit (.string bytes) => bytes.length + 1
  | .lit _ => 1
  | .nil => 1
  | .ptr d => uptoBulk d + 1
  | .slice elems spare => uptoBulkAll elems + uptoBulkAll spare + 1
  | .agg parts => uptoBulkAll parts + 1
  | .iface _ d => uptoBulk d + 1
  | .map entries => uptoBulkEntries entries + 1
  | .held _ => 1
def uptoBulkAll {H : Type} : List (DataW H) → Nat
  | [] => 0
  | d :: r => uptoBulk d + uptoBulkAll r
def uptoBulkEntries {H : Type} : List (Lit × DataW H) → Nat
  | [] => 0
  | x :: r => uptoBulkEntry x + uptoBulkEntries r
def uptoBulkEntry {H : Type} : Lit × DataW H → Nat
  | (.string bytes, d) => bytes.length + uptoBulk d + 1
  | (_, d) => uptoBulk d + 1
 end
def uptoSmall : (H : Type) → List (DataW H) → Bool := fun _ ds => decide (uptoBulkAll ds ≤ 1048576)
def OpenSpec.upto (s : _root_.Go.ChangeSpec) : _root_.Go.OpenSpec := { _root_.Go.OpenSpec.ofChange s with cond := some uptoSmall }

/-- 'gameplayerlaw04.LexerLexes', WHERE WHAT IT READS IS OF BULK AT MOST 1048576: true; the input reads as it did. -/
def lexerLexesUptoRow : OpenClaim := { program := "ytmpdnmnimdkfnaadoor", sum := "e9dddb5373cf0b7b9bd66b6daf01c6dce268a87663e7733bae6a19acc357f5d1", func := "gameplayer/gameplayerlaw04.LexerLexes", spec := "lexerLexes", inPlace := ["internal/bytealg.IndexByteString", "internal/bytealg.CountString", "internal/bytealg.IndexString", "internal/abi.NoEscape", "internal/bytealg.MakeNoZero"], unfollowed := true, recurses := true, named := ["gameplayer/lexer.words", "internal/bytealg.MaxLen"], apart := false, laid := [("gameplayer/lexer.words", laid_gameplayer_lexer_words)], narrowed := true }
def LexerLexesUptoSaid : Prop := lexerLexesUptoRow.holds Tryd.pinned (OpenSpec.upto lexerLexesSpec)

/-- 'gameplayerlaw04.LexerWords', WHERE WHAT IT READS IS OF BULK AT MOST 1048576: true; the input reads as it did. -/
def lexerWordsUptoRow : OpenClaim := { program := "ytmpdnmnimdkfnaadoor", sum := "e9dddb5373cf0b7b9bd66b6daf01c6dce268a87663e7733bae6a19acc357f5d1", func := "gameplayer/gameplayerlaw04.LexerWords", spec := "lexerWords", inPlace := ["internal/bytealg.IndexByteString", "internal/bytealg.CountString", "internal/bytealg.IndexString", "internal/abi.NoEscape", "internal/bytealg.MakeNoZero"], unfollowed := true, recurses := true, named := ["gameplayer/lexer.words", "internal/bytealg.MaxLen"], apart := false, laid := [("gameplayer/lexer.words", laid_gameplayer_lexer_words)], narrowed := true }
def LexerWordsUptoSaid : Prop := lexerWordsUptoRow.holds Tryd.pinned (OpenSpec.upto lexerWordsSpec)

/-- 'gameplayerlaw04.LexerJoins', WHERE WHAT IT READS IS OF BULK AT MOST 1048576: true; the input reads as it did. -/
def lexerJoinsUptoRow : OpenClaim := { program := "ytmpdnmnimdkfnaadoor", sum := "e9dddb5373cf0b7b9bd66b6daf01c6dce268a87663e7733bae6a19acc357f5d1", func := "gameplayer/gameplayerlaw04.LexerJoins", spec := "lexerJoins", inPlace := ["internal/bytealg.IndexByteString", "internal/bytealg.CountString", "internal/bytealg.IndexString", "internal/abi.NoEscape", "internal/bytealg.MakeNoZero"], unfollowed := true, recurses := true, named := ["gameplayer/lexer.words", "internal/bytealg.MaxLen"], apart := false, laid := [("gameplayer/lexer.words", laid_gameplayer_lexer_words)], narrowed := true }
def LexerJoinsUptoSaid : Prop := lexerJoinsUptoRow.holds Tryd.pinned (OpenSpec.upto lexerJoinsSpec)

/-- 'gameplayerlaw04.LexerPositions', WHERE WHAT IT READS IS OF BULK AT MOST 1048576: true; the input reads as it did. -/
def lexerPositionsUptoRow : OpenClaim := { program := "ytmpdnmnimdkfnaadoor", sum := "e9dddb5373cf0b7b9bd66b6daf01c6dce268a87663e7733bae6a19acc357f5d1", func := "gameplayer/gameplayerlaw04.LexerPositions", spec := "lexerPositions", inPlace := ["internal/bytealg.IndexByteString", "internal/bytealg.CountString", "internal/bytealg.IndexString", "internal/abi.NoEscape", "internal/bytealg.MakeNoZero"], unfollowed := true, recurses := true, named := ["gameplayer/lexer.words", "internal/bytealg.MaxLen"], apart := false, laid := [("gameplayer/lexer.words", laid_gameplayer_lexer_words)], narrowed := true }
def LexerPositionsUptoSaid : Prop := lexerPositionsUptoRow.holds Tryd.pinned (OpenSpec.upto lexerPositionsSpec)

/-- 'gameplayerlaw04.LexerBack', WHERE WHAT IT READS IS OF BULK AT MOST 1048576: true; the input reads as it did. -/
def lexerBackUptoRow : OpenClaim := { program := "ytmpdnmnimdkfnaadoor", sum := "e9dddb5373cf0b7b9bd66b6daf01c6dce268a87663e7733bae6a19acc357f5d1", func := "gameplayer/gameplayerlaw04.LexerBack", spec := "lexerBack", inPlace := ["internal/bytealg.IndexByteString", "internal/bytealg.CountString", "internal/bytealg.IndexString", "internal/abi.NoEscape", "internal/bytealg.MakeNoZero"], unfollowed := true, recurses := true, named := ["gameplayer/lexer.words", "internal/bytealg.MaxLen"], apart := false, laid := [("gameplayer/lexer.words", laid_gameplayer_lexer_words)], narrowed := true }
def LexerBackUptoSaid : Prop := lexerBackUptoRow.holds Tryd.pinned (OpenSpec.upto lexerBackSpec)

/-- 'gameplayerlaw04.LexerCovers', WHERE WHAT IT READS IS OF BULK AT MOST 1048576: true; the input reads as it did. -/
def lexerCoversUptoRow : OpenClaim := { program := "ytmpdnmnimdkfnaadoor", sum := "e9dddb5373cf0b7b9bd66b6daf01c6dce268a87663e7733bae6a19acc357f5d1", func := "gameplayer/gameplayerlaw04.LexerCovers", spec := "lexerCovers", inPlace := ["internal/bytealg.IndexByteString", "internal/bytealg.CountString", "internal/bytealg.IndexString", "internal/abi.NoEscape", "internal/bytealg.MakeNoZero"], unfollowed := true, recurses := true, named := ["gameplayer/lexer.words", "internal/bytealg.MaxLen"], apart := false, laid := [("gameplayer/lexer.words", laid_gameplayer_lexer_words)], narrowed := true }
def LexerCoversUptoSaid : Prop := lexerCoversUptoRow.holds Tryd.pinned (OpenSpec.upto lexerCoversSpec)

/-- 'gameplayerlaw04.LexerLines', WHERE WHAT IT READS IS OF BULK AT MOST 1048576: true; the input reads as it did. -/
def lexerLinesUptoRow : OpenClaim := { program := "ytmpdnmnimdkfnaadoor", sum := "e9dddb5373cf0b7b9bd66b6daf01c6dce268a87663e7733bae6a19acc357f5d1", func := "gameplayer/gameplayerlaw04.LexerLines", spec := "lexerLines", inPlace := ["internal/bytealg.IndexByteString", "internal/bytealg.CountString", "internal/bytealg.IndexString", "internal/abi.NoEscape", "internal/bytealg.MakeNoZero"], unfollowed := true, recurses := true, named := ["gameplayer/lexer.words", "internal/bytealg.MaxLen"], apart := false, laid := [("gameplayer/lexer.words", laid_gameplayer_lexer_words)], narrowed := true }
def LexerLinesUptoSaid : Prop := lexerLinesUptoRow.holds Tryd.pinned (OpenSpec.upto lexerLinesSpec)

/-- 'gameplayerlaw04.LexerLong', WHERE WHAT IT READS IS OF BULK AT MOST 1048576: true; the input reads as it did. -/
def lexerLongUptoRow : OpenClaim := { program := "ytmpdnmnimdkfnaadoor", sum := "e9dddb5373cf0b7b9bd66b6daf01c6dce268a87663e7733bae6a19acc357f5d1", func := "gameplayer/gameplayerlaw04.LexerLong", spec := "lexerLong", inPlace := ["internal/bytealg.IndexByteString", "internal/bytealg.CountString", "internal/bytealg.IndexString", "internal/abi.NoEscape", "internal/bytealg.MakeNoZero"], unfollowed := true, recurses := true, named := ["gameplayer/lexer.words", "internal/bytealg.MaxLen"], apart := false, laid := [("gameplayer/lexer.words", laid_gameplayer_lexer_words)], narrowed := true }
def LexerLongUptoSaid : Prop := lexerLongUptoRow.holds Tryd.pinned (OpenSpec.upto lexerLongSpec)

end Rows
end Go.Proofs.YtmpdnmnimdkfnaaDoor
