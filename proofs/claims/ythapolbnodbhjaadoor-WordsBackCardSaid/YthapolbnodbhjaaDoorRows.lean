/-
  NARROWER THAN 'FOR EVERY INPUT', by the rows' own cells (each row's printed sentence says how): WordsUnlike: laid · WordsRef: laid · WordsPhase: laid · WordsHeader: laid · WordsBack: laid · WordsAgain: laid.
  DERIVED. THE GIVEN ROWS OF THIS SEAT. 6 by the template 'for every input the law returns true; each argument reads behind the call as it read before'; 0 by the template 'total and deterministic' (their statements: YthapolbnodbhjaaDoorTotals.lean).
  GIVEN WITH THE SEED: the statements are not yours to turn. If you find one false, say at which input.
  Laid BY PROGRAM, IN A SANDBOX (cutbox-rows.mjs): the forced cells as the released guide's own fill.sh prints them over the translation e703a1d8b671d70e… (all of the seat's roots in one cut). By AI agents, Wed Nov 11 2026. No macro, syntax, notation, axiom, sorry.
-/
import Derived.Test.YthapolbnodbhjaaDoorChecked
import GoSem.Claim
import GoSem.ClaimJoined
import GoSem.ClaimMapViews
import Derived.JoinedTies
import Derived.KernelRfl
namespace Go.Proofs.YthapolbnodbhjaaDoor
/- THE CELL 'sum', in the pinned program and in every row, IS THE sha256 OF THE DUMP (.gsa) THAT YthapolbnodbhjaaDoorProg.lean LOADS. Nothing in Lean hashes anything: it is a label: what it is worth is what the hold of that sum in a sandbox is worth. -/
noncomputable def Tryd.pinned : Pinned := { name := "ythapolbnodbhjaadoor", sum := "e703a1d8b671d70e33a4540adc9c1399cbf37116e83ad4cd4f59f8f6d93299ce", checked := Tryd.checked }
namespace Rows
def none {H : Type} : Left H := { results := [], args := [] }

/- WHAT THE LISTED PACKAGE-LEVEL VARIABLES READ AS WHEN THE CALL BEGINS. Each datum BY PROGRAM (the guide's laid-datum.mjs) off the statement by which the dump's own 'gosem.cut.vars' lays the variable. In a bare row this is a premise. The card (YthapolbnodbhjaaDoorCards.lean) ties it to the program's text. -/
def laid_ragpicker_words_fields {H : Type} : DataW H := .agg [.agg [.lit (.int .u64 0), .lit (.int .u64 16)], .agg [.lit (.int .u64 16), .lit (.int .u64 32)], .agg [.lit (.int .u64 16), .lit (.int .u64 48)], .agg [.lit (.int .u64 0), .lit (.int .u64 3)], .agg [.lit (.int .u64 3), .lit (.int .u64 32)], .agg [.lit (.int .u64 0), .lit (.int .u64 3)], .agg [.lit (.int .u64 3), .lit (.int .u64 3)], .agg [.lit (.int .u64 6), .lit (.int .u64 3)], .agg [.lit (.int .u64 16), .lit (.int .u64 48)], .agg [.lit (.int .u64 0), .lit (.int .u64 32)], .agg [.lit (.int .u64 32), .lit (.int .u64 1)]]

/-- 'ragpickerlaw01.WordsUnlike': WHATEVER THE INPUT: true; the input reads as it did. -/
def wordsUnlikeSpec : ChangeSpec := { name := "wordsUnlike", fn := fun _ => fun
  | [d1, d2, d3] => { results := [.lit (.bool true)], args := [d1, d2, d3] }
  | _ => none }
def wordsUnlikeRow : OpenClaim := { program := "ythapolbnodbhjaadoor", sum := "e703a1d8b671d70e33a4540adc9c1399cbf37116e83ad4cd4f59f8f6d93299ce", func := "ragpicker/ragpickerlaw01.WordsUnlike", spec := "wordsUnlike", named := ["ragpicker/words.fields"], apart := false, laid := [("ragpicker/words.fields", laid_ragpicker_words_fields)] }
def WordsUnlikeSaid : Prop := wordsUnlikeRow.holds Tryd.pinned (OpenSpec.ofChange wordsUnlikeSpec)

/-- ITS FALSE NEIGHBOUR: 'it returns false'. Refute it at one input. -/
def wordsUnlikeWrong : ChangeSpec := { name := "wordsUnlike", fn := fun _ => fun
  | [d1, d2, d3] => { results := [.lit (.bool false)], args := [d1, d2, d3] }
  | _ => none }
def WordsUnlikeWrongFalsely : Prop := wordsUnlikeRow.holds Tryd.pinned (OpenSpec.ofChange wordsUnlikeWrong)

/-- 'ragpickerlaw01.WordsRef': WHATEVER THE INPUT: true; the input reads as it did. -/
def wordsRefSpec : ChangeSpec := { name := "wordsRef", fn := fun _ => fun
  | [d1, d2, d3] => { results := [.lit (.bool true)], args := [d1, d2, d3] }
  | _ => none }
def wordsRefRow : OpenClaim := { program := "ythapolbnodbhjaadoor", sum := "e703a1d8b671d70e33a4540adc9c1399cbf37116e83ad4cd4f59f8f6d93299ce", func := "ragpicker/ragpickerlaw01.WordsRef", spec := "wordsRef", named := ["ragpicker/words.fields"], apart := false, laid := [("ragpicker/words.fields", laid_ragpicker_words_fields)] }
def WordsRefSaid : Prop := wordsRefRow.holds Tryd.pinned (OpenSpec.ofChange wordsRefSpec)

/-- ITS FALSE NEIGHBOUR: 'it returns false'. Refute it at one input. -/
def wordsRefWrong : ChangeSpec := { name := "wordsRef", fn := fun _ => fun
  | [d1, d2, d3] => { results := [.lit (.bool false)], args := [d1, d2, d3] }
  | _ => none }
def WordsRefWrongFalsely : Prop := wordsRefRow.holds Tryd.pinned (OpenSpec.ofChange wordsRefWrong)

/-- 'ragpickerlaw01.WordsPhase': WHATEVER THE INPUT: true; the input reads as it did. -/
def wordsPhaseSpec : ChangeSpec := { name := "wordsPhase", fn := fun _ => fun
  | [d1, d2] => { results := [.lit (.bool true)], args := [d1, d2] }
  | _ => none }
def wordsPhaseRow : OpenClaim := { program := "ythapolbnodbhjaadoor", sum := "e703a1d8b671d70e33a4540adc9c1399cbf37116e83ad4cd4f59f8f6d93299ce", func := "ragpicker/ragpickerlaw01.WordsPhase", spec := "wordsPhase", named := ["ragpicker/words.fields"], apart := false, laid := [("ragpicker/words.fields", laid_ragpicker_words_fields)] }
def WordsPhaseSaid : Prop := wordsPhaseRow.holds Tryd.pinned (OpenSpec.ofChange wordsPhaseSpec)

/-- ITS FALSE NEIGHBOUR: 'it returns false'. Refute it at one input. -/
def wordsPhaseWrong : ChangeSpec := { name := "wordsPhase", fn := fun _ => fun
  | [d1, d2] => { results := [.lit (.bool false)], args := [d1, d2] }
  | _ => none }
def WordsPhaseWrongFalsely : Prop := wordsPhaseRow.holds Tryd.pinned (OpenSpec.ofChange wordsPhaseWrong)

/-- 'ragpickerlaw01.WordsHeader': WHATEVER THE INPUT: true; the input reads as it did. -/
def wordsHeaderSpec : ChangeSpec := { name := "wordsHeader", fn := fun _ => fun
  | [d1, d2, d3] => { results := [.lit (.bool true)], args := [d1, d2, d3] }
  | _ => none }
def wordsHeaderRow : OpenClaim := { program := "ythapolbnodbhjaadoor", sum := "e703a1d8b671d70e33a4540adc9c1399cbf37116e83ad4cd4f59f8f6d93299ce", func := "ragpicker/ragpickerlaw01.WordsHeader", spec := "wordsHeader", named := ["ragpicker/words.fields"], apart := false, laid := [("ragpicker/words.fields", laid_ragpicker_words_fields)] }
def WordsHeaderSaid : Prop := wordsHeaderRow.holds Tryd.pinned (OpenSpec.ofChange wordsHeaderSpec)

/-- ITS FALSE NEIGHBOUR: 'it returns false'. Refute it at one input. -/
def wordsHeaderWrong : ChangeSpec := { name := "wordsHeader", fn := fun _ => fun
  | [d1, d2, d3] => { results := [.lit (.bool false)], args := [d1, d2, d3] }
  | _ => none }
def WordsHeaderWrongFalsely : Prop := wordsHeaderRow.holds Tryd.pinned (OpenSpec.ofChange wordsHeaderWrong)

/-- 'ragpickerlaw01.WordsBack': WHATEVER THE INPUT: true; the input reads as it did. -/
def wordsBackSpec : ChangeSpec := { name := "wordsBack", fn := fun _ => fun
  | [d1, d2, d3] => { results := [.lit (.bool true)], args := [d1, d2, d3] }
  | _ => none }
def wordsBackRow : OpenClaim := { program := "ythapolbnodbhjaadoor", sum := "e703a1d8b671d70e33a4540adc9c1399cbf37116e83ad4cd4f59f8f6d93299ce", func := "ragpicker/ragpickerlaw01.WordsBack", spec := "wordsBack", named := ["ragpicker/words.fields"], apart := false, laid := [("ragpicker/words.fields", laid_ragpicker_words_fields)] }
def WordsBackSaid : Prop := wordsBackRow.holds Tryd.pinned (OpenSpec.ofChange wordsBackSpec)

/-- ITS FALSE NEIGHBOUR: 'it returns false'. Refute it at one input. -/
def wordsBackWrong : ChangeSpec := { name := "wordsBack", fn := fun _ => fun
  | [d1, d2, d3] => { results := [.lit (.bool false)], args := [d1, d2, d3] }
  | _ => none }
def WordsBackWrongFalsely : Prop := wordsBackRow.holds Tryd.pinned (OpenSpec.ofChange wordsBackWrong)

/-- 'ragpickerlaw01.WordsAgain': WHATEVER THE INPUT: true; the input reads as it did. -/
def wordsAgainSpec : ChangeSpec := { name := "wordsAgain", fn := fun _ => fun
  | [d] => { results := [.lit (.bool true)], args := [d] }
  | _ => none }
def wordsAgainRow : OpenClaim := { program := "ythapolbnodbhjaadoor", sum := "e703a1d8b671d70e33a4540adc9c1399cbf37116e83ad4cd4f59f8f6d93299ce", func := "ragpicker/ragpickerlaw01.WordsAgain", spec := "wordsAgain", named := ["ragpicker/words.fields"], apart := false, laid := [("ragpicker/words.fields", laid_ragpicker_words_fields)] }
def WordsAgainSaid : Prop := wordsAgainRow.holds Tryd.pinned (OpenSpec.ofChange wordsAgainSpec)

/-- ITS FALSE NEIGHBOUR: 'it returns false'. Refute it at one input. -/
def wordsAgainWrong : ChangeSpec := { name := "wordsAgain", fn := fun _ => fun
  | [d] => { results := [.lit (.bool false)], args := [d] }
  | _ => none }
def WordsAgainWrongFalsely : Prop := wordsAgainRow.holds Tryd.pinned (OpenSpec.ofChange wordsAgainWrong)

/- THE SECOND FORM. 'bulk': how many values and letters a reading holds, each counted each time it is reached (what is shared counts as often as it is met; a slice's spare places count too). A statement '..UptoSaid' is the law's where the arguments, and the package variables that the reading takes, are together of bulk at most 1048576: NARROWER than '..Said'. Prove '..Said' where nothing that the law and all that it calls make is longer than what came in: it says more and counts as full. Else prove '..UptoSaid'. A law counts once. -/
mutual
def uptoBulk {H : Type} : DataW H → Nat
  | .lit (.string bytes) => bytes.length + 1
  | .lit _ => 1
  | .nil => 1
  | .ptr d => uptoBulk d + 1
  | .slice elems spare => uptoBulkAll elems + uptoBulkAll spare + 1
  | .agg parts => uptoBulkAll parts + 1
  | .iface _ d => uptoBulk d + 1
  | .map entries => uptoBulkEntries entries + 1
  | .held _ => 1
def uptoBulkAll {H : Type} : List (DataW H) → Nat
  | [] => 0
  | d :: r => uptoBulk d + uptoBulkAll r
def uptoBulkEntries {H : Type} : List (Lit × DataW H) → Nat
  | [] => 0
  | x :: r => uptoBulkEntry x + uptoBulkEntries r
def uptoBulkEntry {H : Type} : Lit × DataW H → Nat
  | (.string bytes, d) => bytes.length + uptoBulk d + 1
  | (_, d) => uptoBulk d + 1
 end
def uptoSmall : (H : Type) → List (DataW H) → Bool := fun _ ds => decide (uptoBulkAll ds ≤ 1048576)
def OpenSpec.upto (s : _root_.Go.ChangeSpec) : _root_.Go.OpenSpec := { _root_.Go.OpenSpec.ofChange s with cond := some uptoSmall }

/-- 'ragpickerlaw01.WordsUnlike', WHERE WHAT IT READS IS OF BULK AT MOST 1048576: true; the input reads as it did. -/
def wordsUnlikeUptoRow : OpenClaim := { program := "ythapolbnodbhjaadoor", sum := "e703a1d8b671d70e33a4540adc9c1399cbf37116e83ad4cd4f59f8f6d93299ce", func := "ragpicker/ragpickerlaw01.WordsUnlike", spec := "wordsUnlike", named := ["ragpicker/words.fields"], apart := false, laid := [("ragpicker/words.fields", laid_ragpicker_words_fields)], narrowed := true }
def WordsUnlikeUptoSaid : Prop := wordsUnlikeUptoRow.holds Tryd.pinned (OpenSpec.upto wordsUnlikeSpec)

/-- 'ragpickerlaw01.WordsRef', WHERE WHAT IT READS IS OF BULK AT MOST 1048576: true; the input reads as it did. -/
def wordsRefUptoRow : OpenClaim := { program := "ythapolbnodbhjaadoor", sum := "e703a1d8b671d70e33a4540adc9c1399cbf37116e83ad4cd4f59f8f6d93299ce", func := "ragpicker/ragpickerlaw01.WordsRef", spec := "wordsRef", named := ["ragpicker/words.fields"], apart := false, laid := [("ragpicker/words.fields", laid_ragpicker_words_fields)], narrowed := true }
def WordsRefUptoSaid : Prop := wordsRefUptoRow.holds Tryd.pinned (OpenSpec.upto wordsRefSpec)

/-- 'ragpickerlaw01.WordsPhase', WHERE WHAT IT READS IS OF BULK AT MOST 1048576: true; the input reads as it did. -/
def wordsPhaseUptoRow : OpenClaim := { program := "ythapolbnodbhjaadoor", sum := "e703a1d8b671d70e33a4540adc9c1399cbf37116e83ad4cd4f59f8f6d93299ce", func := "ragpicker/ragpickerlaw01.WordsPhase", spec := "wordsPhase", named := ["ragpicker/words.fields"], apart := false, laid := [("ragpicker/words.fields", laid_ragpicker_words_fields)], narrowed := true }
def WordsPhaseUptoSaid : Prop := wordsPhaseUptoRow.holds Tryd.pinned (OpenSpec.upto wordsPhaseSpec)

/-- 'ragpickerlaw01.WordsHeader', WHERE WHAT IT READS IS OF BULK AT MOST 1048576: true; the input reads as it did. -/
def wordsHeaderUptoRow : OpenClaim := { program := "ythapolbnodbhjaadoor", sum := "e703a1d8b671d70e33a4540adc9c1399cbf37116e83ad4cd4f59f8f6d93299ce", func := "ragpicker/ragpickerlaw01.WordsHeader", spec := "wordsHeader", named := ["ragpicker/words.fields"], apart := false, laid := [("ragpicker/words.fields", laid_ragpicker_words_fields)], narrowed := true }
def WordsHeaderUptoSaid : Prop := wordsHeaderUptoRow.holds Tryd.pinned (OpenSpec.upto wordsHeaderSpec)

/-- 'ragpickerlaw01.WordsBack', WHERE WHAT IT READS IS OF BULK AT MOST 1048576: true; the input reads as it did. -/
def wordsBackUptoRow : OpenClaim := { program := "ythapolbnodbhjaadoor", sum := "e703a1d8b671d70e33a4540adc9c1399cbf37116e83ad4cd4f59f8f6d93299ce", func := "ragpicker/ragpickerlaw01.WordsBack", spec := "wordsBack", named := ["ragpicker/words.fields"], apart := false, laid := [("ragpicker/words.fields", laid_ragpicker_words_fields)], narrowed := true }
def WordsBackUptoSaid : Prop := wordsBackUptoRow.holds Tryd.pinned (OpenSpec.upto wordsBackSpec)

/-- 'ragpickerlaw01.WordsAgain', WHERE WHAT IT READS IS OF BULK AT MOST 1048576: true; the input reads as it did. -/
def wordsAgainUptoRow : OpenClaim := { program := "ythapolbnodbhjaadoor", sum := "e703a1d8b671d70e33a4540adc9c1399cbf37116e83ad4cd4f59f8f6d93299ce", func := "ragpicker/ragpickerlaw01.WordsAgain", spec := "wordsAgain", named := ["ragpicker/words.fields"], apart := false, laid := [("ragpicker/words.fields", laid_ragpicker_words_fields)], narrowed := true }
def WordsAgainUptoSaid : Prop := wordsAgainUptoRow.holds Tryd.pinned (OpenSpec.upto wordsAgainSpec)

end Rows
end Go.Proofs.YthapolbnodbhjaaDoor
