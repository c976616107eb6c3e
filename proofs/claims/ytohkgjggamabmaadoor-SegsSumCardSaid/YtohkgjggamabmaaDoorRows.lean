/-
  NARROWER THAN 'FOR EVERY INPUT', by the rows' own cells (each row's printed sentence says how): SegsTurns: laid · SegsCount: laid · SegsLife: laid · SegsSum: laid · SegsOf: laid · SegsAll: laid.
  DERIVED. THE GIVEN ROWS OF THIS SEAT. 6 by the template 'for every input the law returns true; each argument reads behind the call as it read before'; 0 by the template 'total and deterministic' (their statements: YtohkgjggamabmaaDoorTotals.lean).
  GIVEN WITH THE SEED: the statements are not yours to turn. If you find one false, say at which input.
  Laid BY PROGRAM, IN A SANDBOX (cutbox-rows.mjs): the forced cells as the released guide's own fill.sh prints them over the translation bcca393df342eb03… (all of the seat's roots in one cut). By AI agents, Wed Nov 11 2026. No macro, syntax, notation, axiom, sorry.
-/
import Derived.Test.YtohkgjggamabmaaDoorChecked
import GoSem.Claim
import GoSem.ClaimJoined
import GoSem.ClaimMapViews
import Derived.JoinedTies
import Derived.KernelRfl
namespace Go.Proofs.YtohkgjggamabmaaDoor
/- THE CELL 'sum', in the pinned program and in every row, IS THE sha256 OF THE DUMP (.gsa) THAT YtohkgjggamabmaaDoorProg.lean LOADS. Nothing in Lean hashes anything: it is a label: what it is worth is what the hold of that sum in a sandbox is worth. -/
noncomputable def Tryd.pinned : Pinned := { name := "ytohkgjggamabmaadoor", sum := "bcca393df342eb0381b4707a609127697a70f23dbfcf3d54fb34fc7d5b01ac84", checked := Tryd.checked }
namespace Rows
def none {H : Type} : Left H := { results := [], args := [] }

/- WHAT THE LISTED PACKAGE-LEVEL VARIABLES READ AS WHEN THE CALL BEGINS. Each datum BY PROGRAM (the guide's laid-datum.mjs) off the statement by which the dump's own 'gosem.cut.vars' lays the variable. In a bare row this is a premise. The card (YtohkgjggamabmaaDoorCards.lean) ties it to the program's text. -/
def laid_ragpicker_words_fields {H : Type} : DataW H := .agg [.agg [.lit (.int .u64 0), .lit (.int .u64 16)], .agg [.lit (.int .u64 16), .lit (.int .u64 32)], .agg [.lit (.int .u64 16), .lit (.int .u64 48)], .agg [.lit (.int .u64 0), .lit (.int .u64 3)], .agg [.lit (.int .u64 3), .lit (.int .u64 32)], .agg [.lit (.int .u64 0), .lit (.int .u64 3)], .agg [.lit (.int .u64 3), .lit (.int .u64 3)], .agg [.lit (.int .u64 6), .lit (.int .u64 3)], .agg [.lit (.int .u64 16), .lit (.int .u64 48)], .agg [.lit (.int .u64 0), .lit (.int .u64 32)], .agg [.lit (.int .u64 32), .lit (.int .u64 1)]]
def laid_ragpicker_segs_turns {H : Type} : DataW H := .agg [.agg [.lit (.int .u64 0), .lit (.int .u64 1)], .agg [.lit (.int .u64 1), .lit (.int .u64 2)], .agg [.lit (.int .u64 2), .lit (.int .u64 1)], .agg [.lit (.int .u64 2), .lit (.int .u64 0)]]

/-- 'ragpickerlaw06.SegsTurns': WHATEVER THE INPUT: true; the input reads as it did. -/
def segsTurnsSpec : ChangeSpec := { name := "segsTurns", fn := fun _ => fun
  | [d1, d2, d3] => { results := [.lit (.bool true)], args := [d1, d2, d3] }
  | _ => none }
def segsTurnsRow : OpenClaim := { program := "ytohkgjggamabmaadoor", sum := "bcca393df342eb0381b4707a609127697a70f23dbfcf3d54fb34fc7d5b01ac84", func := "ragpicker/ragpickerlaw06.SegsTurns", spec := "segsTurns", named := ["ragpicker/segs.turns", "ragpicker/words.fields"], apart := false, laid := [("ragpicker/words.fields", laid_ragpicker_words_fields), ("ragpicker/segs.turns", laid_ragpicker_segs_turns)] }
def SegsTurnsSaid : Prop := segsTurnsRow.holds Tryd.pinned (OpenSpec.ofChange segsTurnsSpec)

/-- ITS FALSE NEIGHBOUR: 'it returns false'. Refute it at one input. -/
def segsTurnsWrong : ChangeSpec := { name := "segsTurns", fn := fun _ => fun
  | [d1, d2, d3] => { results := [.lit (.bool false)], args := [d1, d2, d3] }
  | _ => none }
def SegsTurnsWrongFalsely : Prop := segsTurnsRow.holds Tryd.pinned (OpenSpec.ofChange segsTurnsWrong)

/-- 'ragpickerlaw06.SegsCount': WHATEVER THE INPUT: true; the input reads as it did. -/
def segsCountSpec : ChangeSpec := { name := "segsCount", fn := fun _ => fun
  | [d1, d2] => { results := [.lit (.bool true)], args := [d1, d2] }
  | _ => none }
def segsCountRow : OpenClaim := { program := "ytohkgjggamabmaadoor", sum := "bcca393df342eb0381b4707a609127697a70f23dbfcf3d54fb34fc7d5b01ac84", func := "ragpicker/ragpickerlaw06.SegsCount", spec := "segsCount", named := ["ragpicker/words.fields", "ragpicker/segs.turns"], apart := false, laid := [("ragpicker/words.fields", laid_ragpicker_words_fields), ("ragpicker/segs.turns", laid_ragpicker_segs_turns)] }
def SegsCountSaid : Prop := segsCountRow.holds Tryd.pinned (OpenSpec.ofChange segsCountSpec)

/-- ITS FALSE NEIGHBOUR: 'it returns false'. Refute it at one input. -/
def segsCountWrong : ChangeSpec := { name := "segsCount", fn := fun _ => fun
  | [d1, d2] => { results := [.lit (.bool false)], args := [d1, d2] }
  | _ => none }
def SegsCountWrongFalsely : Prop := segsCountRow.holds Tryd.pinned (OpenSpec.ofChange segsCountWrong)

/-- 'ragpickerlaw06.SegsLife': WHATEVER THE INPUT: true; the input reads as it did. -/
def segsLifeSpec : ChangeSpec := { name := "segsLife", fn := fun _ => fun
  | [d1, d2] => { results := [.lit (.bool true)], args := [d1, d2] }
  | _ => none }
def segsLifeRow : OpenClaim := { program := "ytohkgjggamabmaadoor", sum := "bcca393df342eb0381b4707a609127697a70f23dbfcf3d54fb34fc7d5b01ac84", func := "ragpicker/ragpickerlaw06.SegsLife", spec := "segsLife", named := ["ragpicker/words.fields", "ragpicker/segs.turns"], apart := false, laid := [("ragpicker/words.fields", laid_ragpicker_words_fields), ("ragpicker/segs.turns", laid_ragpicker_segs_turns)] }
def SegsLifeSaid : Prop := segsLifeRow.holds Tryd.pinned (OpenSpec.ofChange segsLifeSpec)

/-- ITS FALSE NEIGHBOUR: 'it returns false'. Refute it at one input. -/
def segsLifeWrong : ChangeSpec := { name := "segsLife", fn := fun _ => fun
  | [d1, d2] => { results := [.lit (.bool false)], args := [d1, d2] }
  | _ => none }
def SegsLifeWrongFalsely : Prop := segsLifeRow.holds Tryd.pinned (OpenSpec.ofChange segsLifeWrong)

/-- 'ragpickerlaw06.SegsSum': WHATEVER THE INPUT: true; the input reads as it did. -/
def segsSumSpec : ChangeSpec := { name := "segsSum", fn := fun _ => fun
  | [d] => { results := [.lit (.bool true)], args := [d] }
  | _ => none }
def segsSumRow : OpenClaim := { program := "ytohkgjggamabmaadoor", sum := "bcca393df342eb0381b4707a609127697a70f23dbfcf3d54fb34fc7d5b01ac84", func := "ragpicker/ragpickerlaw06.SegsSum", spec := "segsSum", named := ["ragpicker/words.fields", "ragpicker/segs.turns"], apart := false, laid := [("ragpicker/words.fields", laid_ragpicker_words_fields), ("ragpicker/segs.turns", laid_ragpicker_segs_turns)] }
def SegsSumSaid : Prop := segsSumRow.holds Tryd.pinned (OpenSpec.ofChange segsSumSpec)

/-- ITS FALSE NEIGHBOUR: 'it returns false'. Refute it at one input. -/
def segsSumWrong : ChangeSpec := { name := "segsSum", fn := fun _ => fun
  | [d] => { results := [.lit (.bool false)], args := [d] }
  | _ => none }
def SegsSumWrongFalsely : Prop := segsSumRow.holds Tryd.pinned (OpenSpec.ofChange segsSumWrong)

/-- 'ragpickerlaw06.SegsOf': WHATEVER THE INPUT: true; the input reads as it did. -/
def segsOfSpec : ChangeSpec := { name := "segsOf", fn := fun _ => fun
  | [d1, d2] => { results := [.lit (.bool true)], args := [d1, d2] }
  | _ => none }
def segsOfRow : OpenClaim := { program := "ytohkgjggamabmaadoor", sum := "bcca393df342eb0381b4707a609127697a70f23dbfcf3d54fb34fc7d5b01ac84", func := "ragpicker/ragpickerlaw06.SegsOf", spec := "segsOf", named := ["ragpicker/words.fields", "ragpicker/segs.turns"], apart := false, laid := [("ragpicker/words.fields", laid_ragpicker_words_fields), ("ragpicker/segs.turns", laid_ragpicker_segs_turns)] }
def SegsOfSaid : Prop := segsOfRow.holds Tryd.pinned (OpenSpec.ofChange segsOfSpec)

/-- ITS FALSE NEIGHBOUR: 'it returns false'. Refute it at one input. -/
def segsOfWrong : ChangeSpec := { name := "segsOf", fn := fun _ => fun
  | [d1, d2] => { results := [.lit (.bool false)], args := [d1, d2] }
  | _ => none }
def SegsOfWrongFalsely : Prop := segsOfRow.holds Tryd.pinned (OpenSpec.ofChange segsOfWrong)

/-- 'ragpickerlaw06.SegsAll': WHATEVER THE INPUT: true; the input reads as it did. -/
def segsAllSpec : ChangeSpec := { name := "segsAll", fn := fun _ => fun
  | [d1, d2, d3] => { results := [.lit (.bool true)], args := [d1, d2, d3] }
  | _ => none }
def segsAllRow : OpenClaim := { program := "ytohkgjggamabmaadoor", sum := "bcca393df342eb0381b4707a609127697a70f23dbfcf3d54fb34fc7d5b01ac84", func := "ragpicker/ragpickerlaw06.SegsAll", spec := "segsAll", named := ["ragpicker/words.fields", "ragpicker/segs.turns"], apart := false, laid := [("ragpicker/words.fields", laid_ragpicker_words_fields), ("ragpicker/segs.turns", laid_ragpicker_segs_turns)] }
def SegsAllSaid : Prop := segsAllRow.holds Tryd.pinned (OpenSpec.ofChange segsAllSpec)

/-- ITS FALSE NEIGHBOUR: 'it returns false'. Refute it at one input. -/
def segsAllWrong : ChangeSpec := { name := "segsAll", fn := fun _ => fun
  | [d1, d2, d3] => { results := [.lit (.bool false)], args := [d1, d2, d3] }
  | _ => none }
def SegsAllWrongFalsely : Prop := segsAllRow.holds Tryd.pinned (OpenSpec.ofChange segsAllWrong)

/- THE SECOND FORM. 'bulk': how many values and letters a reading holds, each counted each time it is reached (what is shared counts as often as it is met; a slice's spare places count too). A statement '..UptoSaid' is the law's where the arguments, and the package variables that the reading takes, are together of bulk at most 1048576: NARROWER than '..Said'. Prove '..Said' where nothing that the law and all that it calls make is longer than what came in: it says more and counts as full. Else prove '..UptoSaid'. A law counts once. -/
mutual
def uptoBulk {H : Type} : DataW H → Nat
  | .lit (.string bytes) => bytes.length + 1
  | .lit _ => 1
  | .nil => 1
  | .ptr d => uptoBulk d + 1
  | .slice elems spare => uptoBulkAll elems + uptoBulkAll spare + 1
  | .agg parts => uptoBulkAll parts + 1
  | .iface _ d => uptoBulk d + 1
  | .map entries => uptoBulkEntries entries + 1
  | .held _ => 1
def uptoBulkAll {H : Type} : List (DataW H) → Nat
  | [] => 0
  | d :: r => uptoBulk d + uptoBulkAll r
def uptoBulkEntries {H : Type} : List (Lit × DataW H) → Nat
  | [] => 0
  | x :: r => uptoBulkEntry x + uptoBulkEntries r
def uptoBulkEntry {H : Type} : Lit × DataW H → Nat
  | (.string bytes, d) => bytes.length + uptoBulk d + 1
  | (_, d) => uptoBulk d + 1
 end
def uptoSmall : (H : Type) → List (DataW H) → Bool := fun _ ds => decide (uptoBulkAll ds ≤ 1048576)
def OpenSpec.upto (s : _root_.Go.ChangeSpec) : _root_.Go.OpenSpec := { _root_.Go.OpenSpec.ofChange s with cond := some uptoSmall }

/-- 'ragpickerlaw06.SegsTurns', WHERE WHAT IT READS IS OF BULK AT MOST 1048576: true; the input reads as it did. -/
def segsTurnsUptoRow : OpenClaim := { program := "ytohkgjggamabmaadoor", sum := "bcca393df342eb0381b4707a609127697a70f23dbfcf3d54fb34fc7d5b01ac84", func := "ragpicker/ragpickerlaw06.SegsTurns", spec := "segsTurns", named := ["ragpicker/segs.turns", "ragpicker/words.fields"], apart := false, laid := [("ragpicker/words.fields", laid_ragpicker_words_fields), ("ragpicker/segs.turns", laid_ragpicker_segs_turns)], narrowed := true }
def SegsTurnsUptoSaid : Prop := segsTurnsUptoRow.holds Tryd.pinned (OpenSpec.upto segsTurnsSpec)

/-- 'ragpickerlaw06.SegsCount', WHERE WHAT IT READS IS OF BULK AT MOST 1048576: true; the input reads as it did. -/
def segsCountUptoRow : OpenClaim := { program := "ytohkgjggamabmaadoor", sum := "bcca393df342eb0381b4707a609127697a70f23dbfcf3d54fb34fc7d5b01ac84", func := "ragpicker/ragpickerlaw06.SegsCount", spec := "segsCount", named := ["ragpicker/words.fields", "ragpicker/segs.turns"], apart := false, laid := [("ragpicker/words.fields", laid_ragpicker_words_fields), ("ragpicker/segs.turns", laid_ragpicker_segs_turns)], narrowed := true }
def SegsCountUptoSaid : Prop := segsCountUptoRow.holds Tryd.pinned (OpenSpec.upto segsCountSpec)

/-- 'ragpickerlaw06.SegsLife', WHERE WHAT IT READS IS OF BULK AT MOST 1048576: true; the input reads as it did. -/
def segsLifeUptoRow : OpenClaim := { program := "ytohkgjggamabmaadoor", sum := "bcca393df342eb0381b4707a609127697a70f23dbfcf3d54fb34fc7d5b01ac84", func := "ragpicker/ragpickerlaw06.SegsLife", spec := "segsLife", named := ["ragpicker/words.fields", "ragpicker/segs.turns"], apart := false, laid := [("ragpicker/words.fields", laid_ragpicker_words_fields), ("ragpicker/segs.turns", laid_ragpicker_segs_turns)], narrowed := true }
def SegsLifeUptoSaid : Prop := segsLifeUptoRow.holds Tryd.pinned (OpenSpec.upto segsLifeSpec)

/-- 'ragpickerlaw06.SegsSum', WHERE WHAT IT READS IS OF BULK AT MOST 1048576: true; the input reads as it did. -/
def segsSumUptoRow : OpenClaim := { program := "ytohkgjggamabmaadoor", sum := "bcca393df342eb0381b4707a609127697a70f23dbfcf3d54fb34fc7d5b01ac84", func := "ragpicker/ragpickerlaw06.SegsSum", spec := "segsSum", named := ["ragpicker/words.fields", "ragpicker/segs.turns"], apart := false, laid := [("ragpicker/words.fields", laid_ragpicker_words_fields), ("ragpicker/segs.turns", laid_ragpicker_segs_turns)], narrowed := true }
def SegsSumUptoSaid : Prop := segsSumUptoRow.holds Tryd.pinned (OpenSpec.upto segsSumSpec)

/-- 'ragpickerlaw06.SegsOf', WHERE WHAT IT READS IS OF BULK AT MOST 1048576: true; the input reads as it did. -/
def segsOfUptoRow : OpenClaim := { program := "ytohkgjggamabmaadoor", sum := "bcca393df342eb0381b4707a609127697a70f23dbfcf3d54fb34fc7d5b01ac84", func := "ragpicker/ragpickerlaw06.SegsOf", spec := "segsOf", named := ["ragpicker/words.fields", "ragpicker/segs.turns"], apart := false, laid := [("ragpicker/words.fields", laid_ragpicker_words_fields), ("ragpicker/segs.turns", laid_ragpicker_segs_turns)], narrowed := true }
def SegsOfUptoSaid : Prop := segsOfUptoRow.holds Tryd.pinned (OpenSpec.upto segsOfSpec)

/-- 'ragpickerlaw06.SegsAll', WHERE WHAT IT READS IS OF BULK AT MOST 1048576: true; the input reads as it did. -/
def segsAllUptoRow : OpenClaim := { program := "ytohkgjggamabmaadoor", sum := "bcca393df342eb0381b4707a609127697a70f23dbfcf3d54fb34fc7d5b01ac84", func := "ragpicker/ragpickerlaw06.SegsAll", spec := "segsAll", named := ["ragpicker/words.fields", "ragpicker/segs.turns"], apart := false, laid := [("ragpicker/words.fields", laid_ragpicker_words_fields), ("ragpicker/segs.turns", laid_ragpicker_segs_turns)], narrowed := true }
def SegsAllUptoSaid : Prop := segsAllUptoRow.holds Tryd.pinned (OpenSpec.upto segsAllSpec)

end Rows
end Go.Proofs.YtohkgjggamabmaaDoor
