/-
  NARROWER THAN 'FOR EVERY INPUT', by the rows' own cells (each row's printed sentence says how): ScriptsParse: laid · ScriptsWrite: laid · ScriptsCover: laid · ScriptsBack: laid · ScriptsJoin: laid.
  DERIVED. THE GIVEN ROWS OF THIS SEAT. 5 by the template 'for every input the law returns true; each argument reads behind the call as it read before'; 0 by the template 'total and deterministic' (their statements: YtkcdgoohchkkaaaDoorTotals.lean).
  GIVEN WITH THE SEED: the statements are not yours to turn. If you find one false, say at which input.
  Laid BY PROGRAM, IN A SANDBOX (cutbox-rows.mjs): the forced cells as the released guide's own fill.sh prints them over the translation 224c5865a83e8771… (all of the seat's roots in one cut). By AI agents, Wed Nov 11 2026. No macro, syntax, notation, axiom, sorry.
-/
import Derived.Test.YtkcdgoohchkkaaaDoorChecked
import GoSem.Claim
import GoSem.ClaimJoined
import GoSem.ClaimMapViews
import Derived.JoinedTies
import Derived.KernelRfl
namespace Go.Proofs.YtkcdgoohchkkaaaDoor
/- THE CELL 'sum', in the pinned program and in every row, IS THE sha256 OF THE DUMP (.gsa) THAT YtkcdgoohchkkaaaDoorProg.lean LOADS. Nothing in Lean hashes anything: it is a label: what it is worth is what the hold of that sum in a sandbox is worth. -/
noncomputable def Tryd.pinned : Pinned := { name := "ytkcdgoohchkkaaadoor", sum := "224c5865a83e87713743cfc26cb385429d96437b5fa3d08368b9343af5cda2c8", checked := Tryd.checked }
namespace Rows
def none {H : Type} : Left H := { results := [], args := [] }

/- WHAT THE LISTED PACKAGE-LEVEL VARIABLES READ AS WHEN THE CALL BEGINS. Each datum BY PROGRAM (the guide's laid-datum.mjs) off the statement by which the dump's own 'gosem.cut.vars' lays the variable. In a bare row this is a premise. The card (YtkcdgoohchkkaaaDoorCards.lean) ties it to the program's text. -/
def laid_ragpicker_scripts_more {H : Type} : DataW H := .agg [.lit (.int .i64 0), .lit (.int .i64 0), .lit (.int .i64 0), .lit (.int .i64 1), .lit (.int .i64 1), .lit (.int .i64 1), .lit (.int .i64 1), .lit (.int .i64 0), .lit (.int .i64 0), .lit (.int .i64 4)]

/-- 'ragpickerlaw03.ScriptsParse': WHATEVER THE INPUT: true; the input reads as it did. -/
def scriptsParseSpec : ChangeSpec := { name := "scriptsParse", fn := fun _ => fun
  | [d1, d2] => { results := [.lit (.bool true)], args := [d1, d2] }
  | _ => none }
def scriptsParseRow : OpenClaim := { program := "ytkcdgoohchkkaaadoor", sum := "224c5865a83e87713743cfc26cb385429d96437b5fa3d08368b9343af5cda2c8", func := "ragpicker/ragpickerlaw03.ScriptsParse", spec := "scriptsParse", unfollowed := true, recurses := true, named := ["ragpicker/scripts.more"], apart := false, laid := [("ragpicker/scripts.more", laid_ragpicker_scripts_more)] }
def ScriptsParseSaid : Prop := scriptsParseRow.holds Tryd.pinned (OpenSpec.ofChange scriptsParseSpec)

/-- ITS FALSE NEIGHBOUR: 'it returns false'. Refute it at one input. -/
def scriptsParseWrong : ChangeSpec := { name := "scriptsParse", fn := fun _ => fun
  | [d1, d2] => { results := [.lit (.bool false)], args := [d1, d2] }
  | _ => none }
def ScriptsParseWrongFalsely : Prop := scriptsParseRow.holds Tryd.pinned (OpenSpec.ofChange scriptsParseWrong)

/-- 'ragpickerlaw03.ScriptsWrite': WHATEVER THE INPUT: true; the input reads as it did. -/
def scriptsWriteSpec : ChangeSpec := { name := "scriptsWrite", fn := fun _ => fun
  | [d] => { results := [.lit (.bool true)], args := [d] }
  | _ => none }
def scriptsWriteRow : OpenClaim := { program := "ytkcdgoohchkkaaadoor", sum := "224c5865a83e87713743cfc26cb385429d96437b5fa3d08368b9343af5cda2c8", func := "ragpicker/ragpickerlaw03.ScriptsWrite", spec := "scriptsWrite", unfollowed := true, recurses := true, named := ["ragpicker/scripts.more"], apart := false, laid := [("ragpicker/scripts.more", laid_ragpicker_scripts_more)] }
def ScriptsWriteSaid : Prop := scriptsWriteRow.holds Tryd.pinned (OpenSpec.ofChange scriptsWriteSpec)

/-- ITS FALSE NEIGHBOUR: 'it returns false'. Refute it at one input. -/
def scriptsWriteWrong : ChangeSpec := { name := "scriptsWrite", fn := fun _ => fun
  | [d] => { results := [.lit (.bool false)], args := [d] }
  | _ => none }
def ScriptsWriteWrongFalsely : Prop := scriptsWriteRow.holds Tryd.pinned (OpenSpec.ofChange scriptsWriteWrong)

/-- 'ragpickerlaw03.ScriptsCover': WHATEVER THE INPUT: true; the input reads as it did. -/
def scriptsCoverSpec : ChangeSpec := { name := "scriptsCover", fn := fun _ => fun
  | [d1, d2] => { results := [.lit (.bool true)], args := [d1, d2] }
  | _ => none }
def scriptsCoverRow : OpenClaim := { program := "ytkcdgoohchkkaaadoor", sum := "224c5865a83e87713743cfc26cb385429d96437b5fa3d08368b9343af5cda2c8", func := "ragpicker/ragpickerlaw03.ScriptsCover", spec := "scriptsCover", unfollowed := true, recurses := true, named := ["ragpicker/scripts.more"], apart := false, laid := [("ragpicker/scripts.more", laid_ragpicker_scripts_more)] }
def ScriptsCoverSaid : Prop := scriptsCoverRow.holds Tryd.pinned (OpenSpec.ofChange scriptsCoverSpec)

/-- ITS FALSE NEIGHBOUR: 'it returns false'. Refute it at one input. -/
def scriptsCoverWrong : ChangeSpec := { name := "scriptsCover", fn := fun _ => fun
  | [d1, d2] => { results := [.lit (.bool false)], args := [d1, d2] }
  | _ => none }
def ScriptsCoverWrongFalsely : Prop := scriptsCoverRow.holds Tryd.pinned (OpenSpec.ofChange scriptsCoverWrong)

/-- 'ragpickerlaw03.ScriptsBack': WHATEVER THE INPUT: true; the input reads as it did. -/
def scriptsBackSpec : ChangeSpec := { name := "scriptsBack", fn := fun _ => fun
  | [d] => { results := [.lit (.bool true)], args := [d] }
  | _ => none }
def scriptsBackRow : OpenClaim := { program := "ytkcdgoohchkkaaadoor", sum := "224c5865a83e87713743cfc26cb385429d96437b5fa3d08368b9343af5cda2c8", func := "ragpicker/ragpickerlaw03.ScriptsBack", spec := "scriptsBack", unfollowed := true, recurses := true, named := ["ragpicker/scripts.more"], apart := false, laid := [("ragpicker/scripts.more", laid_ragpicker_scripts_more)] }
def ScriptsBackSaid : Prop := scriptsBackRow.holds Tryd.pinned (OpenSpec.ofChange scriptsBackSpec)

/-- ITS FALSE NEIGHBOUR: 'it returns false'. Refute it at one input. -/
def scriptsBackWrong : ChangeSpec := { name := "scriptsBack", fn := fun _ => fun
  | [d] => { results := [.lit (.bool false)], args := [d] }
  | _ => none }
def ScriptsBackWrongFalsely : Prop := scriptsBackRow.holds Tryd.pinned (OpenSpec.ofChange scriptsBackWrong)

/-- 'ragpickerlaw03.ScriptsJoin': WHATEVER THE INPUT: true; the input reads as it did. -/
def scriptsJoinSpec : ChangeSpec := { name := "scriptsJoin", fn := fun _ => fun
  | [d1, d2] => { results := [.lit (.bool true)], args := [d1, d2] }
  | _ => none }
def scriptsJoinRow : OpenClaim := { program := "ytkcdgoohchkkaaadoor", sum := "224c5865a83e87713743cfc26cb385429d96437b5fa3d08368b9343af5cda2c8", func := "ragpicker/ragpickerlaw03.ScriptsJoin", spec := "scriptsJoin", unfollowed := true, recurses := true, named := ["ragpicker/scripts.more"], apart := false, laid := [("ragpicker/scripts.more", laid_ragpicker_scripts_more)] }
def ScriptsJoinSaid : Prop := scriptsJoinRow.holds Tryd.pinned (OpenSpec.ofChange scriptsJoinSpec)

/-- ITS FALSE NEIGHBOUR: 'it returns false'. Refute it at one input. -/
def scriptsJoinWrong : ChangeSpec := { name := "scriptsJoin", fn := fun _ => fun
  | [d1, d2] => { results := [.lit (.bool false)], args := [d1, d2] }
  | _ => none }
def ScriptsJoinWrongFalsely : Prop := scriptsJoinRow.holds Tryd.pinned (OpenSpec.ofChange scriptsJoinWrong)

/- THE SECOND FORM. 'bulk': how many values and letters a reading holds, each counted each time it is reached (what is shared counts as often as it is met; a slice's spare places count too). A statement '..UptoSaid' is the law's where the arguments, and the package variables that the reading takes, are together of bulk at most 1048576: NARROWER than '..Said'. Prove '..Said' where nothing that the law and all that it calls make is longer than what came in: it says more and counts as full. Else prove '..UptoSaid'. A law counts once. -/
mutual
def uptoBulk {H : Type} : DataW H → Nat
  | .lit (.string bytes) => bytes.length + 1
  | .lit _ => 1
  | .nil => 1
  | .ptr d => uptoBulk d + 1
  | .slice elems spare => uptoBulkAll elems + uptoBulkAll spare + 1
  | .agg parts => uptoBulkAll parts + 1
  | .iface _ d => uptoBulk d + 1
  | .map entries => uptoBulkEntries entries + 1
  | .held _ => 1
def uptoBulkAll {H : Type} : List (DataW H) → Nat
  | [] => 0
  | d :: r => uptoBulk d + uptoBulkAll r
def uptoBulkEntries {H : Type} : List (Lit × DataW H) → Nat
  | [] => 0
  | x :: r => uptoBulkEntry x + uptoBulkEntries r
def uptoBulkEntry {H : Type} : Lit × DataW H → Nat
  | (.string bytes, d) => bytes.length + uptoBulk d + 1
  | (_, d) => uptoBulk d + 1
 end
def uptoSmall : (H : Type) → List (DataW H) → Bool := fun _ ds => decide (uptoBulkAll ds ≤ 1048576)
def OpenSpec.upto (s : _root_.Go.ChangeSpec) : _root_.Go.OpenSpec := { _root_.Go.OpenSpec.ofChange s with cond := some uptoSmall }

/-- 'ragpickerlaw03.ScriptsParse', WHERE WHAT IT READS IS OF BULK AT MOST 1048576: true; the input reads as it did. -/
def scriptsParseUptoRow : OpenClaim := { program := "ytkcdgoohchkkaaadoor", sum := "224c5865a83e87713743cfc26cb385429d96437b5fa3d08368b9343af5cda2c8", func := "ragpicker/ragpickerlaw03.ScriptsParse", spec := "scriptsParse", unfollowed := true, recurses := true, named := ["ragpicker/scripts.more"], apart := false, laid := [("ragpicker/scripts.more", laid_ragpicker_scripts_more)], narrowed := true }
def ScriptsParseUptoSaid : Prop := scriptsParseUptoRow.holds Tryd.pinned (OpenSpec.upto scriptsParseSpec)

/-- 'ragpickerlaw03.ScriptsWrite', WHERE WHAT IT READS IS OF BULK AT MOST 1048576: true; the input reads as it did. -/
def scriptsWriteUptoRow : OpenClaim := { program := "ytkcdgoohchkkaaadoor", sum := "224c5865a83e87713743cfc26cb385429d96437b5fa3d08368b9343af5cda2c8", func := "ragpicker/ragpickerlaw03.ScriptsWrite", spec := "scriptsWrite", unfollowed := true, recurses := true, named := ["ragpicker/scripts.more"], apart := false, laid := [("ragpicker/scripts.more", laid_ragpicker_scripts_more)], narrowed := true }
def ScriptsWriteUptoSaid : Prop := scriptsWriteUptoRow.holds Tryd.pinned (OpenSpec.upto scriptsWriteSpec)

/-- 'ragpickerlaw03.ScriptsCover', WHERE WHAT IT READS IS OF BULK AT MOST 1048576: true; the input reads as it did. -/
def scriptsCoverUptoRow : OpenClaim := { program := "ytkcdgoohchkkaaadoor", sum := "224c5865a83e87713743cfc26cb385429d96437b5fa3d08368b9343af5cda2c8", func := "ragpicker/ragpickerlaw03.ScriptsCover", spec := "scriptsCover", unfollowed := true, recurses := true, named := ["ragpicker/scripts.more"], apart := false, laid := [("ragpicker/scripts.more", laid_ragpicker_scripts_more)], narrowed := true }
def ScriptsCoverUptoSaid : Prop := scriptsCoverUptoRow.holds Tryd.pinned (OpenSpec.upto scriptsCoverSpec)

/-- 'ragpickerlaw03.ScriptsBack', WHERE WHAT IT READS IS OF BULK AT MOST 1048576: true; the input reads as it did. -/
def scriptsBackUptoRow : OpenClaim := { program := "ytkcdgoohchkkaaadoor", sum := "224c5865a83e87713743cfc26cb385429d96437b5fa3d08368b9343af5cda2c8", func := "ragpicker/ragpickerlaw03.ScriptsBack", spec := "scriptsBack", unfollowed := true, recurses := true, named := ["ragpicker/scripts.more"], apart := false, laid := [("ragpicker/scripts.more", laid_ragpicker_scripts_more)], narrowed := true }
def ScriptsBackUptoSaid : Prop := scriptsBackUptoRow.holds Tryd.pinned (OpenSpec.upto scriptsBackSpec)

/-- 'ragpickerlaw03.ScriptsJoin', WHERE WHAT IT READS IS OF BULK AT MOST 1048576: true; the input reads as it did. -/
def scriptsJoinUptoRow : OpenClaim := { program := "ytkcdgoohchkkaaadoor", sum := "224c5865a83e87713743cfc26cb385429d96437b5fa3d08368b9343af5cda2c8", func := "ragpicker/ragpickerlaw03.ScriptsJoin", spec := "scriptsJoin", unfollowed := true, recurses := true, named := ["ragpicker/scripts.more"], apart := false, laid := [("ragpicker/scripts.more", laid_ragpicker_scripts_more)], narrowed := true }
def ScriptsJoinUptoSaid : Prop := scriptsJoinUptoRow.holds Tryd.pinned (OpenSpec.upto scriptsJoinSpec)

end Rows
end Go.Proofs.YtkcdgoohchkkaaaDoor
