/-
  NARROWER THAN 'FOR EVERY INPUT', by the rows' own cells (each row's printed sentence says how): PhasesRound: laid · PhasesCover: laid.
  DERIVED. THE GIVEN ROWS OF THIS SEAT. 2 by the template 'for every input the law returns true; each argument reads behind the call as it read before'; 0 by the template 'total and deterministic' (their statements: YtffjllknnnkbhaaDoorTotals.lean).
  GIVEN WITH THE SEED: the statements are not yours to turn. If you find one false, say at which input.
  Laid BY PROGRAM, IN A SANDBOX (cutbox-rows.mjs): the forced cells as the released guide's own fill.sh prints them over the translation 9681d4044c35af58… (all of the seat's roots in one cut). By AI agents, Wed Nov 11 2026. No macro, syntax, notation, axiom, sorry.
-/
import Derived.Test.YtffjllknnnkbhaaDoorChecked
import GoSem.Claim
import GoSem.ClaimJoined
import GoSem.ClaimMapViews
import Derived.JoinedTies
import Derived.KernelRfl
namespace Go.Proofs.YtffjllknnnkbhaaDoor
/- THE CELL 'sum', in the pinned program and in every row, IS THE sha256 OF THE DUMP (.gsa) THAT YtffjllknnnkbhaaDoorProg.lean LOADS. Nothing in Lean hashes anything: it is a label: what it is worth is what the hold of that sum in a sandbox is worth. -/
noncomputable def Tryd.pinned : Pinned := { name := "ytffjllknnnkbhaadoor", sum := "9681d4044c35af5896672d044a7fc625946c75a10c14bef05d16cf9b75c504bf", checked := Tryd.checked }
namespace Rows
def none {H : Type} : Left H := { results := [], args := [] }

/- WHAT THE LISTED PACKAGE-LEVEL VARIABLES READ AS WHEN THE CALL BEGINS. Each datum BY PROGRAM (the guide's laid-datum.mjs) off the statement by which the dump's own 'gosem.cut.vars' lays the variable. In a bare row this is a premise. The card (YtffjllknnnkbhaaDoorCards.lean) ties it to the program's text. -/
def laid_ragpicker_phases_phases {H : Type} : DataW H := .agg [.agg [.lit (.int .u8 1), .lit (.bool false), .lit (.int .u8 0)], .agg [.lit (.int .u8 3), .lit (.bool true), .lit (.int .u8 2)], .agg [.lit (.int .u8 3), .lit (.bool false), .lit (.int .u8 3)], .agg [.lit (.int .u8 2), .lit (.bool true), .lit (.int .u8 0)]]

/-- 'ragpickerlaw19.PhasesRound': WHATEVER THE INPUT: true; the input reads as it did. -/
def phasesRoundSpec : ChangeSpec := { name := "phasesRound", fn := fun _ => fun
  | [d1, d2, d3] => { results := [.lit (.bool true)], args := [d1, d2, d3] }
  | _ => none }
def phasesRoundRow : OpenClaim := { program := "ytffjllknnnkbhaadoor", sum := "9681d4044c35af5896672d044a7fc625946c75a10c14bef05d16cf9b75c504bf", func := "ragpicker/ragpickerlaw19.PhasesRound", spec := "phasesRound", named := ["ragpicker/phases.phases"], apart := false, laid := [("ragpicker/phases.phases", laid_ragpicker_phases_phases)] }
def PhasesRoundSaid : Prop := phasesRoundRow.holds Tryd.pinned (OpenSpec.ofChange phasesRoundSpec)

/-- ITS FALSE NEIGHBOUR: 'it returns false'. Refute it at one input. -/
def phasesRoundWrong : ChangeSpec := { name := "phasesRound", fn := fun _ => fun
  | [d1, d2, d3] => { results := [.lit (.bool false)], args := [d1, d2, d3] }
  | _ => none }
def PhasesRoundWrongFalsely : Prop := phasesRoundRow.holds Tryd.pinned (OpenSpec.ofChange phasesRoundWrong)

/-- 'ragpickerlaw19.PhasesCover': WHATEVER THE INPUT: true; the input reads as it did. -/
def phasesCoverSpec : ChangeSpec := { name := "phasesCover", fn := fun _ => fun
  | [d1, d2] => { results := [.lit (.bool true)], args := [d1, d2] }
  | _ => none }
def phasesCoverRow : OpenClaim := { program := "ytffjllknnnkbhaadoor", sum := "9681d4044c35af5896672d044a7fc625946c75a10c14bef05d16cf9b75c504bf", func := "ragpicker/ragpickerlaw19.PhasesCover", spec := "phasesCover", named := ["ragpicker/phases.phases"], apart := false, laid := [("ragpicker/phases.phases", laid_ragpicker_phases_phases)] }
def PhasesCoverSaid : Prop := phasesCoverRow.holds Tryd.pinned (OpenSpec.ofChange phasesCoverSpec)

/-- ITS FALSE NEIGHBOUR: 'it returns false'. Refute it at one input. -/
def phasesCoverWrong : ChangeSpec := { name := "phasesCover", fn := fun _ => fun
  | [d1, d2] => { results := [.lit (.bool false)], args := [d1, d2] }
  | _ => none }
def PhasesCoverWrongFalsely : Prop := phasesCoverRow.holds Tryd.pinned (OpenSpec.ofChange phasesCoverWrong)

/- THE SECOND FORM. 'bulk': how many values and letters a reading holds, each counted each time it is reached (what is shared counts as often as it is met; a slice's spare places count too). A statement '..UptoSaid' is the law's where the arguments, and the package variables that the reading takes, are together of bulk at most 1048576: NARROWER than '..Said'. Prove '..Said' where nothing that the law and all that it calls make is longer than what came in: it says more and counts as full. Else prove '..UptoSaid'. A law counts once. -/
mutual
def uptoBulk {H : Type} : DataW H → Nat
  | .lit (.string bytes) => bytes.length + 1
  | .lit _ => 1
  | .nil => 1
  | .ptr d => uptoBulk d + 1
  | .slice elems spare => uptoBulkAll elems + uptoBulkAll spare + 1
  | .agg parts => uptoBulkAll parts + 1
  | .iface _ d => uptoBulk d + 1
  | .map entries => uptoBulkEntries entries + 1
  | .held _ => 1
def uptoBulkAll {H : Type} : List (DataW H) → Nat
  | [] => 0
  | d :: r => uptoBulk d + uptoBulkAll r
def uptoBulkEntries {H : Type} : List (Lit × DataW H) → Nat
  | [] => 0
  | x :: r => uptoBulkEntry x + uptoBulkEntries r
def uptoBulkEntry {H : Type} : Lit × DataW H → Nat
  | (.string bytes, d) => bytes.length + uptoBulk d + 1
  | (_, d) => uptoBulk d + 1
 end
def uptoSmall : (H : Type) → List (DataW H) → Bool := fun _ ds => decide (uptoBulkAll ds ≤ 1048576)
def OpenSpec.upto (s : _root_.Go.ChangeSpec) : _root_.Go.OpenSpec := { _root_.Go.OpenSpec.ofChange s with cond := some uptoSmall }

/-- 'ragpickerlaw19.PhasesRound', WHERE WHAT IT READS IS OF BULK AT MOST 1048576: true; the input reads as it did. -/
def phasesRoundUptoRow : OpenClaim := { program := "ytffjllknnnkbhaadoor", sum := "9681d4044c35af5896672d044a7fc625946c75a10c14bef05d16cf9b75c504bf", func := "ragpicker/ragpickerlaw19.PhasesRound", spec := "phasesRound", named := ["ragpicker/phases.phases"], apart := false, laid := [("ragpicker/phases.phases", laid_ragpicker_phases_phases)], narrowed := true }
def PhasesRoundUptoSaid : Prop := phasesRoundUptoRow.holds Tryd.pinned (OpenSpec.upto phasesRoundSpec)

/-- 'ragpickerlaw19.PhasesCover', WHERE WHAT IT READS IS OF BULK AT MOST 1048576: true; the input reads as it did. -/
def phasesCoverUptoRow : OpenClaim := { program := "ytffjllknnnkbhaadoor", sum := "9681d4044c35af5896672d044a7fc625946c75a10c14bef05d16cf9b75c504bf", func := "ragpicker/ragpickerlaw19.PhasesCover", spec := "phasesCover", named := ["ragpicker/phases.phases"], apart := false, laid := [("ragpicker/phases.phases", laid_ragpicker_phases_phases)], narrowed := true }
def PhasesCoverUptoSaid : Prop := phasesCoverUptoRow.holds Tryd.pinned (OpenSpec.upto phasesCoverSpec)

end Rows
end Go.Proofs.YtffjllknnnkbhaaDoor
