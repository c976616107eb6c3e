/-
  NARROWER THAN 'FOR EVERY INPUT', by the rows' own cells (each row's printed sentence says how): AdmitsOpen: laid · AdmitsKeep: laid · AdmitsNames: laid.
  DERIVED. THE GIVEN ROWS OF THIS SEAT. 3 by the template 'for every input the law returns true; each argument reads behind the call as it read before'; 0 by the template 'total and deterministic' (their statements: YthjkcboepmgbnaaDoorTotals.lean).
  GIVEN WITH THE SEED: the statements are not yours to turn. If you find one false, say at which input.
  Laid BY PROGRAM, IN A SANDBOX (cutbox-rows.mjs): the forced cells as the released guide's own fill.sh prints them over the translation 7d938ab1576c0ff0… (all of the seat's roots in one cut). By AI agents, Wed Nov 11 2026. No macro, syntax, notation, axiom, sorry.
-/
import Derived.Test.YthjkcboepmgbnaaDoorChecked
import GoSem.Claim
import GoSem.ClaimJoined
import GoSem.ClaimMapViews
import Derived.JoinedTies
import Derived.KernelRfl
namespace Go.Proofs.YthjkcboepmgbnaaDoor
/- THE CELL 'sum', in the pinned program and in every row, IS THE sha256 OF THE DUMP (.gsa) THAT YthjkcboepmgbnaaDoorProg.lean LOADS. Nothing in Lean hashes anything: it is a label: what it is worth is what the hold of that sum in a sandbox is worth. -/
noncomputable def Tryd.pinned : Pinned := { name := "ythjkcboepmgbnaadoor", sum := "7d938ab1576c0ff0c7b5e2a12528e2d5932672b00354397dc6ae09bcb317bf2a", checked := Tryd.checked }
namespace Rows
def none {H : Type} : Left H := { results := [], args := [] }

/- WHAT THE LISTED PACKAGE-LEVEL VARIABLES READ AS WHEN THE CALL BEGINS. Each datum BY PROGRAM (the guide's laid-datum.mjs) off the statement by which the dump's own 'gosem.cut.vars' lays the variable. In a bare row this is a premise. The card (YthjkcboepmgbnaaDoorCards.lean) ties it to the program's text. -/
def laid_ragpicker_admits_names {H : Type} : DataW H := .agg [.lit (.string [110, 111, 110, 101]), .lit (.string [98, 97, 100]), .lit (.string [98, 117, 115, 121]), .lit (.string [110, 111, 116, 45, 106, 111, 105, 110, 101, 100]), .lit (.string [117, 110, 100, 101, 114]), .lit (.string [102, 117, 108, 108]), .lit (.string [115, 97, 109, 101]), .lit (.string [112, 104, 97, 115, 101]), .lit (.string [115, 116, 97, 108, 108, 101, 100]), .lit (.string [110, 111, 45, 115, 101, 103, 109, 101, 110, 116]), .lit (.string [108, 97, 115, 116]), .lit (.string [117, 115, 101, 100])]

/-- 'ragpickerlaw24.AdmitsOpen': WHATEVER THE INPUT: true; the input reads as it did. -/
def admitsOpenSpec : ChangeSpec := { name := "admitsOpen", fn := fun _ => fun
  | [d1, d2] => { results := [.lit (.bool true)], args := [d1, d2] }
  | _ => none }
def admitsOpenRow : OpenClaim := { program := "ythjkcboepmgbnaadoor", sum := "7d938ab1576c0ff0c7b5e2a12528e2d5932672b00354397dc6ae09bcb317bf2a", func := "ragpicker/ragpickerlaw24.AdmitsOpen", spec := "admitsOpen", unfollowed := true, recurses := true, named := ["ragpicker/admits.names"], apart := false, laid := [("ragpicker/admits.names", laid_ragpicker_admits_names)] }
def AdmitsOpenSaid : Prop := admitsOpenRow.holds Tryd.pinned (OpenSpec.ofChange admitsOpenSpec)

/-- ITS FALSE NEIGHBOUR: 'it returns false'. Refute it at one input. -/
def admitsOpenWrong : ChangeSpec := { name := "admitsOpen", fn := fun _ => fun
  | [d1, d2] => { results := [.lit (.bool false)], args := [d1, d2] }
  | _ => none }
def AdmitsOpenWrongFalsely : Prop := admitsOpenRow.holds Tryd.pinned (OpenSpec.ofChange admitsOpenWrong)

/-- 'ragpickerlaw24.AdmitsKeep': WHATEVER THE INPUT: true; the input reads as it did. -/
def admitsKeepSpec : ChangeSpec := { name := "admitsKeep", fn := fun _ => fun
  | [d1, d2, d3] => { results := [.lit (.bool true)], args := [d1, d2, d3] }
  | _ => none }
def admitsKeepRow : OpenClaim := { program := "ythjkcboepmgbnaadoor", sum := "7d938ab1576c0ff0c7b5e2a12528e2d5932672b00354397dc6ae09bcb317bf2a", func := "ragpicker/ragpickerlaw24.AdmitsKeep", spec := "admitsKeep", unfollowed := true, recurses := true, named := ["ragpicker/admits.names"], apart := false, laid := [("ragpicker/admits.names", laid_ragpicker_admits_names)] }
def AdmitsKeepSaid : Prop := admitsKeepRow.holds Tryd.pinned (OpenSpec.ofChange admitsKeepSpec)

/-- ITS FALSE NEIGHBOUR: 'it returns false'. Refute it at one input. -/
def admitsKeepWrong : ChangeSpec := { name := "admitsKeep", fn := fun _ => fun
  | [d1, d2, d3] => { results := [.lit (.bool false)], args := [d1, d2, d3] }
  | _ => none }
def AdmitsKeepWrongFalsely : Prop := admitsKeepRow.holds Tryd.pinned (OpenSpec.ofChange admitsKeepWrong)

/-- 'ragpickerlaw24.AdmitsNames': WHATEVER THE INPUT: true; the input reads as it did. -/
def admitsNamesSpec : ChangeSpec := { name := "admitsNames", fn := fun _ => fun
  | [d1, d2] => { results := [.lit (.bool true)], args := [d1, d2] }
  | _ => none }
def admitsNamesRow : OpenClaim := { program := "ythjkcboepmgbnaadoor", sum := "7d938ab1576c0ff0c7b5e2a12528e2d5932672b00354397dc6ae09bcb317bf2a", func := "ragpicker/ragpickerlaw24.AdmitsNames", spec := "admitsNames", unfollowed := true, recurses := true, named := ["ragpicker/admits.names"], apart := false, laid := [("ragpicker/admits.names", laid_ragpicker_admits_names)] }
def AdmitsNamesSaid : Prop := admitsNamesRow.holds Tryd.pinned (OpenSpec.ofChange admitsNamesSpec)

/-- ITS FALSE NEIGHBOUR: 'it returns false'. Refute it at one input. -/
def admitsNamesWrong : ChangeSpec := { name := "admitsNames", fn := fun _ => fun
  | [d1, d2] => { results := [.lit (.bool false)], args := [d1, d2] }
  | _ => none }
def AdmitsNamesWrongFalsely : Prop := admitsNamesRow.holds Tryd.pinned (OpenSpec.ofChange admitsNamesWrong)

/- THE SECOND FORM. 'bulk': how many values and letters a reading holds, each counted each time it is reached (what is shared counts as often as it is met; a slice's spare places count too). A statement '..UptoSaid' is the law's where the arguments, and the package variables that the reading takes, are together of bulk at most 1048576: NARROWER than '..Said'. Prove '..Said' where nothing that the law and all that it calls make is longer than what came in: it says more and counts as full. Else prove '..UptoSaid'. A law counts once. -/
mutual
def uptoBulk {H : Type} : DataW H → Nat
  | .lit (.string bytes) => bytes.length + 1
  | .lit _ => 1
  | .nil => 1
  | .ptr d => uptoBulk d + 1
  | .slice elems spare => uptoBulkAll elems + uptoBulkAll spare + 1
  | .agg parts => uptoBulkAll parts + 1
  | .iface _ d => uptoBulk d + 1
  | .map entries => uptoBulkEntries entries + 1
  | .held _ => 1
def uptoBulkAll {H : Type} : List (DataW H) → Nat
  | [] => 0
  | d :: r => uptoBulk d + uptoBulkAll r
def uptoBulkEntries {H : Type} : List (Lit × DataW H) → Nat
  | [] => 0
  | x :: r => uptoBulkEntry x + uptoBulkEntries r
def uptoBulkEntry {H : Type} : Lit × DataW H → Nat
  | (.string bytes, d) => bytes.length + uptoBulk d + 1
  | (_, d) => uptoBulk d + 1
 end
def uptoSmall : (H : Type) → List (DataW H) → Bool := fun _ ds => decide (uptoBulkAll ds ≤ 1048576)
def OpenSpec.upto (s : _root_.Go.ChangeSpec) : _root_.Go.OpenSpec := { _root_.Go.OpenSpec.ofChange s with cond := some uptoSmall }

/-- 'ragpickerlaw24.AdmitsOpen', WHERE WHAT IT READS IS OF BULK AT MOST 1048576: true; the input reads as it did. -/
def admitsOpenUptoRow : OpenClaim := { program := "ythjkcboepmgbnaadoor", sum := "7d938ab1576c0ff0c7b5e2a12528e2d5932672b00354397dc6ae09bcb317bf2a", func := "ragpicker/ragpickerlaw24.AdmitsOpen", spec := "admitsOpen", unfollowed := true, recurses := true, named := ["ragpicker/admits.names"], apart := false, laid := [("ragpicker/admits.names", laid_ragpicker_admits_names)], narrowed := true }
def AdmitsOpenUptoSaid : Prop := admitsOpenUptoRow.holds Tryd.pinned (OpenSpec.upto admitsOpenSpec)

/-- 'ragpickerlaw24.AdmitsKeep', WHERE WHAT IT READS IS OF BULK AT MOST 1048576: true; the input reads as it did. -/
def admitsKeepUptoRow : OpenClaim := { program := "ythjkcboepmgbnaadoor", sum := "7d938ab1576c0ff0c7b5e2a12528e2d5932672b00354397dc6ae09bcb317bf2a", func := "ragpicker/ragpickerlaw24.AdmitsKeep", spec := "admitsKeep", unfollowed := true, recurses := true, named := ["ragpicker/admits.names"], apart := false, laid := [("ragpicker/admits.names", laid_ragpicker_admits_names)], narrowed := true }
def AdmitsKeepUptoSaid : Prop := admitsKeepUptoRow.holds Tryd.pinned (OpenSpec.upto admitsKeepSpec)

/-- 'ragpickerlaw24.AdmitsNames', WHERE WHAT IT READS IS OF BULK AT MOST 1048576: true; the input reads as it did. -/
def admitsNamesUptoRow : OpenClaim := { program := "ythjkcboepmgbnaadoor", sum := "7d938ab1576c0ff0c7b5e2a12528e2d5932672b00354397dc6ae09bcb317bf2a", func := "ragpicker/ragpickerlaw24.AdmitsNames", spec := "admitsNames", unfollowed := true, recurses := true, named := ["ragpicker/admits.names"], apart := false, laid := [("ragpicker/admits.names", laid_ragpicker_admits_names)], narrowed := true }
def AdmitsNamesUptoSaid : Prop := admitsNamesUptoRow.holds Tryd.pinned (OpenSpec.upto admitsNamesSpec)

end Rows
end Go.Proofs.YthjkcboepmgbnaaDoor
