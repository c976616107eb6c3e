/-
  No cell of these rows narrows 'for every input' (looked for: loops, veiled, ifaces, maps, wideKeys, modest, calm, conditions, laid).
  DERIVED. THE GIVEN ROWS OF THIS SEAT. 5 by the template 'for every input the law returns true; each argument reads behind the call as it read before'; 0 by the template 'total and deterministic' (their statements: YtebonhbclkdkfaaTotals.lean).
  GIVEN WITH THE SEED: the statements are not yours to turn. If you find one false, say at which input.
  Laid BY PROGRAM, IN A SANDBOX (cutbox-rows.mjs): the forced cells as the released guide's own fill.sh prints them over the translation ca0e2a3900b54507… (all of the seat's roots in one cut). By AI agents, Wed Nov 11 2026. No macro, syntax, notation, axiom, sorry.
-/
import Derived.Test.YtebonhbclkdkfaaChecked
import GoSem.Claim
import GoSem.ClaimJoined
import GoSem.ClaimMapViews
import Derived.JoinedTies
import Derived.KernelRfl
namespace Go.Proofs.Ytebonhbclkdkfaa
/- THE CELL 'sum', in the pinned program and in every row, IS THE sha256 OF THE DUMP (.gsa) THAT YtebonhbclkdkfaaProg.lean LOADS. Nothing in Lean hashes anything: it is a label: what it is worth is what the hold of that sum in a sandbox is worth. -/
noncomputable def Try.pinned : Pinned := { name := "ytebonhbclkdkfaa", sum := "ca0e2a3900b54507c77eff5025a84cc0dec6c42257a5fc97809ce6fb4a8737aa", checked := Try.checked }
namespace Rows
def none {H : Type} : Left H := { results := [], args := [] }

/-- 'ragpickerlaw04.PicksNext': WHATEVER THE INPUT: true; the input reads as it did. -/
def picksNextSpec : ChangeSpec := { name := "picksNext", fn := fun _ => fun
  | [d1, d2, d3] => { results := [.lit (.bool true)], args := [d1, d2, d3] }
  | _ => none }
def picksNextRow : OpenClaim := { program := "ytebonhbclkdkfaa", sum := "ca0e2a3900b54507c77eff5025a84cc0dec6c42257a5fc97809ce6fb4a8737aa", func := "ragpicker/ragpickerlaw04.PicksNext", spec := "picksNext", unfollowed := true, recurses := true, apart := false }
def PicksNextSaid : Prop := picksNextRow.holds Try.pinned (OpenSpec.ofChange picksNextSpec)

/-- ITS FALSE NEIGHBOUR: 'it returns false'. Refute it at one input. -/
def picksNextWrong : ChangeSpec := { name := "picksNext", fn := fun _ => fun
  | [d1, d2, d3] => { results := [.lit (.bool false)], args := [d1, d2, d3] }
  | _ => none }
def PicksNextWrongFalsely : Prop := picksNextRow.holds Try.pinned (OpenSpec.ofChange picksNextWrong)

/-- 'ragpickerlaw04.PicksFair': WHATEVER THE INPUT: true; the input reads as it did. -/
def picksFairSpec : ChangeSpec := { name := "picksFair", fn := fun _ => fun
  | [d1, d2, d3] => { results := [.lit (.bool true)], args := [d1, d2, d3] }
  | _ => none }
def picksFairRow : OpenClaim := { program := "ytebonhbclkdkfaa", sum := "ca0e2a3900b54507c77eff5025a84cc0dec6c42257a5fc97809ce6fb4a8737aa", func := "ragpicker/ragpickerlaw04.PicksFair", spec := "picksFair", unfollowed := true, recurses := true, apart := false }
def PicksFairSaid : Prop := picksFairRow.holds Try.pinned (OpenSpec.ofChange picksFairSpec)

/-- ITS FALSE NEIGHBOUR: 'it returns false'. Refute it at one input. -/
def picksFairWrong : ChangeSpec := { name := "picksFair", fn := fun _ => fun
  | [d1, d2, d3] => { results := [.lit (.bool false)], args := [d1, d2, d3] }
  | _ => none }
def PicksFairWrongFalsely : Prop := picksFairRow.holds Try.pinned (OpenSpec.ofChange picksFairWrong)

/-- 'ragpickerlaw04.PicksTurns': WHATEVER THE INPUT: true; the input reads as it did. -/
def picksTurnsSpec : ChangeSpec := { name := "picksTurns", fn := fun _ => fun
  | [d1, d2, d3] => { results := [.lit (.bool true)], args := [d1, d2, d3] }
  | _ => none }
def picksTurnsRow : OpenClaim := { program := "ytebonhbclkdkfaa", sum := "ca0e2a3900b54507c77eff5025a84cc0dec6c42257a5fc97809ce6fb4a8737aa", func := "ragpicker/ragpickerlaw04.PicksTurns", spec := "picksTurns", unfollowed := true, recurses := true, apart := false }
def PicksTurnsSaid : Prop := picksTurnsRow.holds Try.pinned (OpenSpec.ofChange picksTurnsSpec)

/-- ITS FALSE NEIGHBOUR: 'it returns false'. Refute it at one input. -/
def picksTurnsWrong : ChangeSpec := { name := "picksTurns", fn := fun _ => fun
  | [d1, d2, d3] => { results := [.lit (.bool false)], args := [d1, d2, d3] }
  | _ => none }
def PicksTurnsWrongFalsely : Prop := picksTurnsRow.holds Try.pinned (OpenSpec.ofChange picksTurnsWrong)

/-- 'ragpickerlaw04.PicksAll': WHATEVER THE INPUT: true; the input reads as it did. -/
def picksAllSpec : ChangeSpec := { name := "picksAll", fn := fun _ => fun
  | [d1, d2] => { results := [.lit (.bool true)], args := [d1, d2] }
  | _ => none }
def picksAllRow : OpenClaim := { program := "ytebonhbclkdkfaa", sum := "ca0e2a3900b54507c77eff5025a84cc0dec6c42257a5fc97809ce6fb4a8737aa", func := "ragpicker/ragpickerlaw04.PicksAll", spec := "picksAll", unfollowed := true, recurses := true, apart := false }
def PicksAllSaid : Prop := picksAllRow.holds Try.pinned (OpenSpec.ofChange picksAllSpec)

/-- ITS FALSE NEIGHBOUR: 'it returns false'. Refute it at one input. -/
def picksAllWrong : ChangeSpec := { name := "picksAll", fn := fun _ => fun
  | [d1, d2] => { results := [.lit (.bool false)], args := [d1, d2] }
  | _ => none }
def PicksAllWrongFalsely : Prop := picksAllRow.holds Try.pinned (OpenSpec.ofChange picksAllWrong)

/-- 'ragpickerlaw04.PicksWindow': WHATEVER THE INPUT: true; the input reads as it did. -/
def picksWindowSpec : ChangeSpec := { name := "picksWindow", fn := fun _ => fun
  | [d1, d2, d3] => { results := [.lit (.bool true)], args := [d1, d2, d3] }
  | _ => none }
def picksWindowRow : OpenClaim := { program := "ytebonhbclkdkfaa", sum := "ca0e2a3900b54507c77eff5025a84cc0dec6c42257a5fc97809ce6fb4a8737aa", func := "ragpicker/ragpickerlaw04.PicksWindow", spec := "picksWindow", unfollowed := true, recurses := true, apart := false }
def PicksWindowSaid : Prop := picksWindowRow.holds Try.pinned (OpenSpec.ofChange picksWindowSpec)

/-- ITS FALSE NEIGHBOUR: 'it returns false'. Refute it at one input. -/
def picksWindowWrong : ChangeSpec := { name := "picksWindow", fn := fun _ => fun
  | [d1, d2, d3] => { results := [.lit (.bool false)], args := [d1, d2, d3] }
  | _ => none }
def PicksWindowWrongFalsely : Prop := picksWindowRow.holds Try.pinned (OpenSpec.ofChange picksWindowWrong)

/- THE SECOND FORM. 'bulk': how many values and letters a reading holds, each counted each time it is reached (what is shared counts as often as it is met; a slice's spare places count too). A statement '..UptoSaid' is the law's where the arguments, and the package variables that the reading takes, are together of bulk at most 1048576: NARROWER than '..Said'. Prove '..Said' where nothing that the law and all that it calls make is longer than what came in: it says more and counts as full. Else prove '..UptoSaid'. A law counts once. -/
mutual
def uptoBulk {H : Type} : DataW H → Nat
  | .lit (.string bytes) => bytes.length + 1
  | .lit _ => 1
  | .nil => 1
  | .ptr d => uptoBulk d + 1
  | .slice elems spare => uptoBulkAll elems + uptoBulkAll spare + 1
  | .agg parts => uptoBulkAll parts + 1
  | .iface _ d => uptoBulk d + 1
  | .map entries => uptoBulkEntries entries + 1
  | .held _ => 1
def uptoBulkAll {H : Type} : List (DataW H) → Nat
  | [] => 0
  | d :: r => uptoBulk d + uptoBulkAll r
def uptoBulkEntries {H : Type} : List (Lit × DataW H) → Nat
  | [] => 0
  | x :: r => uptoBulkEntry x + uptoBulkEntries r
def uptoBulkEntry {H : Type} : Lit × DataW H → Nat
  | (.string bytes, d) => bytes.length + uptoBulk d + 1
  | (_, d) => uptoBulk d + 1
 end
def uptoSmall : (H : Type) → List (DataW H) → Bool := fun _ ds => decide (uptoBulkAll ds ≤ 1048576)
def OpenSpec.upto (s : _root_.Go.ChangeSpec) : _root_.Go.OpenSpec := { _root_.Go.OpenSpec.ofChange s with cond := some uptoSmall }

/-- 'ragpickerlaw04.PicksNext', WHERE WHAT IT READS IS OF BULK AT MOST 1048576: true; the input reads as it did. -/
def picksNextUptoRow : OpenClaim := { program := "ytebonhbclkdkfaa", sum := "ca0e2a3900b54507c77eff5025a84cc0dec6c42257a5fc97809ce6fb4a8737aa", func := "ragpicker/ragpickerlaw04.PicksNext", spec := "picksNext", unfollowed := true, recurses := true, apart := false, narrowed := true }
def PicksNextUptoSaid : Prop := picksNextUptoRow.holds Try.pinned (OpenSpec.upto picksNextSpec)

/-- 'ragpickerlaw04.PicksFair', WHERE WHAT IT READS IS OF BULK AT MOST 1048576: true; the input reads as it did. -/
def picksFairUptoRow : OpenClaim := { program := "ytebonhbclkdkfaa", sum := "ca0e2a3900b54507c77eff5025a84cc0dec6c42257a5fc97809ce6fb4a8737aa", func := "ragpicker/ragpickerlaw04.PicksFair", spec := "picksFair", unfollowed := true, recurses := true, apart := false, narrowed := true }
def PicksFairUptoSaid : Prop := picksFairUptoRow.holds Try.pinned (OpenSpec.upto picksFairSpec)

/-- 'ragpickerlaw04.PicksTurns', WHERE WHAT IT READS IS OF BULK AT MOST 1048576: true; the input reads as it did. -/
def picksTurnsUptoRow : OpenClaim := { program := "ytebonhbclkdkfaa", sum := "ca0e2a3900b54507c77eff5025a84cc0dec6c42257a5fc97809ce6fb4a8737aa", func := "ragpicker/ragpickerlaw04.PicksTurns", spec := "picksTurns", unfollowed := true, recurses := true, apart := false, narrowed := true }
def PicksTurnsUptoSaid : Prop := picksTurnsUptoRow.holds Try.pinned (OpenSpec.upto picksTurnsSpec)

/-- 'ragpickerlaw04.PicksAll', WHERE WHAT IT READS IS OF BULK AT MOST 1048576: true; the input reads as it did. -/
def picksAllUptoRow : OpenClaim := { program := "ytebonhbclkdkfaa", sum := "ca0e2a3900b54507c77eff5025a84cc0dec6c42257a5fc97809ce6fb4a8737aa", func := "ragpicker/ragpickerlaw04.PicksAll", spec := "picksAll", unfollowed := true, recurses := true, apart := false, narrowed := true }
def PicksAllUptoSaid : Prop := picksAllUptoRow.holds Try.pinned (OpenSpec.upto picksAllSpec)

/-- 'ragpickerlaw04.PicksWindow', WHERE WHAT IT READS IS OF BULK AT MOST 1048576: true; the input reads as it did. -/
def picksWindowUptoRow : OpenClaim := { program := "ytebonhbclkdkfaa", sum := "ca0e2a3900b54507c77eff5025a84cc0dec6c42257a5fc97809ce6fb4a8737aa", func := "ragpicker/ragpickerlaw04.PicksWindow", spec := "picksWindow", unfollowed := true, recurses := true, apart := false, narrowed := true }
def PicksWindowUptoSaid : Prop := picksWindowUptoRow.holds Try.pinned (OpenSpec.upto picksWindowSpec)

end Rows
end Go.Proofs.Ytebonhbclkdkfaa
