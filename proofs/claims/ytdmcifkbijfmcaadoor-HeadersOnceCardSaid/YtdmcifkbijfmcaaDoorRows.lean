/-
  NARROWER THAN 'FOR EVERY INPUT', by the rows' own cells (each row's printed sentence says how): HeadersOf: laid · HeadersPast: laid · HeadersGrow: laid · HeadersOnce: laid.
  DERIVED. THE GIVEN ROWS OF THIS SEAT. 4 by the template 'for every input the law returns true; each argument reads behind the call as it read before'; 0 by the template 'total and deterministic' (their statements: YtdmcifkbijfmcaaDoorTotals.lean).
  GIVEN WITH THE SEED: the statements are not yours to turn. If you find one false, say at which input.
  Laid BY PROGRAM, IN A SANDBOX (cutbox-rows.mjs): the forced cells as the released guide's own fill.sh prints them over the translation 76dc0bb07a2f534c… (all of the seat's roots in one cut). By AI agents, Wed Nov 11 2026. No macro, syntax, notation, axiom, sorry.
-/
import Derived.Test.YtdmcifkbijfmcaaDoorChecked
import GoSem.Claim
import GoSem.ClaimJoined
import GoSem.ClaimMapViews
import Derived.JoinedTies
import Derived.KernelRfl
namespace Go.Proofs.YtdmcifkbijfmcaaDoor
/- THE CELL 'sum', in the pinned program and in every row, IS THE sha256 OF THE DUMP (.gsa) THAT YtdmcifkbijfmcaaDoorProg.lean LOADS. Nothing in Lean hashes anything: it is a label: what it is worth is what the hold of that sum in a sandbox is worth. -/
noncomputable def Tryd.pinned : Pinned := { name := "ytdmcifkbijfmcaadoor", sum := "76dc0bb07a2f534c0a50a7a5cdf6fd09e9e91be95aca7a4737123ba55e667e2c", checked := Tryd.checked }
namespace Rows
def none {H : Type} : Left H := { results := [], args := [] }

/- WHAT THE LISTED PACKAGE-LEVEL VARIABLES READ AS WHEN THE CALL BEGINS. Each datum BY PROGRAM (the guide's laid-datum.mjs) off the statement by which the dump's own 'gosem.cut.vars' lays the variable. In a bare row this is a premise. The card (YtdmcifkbijfmcaaDoorCards.lean) ties it to the program's text. -/
def laid_ragpicker_words_fields {H : Type} : DataW H := .agg [.agg [.lit (.int .u64 0), .lit (.int .u64 16)], .agg [.lit (.int .u64 16), .lit (.int .u64 32)], .agg [.lit (.int .u64 16), .lit (.int .u64 48)], .agg [.lit (.int .u64 0), .lit (.int .u64 3)], .agg [.lit (.int .u64 3), .lit (.int .u64 32)], .agg [.lit (.int .u64 0), .lit (.int .u64 3)], .agg [.lit (.int .u64 3), .lit (.int .u64 3)], .agg [.lit (.int .u64 6), .lit (.int .u64 3)], .agg [.lit (.int .u64 16), .lit (.int .u64 48)], .agg [.lit (.int .u64 0), .lit (.int .u64 32)], .agg [.lit (.int .u64 32), .lit (.int .u64 1)]]
def laid_ragpicker_headers_lines {H : Type} : DataW H := .agg [.agg [.lit (.int .u8 1), .lit (.int .u8 0), .lit (.int .u8 1), .lit (.int .i64 0)], .agg [.lit (.int .u8 2), .lit (.int .u8 1), .lit (.int .u8 2), .lit (.int .i64 0)], .agg [.lit (.int .u8 3), .lit (.int .u8 2), .lit (.int .u8 0), .lit (.int .i64 1)], .agg [.lit (.int .u8 4), .lit (.int .u8 1), .lit (.int .u8 0), .lit (.int .i64 1)], .agg [.lit (.int .u8 5), .lit (.int .u8 1), .lit (.int .u8 4), .lit (.int .i64 2)], .agg [.lit (.int .u8 5), .lit (.int .u8 2), .lit (.int .u8 4), .lit (.int .i64 2)], .agg [.lit (.int .u8 6), .lit (.int .u8 0), .lit (.int .u8 3), .lit (.int .i64 0)], .agg [.lit (.int .u8 7), .lit (.int .u8 3), .lit (.int .u8 0), .lit (.int .i64 0)]]

/-- 'ragpickerlaw05.HeadersOf': WHATEVER THE INPUT: true; the input reads as it did. -/
def headersOfSpec : ChangeSpec := { name := "headersOf", fn := fun _ => fun
  | [d1, d2, d3] => { results := [.lit (.bool true)], args := [d1, d2, d3] }
  | _ => none }
def headersOfRow : OpenClaim := { program := "ytdmcifkbijfmcaadoor", sum := "76dc0bb07a2f534c0a50a7a5cdf6fd09e9e91be95aca7a4737123ba55e667e2c", func := "ragpicker/ragpickerlaw05.HeadersOf", spec := "headersOf", named := ["ragpicker/words.fields", "ragpicker/headers.lines"], apart := false, laid := [("ragpicker/words.fields", laid_ragpicker_words_fields), ("ragpicker/headers.lines", laid_ragpicker_headers_lines)] }
def HeadersOfSaid : Prop := headersOfRow.holds Tryd.pinned (OpenSpec.ofChange headersOfSpec)

/-- ITS FALSE NEIGHBOUR: 'it returns false'. Refute it at one input. -/
def headersOfWrong : ChangeSpec := { name := "headersOf", fn := fun _ => fun
  | [d1, d2, d3] => { results := [.lit (.bool false)], args := [d1, d2, d3] }
  | _ => none }
def HeadersOfWrongFalsely : Prop := headersOfRow.holds Tryd.pinned (OpenSpec.ofChange headersOfWrong)

/-- 'ragpickerlaw05.HeadersPast': WHATEVER THE INPUT: true; the input reads as it did. -/
def headersPastSpec : ChangeSpec := { name := "headersPast", fn := fun _ => fun
  | [d1, d2] => { results := [.lit (.bool true)], args := [d1, d2] }
  | _ => none }
def headersPastRow : OpenClaim := { program := "ytdmcifkbijfmcaadoor", sum := "76dc0bb07a2f534c0a50a7a5cdf6fd09e9e91be95aca7a4737123ba55e667e2c", func := "ragpicker/ragpickerlaw05.HeadersPast", spec := "headersPast", named := ["ragpicker/words.fields", "ragpicker/headers.lines"], apart := false, laid := [("ragpicker/words.fields", laid_ragpicker_words_fields), ("ragpicker/headers.lines", laid_ragpicker_headers_lines)] }
def HeadersPastSaid : Prop := headersPastRow.holds Tryd.pinned (OpenSpec.ofChange headersPastSpec)

/-- ITS FALSE NEIGHBOUR: 'it returns false'. Refute it at one input. -/
def headersPastWrong : ChangeSpec := { name := "headersPast", fn := fun _ => fun
  | [d1, d2] => { results := [.lit (.bool false)], args := [d1, d2] }
  | _ => none }
def HeadersPastWrongFalsely : Prop := headersPastRow.holds Tryd.pinned (OpenSpec.ofChange headersPastWrong)

/-- 'ragpickerlaw05.HeadersGrow': WHATEVER THE INPUT: true; the input reads as it did. -/
def headersGrowSpec : ChangeSpec := { name := "headersGrow", fn := fun _ => fun
  | [d1, d2, d3] => { results := [.lit (.bool true)], args := [d1, d2, d3] }
  | _ => none }
def headersGrowRow : OpenClaim := { program := "ytdmcifkbijfmcaadoor", sum := "76dc0bb07a2f534c0a50a7a5cdf6fd09e9e91be95aca7a4737123ba55e667e2c", func := "ragpicker/ragpickerlaw05.HeadersGrow", spec := "headersGrow", named := ["ragpicker/words.fields", "ragpicker/headers.lines"], apart := false, laid := [("ragpicker/words.fields", laid_ragpicker_words_fields), ("ragpicker/headers.lines", laid_ragpicker_headers_lines)] }
def HeadersGrowSaid : Prop := headersGrowRow.holds Tryd.pinned (OpenSpec.ofChange headersGrowSpec)

/-- ITS FALSE NEIGHBOUR: 'it returns false'. Refute it at one input. -/
def headersGrowWrong : ChangeSpec := { name := "headersGrow", fn := fun _ => fun
  | [d1, d2, d3] => { results := [.lit (.bool false)], args := [d1, d2, d3] }
  | _ => none }
def HeadersGrowWrongFalsely : Prop := headersGrowRow.holds Tryd.pinned (OpenSpec.ofChange headersGrowWrong)

/-- 'ragpickerlaw05.HeadersOnce': WHATEVER THE INPUT: true; the input reads as it did. -/
def headersOnceSpec : ChangeSpec := { name := "headersOnce", fn := fun _ => fun
  | [d1, d2, d3] => { results := [.lit (.bool true)], args := [d1, d2, d3] }
  | _ => none }
def headersOnceRow : OpenClaim := { program := "ytdmcifkbijfmcaadoor", sum := "76dc0bb07a2f534c0a50a7a5cdf6fd09e9e91be95aca7a4737123ba55e667e2c", func := "ragpicker/ragpickerlaw05.HeadersOnce", spec := "headersOnce", named := ["ragpicker/words.fields", "ragpicker/headers.lines"], apart := false, laid := [("ragpicker/words.fields", laid_ragpicker_words_fields), ("ragpicker/headers.lines", laid_ragpicker_headers_lines)] }
def HeadersOnceSaid : Prop := headersOnceRow.holds Tryd.pinned (OpenSpec.ofChange headersOnceSpec)

/-- ITS FALSE NEIGHBOUR: 'it returns false'. Refute it at one input. -/
def headersOnceWrong : ChangeSpec := { name := "headersOnce", fn := fun _ => fun
  | [d1, d2, d3] => { results := [.lit (.bool false)], args := [d1, d2, d3] }
  | _ => none }
def HeadersOnceWrongFalsely : Prop := headersOnceRow.holds Tryd.pinned (OpenSpec.ofChange headersOnceWrong)

/- THE SECOND FORM. 'bulk': how many values and letters a reading holds, each counted each time it is reached (what is shared counts as often as it is met; a slice's spare places count too). A statement '..UptoSaid' is the law's where the arguments, and the package variables that the reading takes, are together of bulk at most 1048576: NARROWER than '..Said'. Prove '..Said' where nothing that the law and all that it calls make is longer than what came in: it says more and counts as full. Else prove '..UptoSaid'. A law counts once. -/
mutual
def uptoBulk {H : Type} : DataW H → Nat
  | .lit (.string bytes) => bytes.length + 1
  | .lit _ => 1
  | .nil => 1
  | .ptr d => uptoBulk d + 1
  | .slice elems spare => uptoBulkAll elems + uptoBulkAll spare + 1
  | .agg parts => uptoBulkAll parts + 1
  | .iface _ d => uptoBulk d + 1
  | .map entries => uptoBulkEntries entries + 1
  | .held _ => 1
def uptoBulkAll {H : Type} : List (DataW H) → Nat
  | [] => 0
  | d :: r => uptoBulk d + uptoBulkAll r
def uptoBulkEntries {H : Type} : List (Lit × DataW H) → Nat
  | [] => 0
  | x :: r => uptoBulkEntry x + uptoBulkEntries r
def uptoBulkEntry {H : Type} : Lit × DataW H → Nat
  | (.string bytes, d) => bytes.length + uptoBulk d + 1
  | (_, d) => uptoBulk d + 1
 end
def uptoSmall : (H : Type) → List (DataW H) → Bool := fun _ ds => decide (uptoBulkAll ds ≤ 1048576)
def OpenSpec.upto (s : _root_.Go.ChangeSpec) : _root_.Go.OpenSpec := { _root_.Go.OpenSpec.ofChange s with cond := some uptoSmall }

/-- 'ragpickerlaw05.HeadersOf', WHERE WHAT IT READS IS OF BULK AT MOST 1048576: true; the input reads as it did. -/
def headersOfUptoRow : OpenClaim := { program := "ytdmcifkbijfmcaadoor", sum := "76dc0bb07a2f534c0a50a7a5cdf6fd09e9e91be95aca7a4737123ba55e667e2c", func := "ragpicker/ragpickerlaw05.HeadersOf", spec := "headersOf", named := ["ragpicker/words.fields", "ragpicker/headers.lines"], apart := false, laid := [("ragpicker/words.fields", laid_ragpicker_words_fields), ("ragpicker/headers.lines", laid_ragpicker_headers_lines)], narrowed := true }
def HeadersOfUptoSaid : Prop := headersOfUptoRow.holds Tryd.pinned (OpenSpec.upto headersOfSpec)

/-- 'ragpickerlaw05.HeadersPast', WHERE WHAT IT READS IS OF BULK AT MOST 1048576: true; the input reads as it did. -/
def headersPastUptoRow : OpenClaim := { program := "ytdmcifkbijfmcaadoor", sum := "76dc0bb07a2f534c0a50a7a5cdf6fd09e9e91be95aca7a4737123ba55e667e2c", func := "ragpicker/ragpickerlaw05.HeadersPast", spec := "headersPast", named := ["ragpicker/words.fields", "ragpicker/headers.lines"], apart := false, laid := [("ragpicker/words.fields", laid_ragpicker_words_fields), ("ragpicker/headers.lines", laid_ragpicker_headers_lines)], narrowed := true }
def HeadersPastUptoSaid : Prop := headersPastUptoRow.holds Tryd.pinned (OpenSpec.upto headersPastSpec)

/-- 'ragpickerlaw05.HeadersGrow', WHERE WHAT IT READS IS OF BULK AT MOST 1048576: true; the input reads as it did. -/
def headersGrowUptoRow : OpenClaim := { program := "ytdmcifkbijfmcaadoor", sum := "76dc0bb07a2f534c0a50a7a5cdf6fd09e9e91be95aca7a4737123ba55e667e2c", func := "ragpicker/ragpickerlaw05.HeadersGrow", spec := "headersGrow", named := ["ragpicker/words.fields", "ragpicker/headers.lines"], apart := false, laid := [("ragpicker/words.fields", laid_ragpicker_words_fields), ("ragpicker/headers.lines", laid_ragpicker_headers_lines)], narrowed := true }
def HeadersGrowUptoSaid : Prop := headersGrowUptoRow.holds Tryd.pinned (OpenSpec.upto headersGrowSpec)

/-- 'ragpickerlaw05.HeadersOnce', WHERE WHAT IT READS IS OF BULK AT MOST 1048576: true; the input reads as it did. -/
def headersOnceUptoRow : OpenClaim := { program := "ytdmcifkbijfmcaadoor", sum := "76dc0bb07a2f534c0a50a7a5cdf6fd09e9e91be95aca7a4737123ba55e667e2c", func := "ragpicker/ragpickerlaw05.HeadersOnce", spec := "headersOnce", named := ["ragpicker/words.fields", "ragpicker/headers.lines"], apart := false, laid := [("ragpicker/words.fields", laid_ragpicker_words_fields), ("ragpicker/headers.lines", laid_ragpicker_headers_lines)], narrowed := true }
def HeadersOnceUptoSaid : Prop := headersOnceUptoRow.holds Tryd.pinned (OpenSpec.upto headersOnceSpec)

end Rows
end Go.Proofs.YtdmcifkbijfmcaaDoor
