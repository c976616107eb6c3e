/-
  DERIVED. GIVEN WITH THE SEED: THE CARDS: each row of YtohkgjggamabmaaDoorRows.lean that lists a variable, with what it lists TIED to the program's text (the seventh form; the later family's looks); each row that meets fmt, with fmt's text TOLD by the authors' own Lean function (tested against real Go, not proved from fmt's source: count such statements apart). THE CARD IS WHAT COUNTS. Prove the row's statement (the work); the ties are given (YtohkgjggamabmaaDoorTie.lean); close each card by the builder's one call (the guide's Derived/Test/ToyasCard.lean, 'card_holds'). Laid BY PROGRAM, IN A SANDBOX (cutbox-door.mjs). By AI agents, Wed Nov 11 2026. No macro, syntax, notation, axiom, sorry.
-/
import Derived.Test.YtohkgjggamabmaaDoorRows
import GoSem.ClaimSeven
namespace Go.Proofs.YtohkgjggamabmaaDoor
namespace Rows

/-- THE TIED CARD OF 'ragpickerlaw06.SegsTurns'. -/
def segsTurnsCard : Claim7 := { stood := { row := segsTurnsRow, standIns := [], harness := (true, "874b5af6efc96500c21aab21ef7402b293650be92077d262531bac9ed5aa34f6"), looks := false }, kinds := [], alts := [], laidByText := true, laidKinds := [.data, .widerDeep], laidTests := true, laidLooks := .later }
def SegsTurnsCardSaid : Prop := Claim7.holds Tryd.pinned (.plain (OpenSpec.ofChange segsTurnsSpec)) segsTurnsCard

/-- THE TIED CARD OF 'ragpickerlaw06.SegsCount'. -/
def segsCountCard : Claim7 := { stood := { row := segsCountRow, standIns := [], harness := (true, "874b5af6efc96500c21aab21ef7402b293650be92077d262531bac9ed5aa34f6"), looks := false }, kinds := [], alts := [], laidByText := true, laidKinds := [.data, .widerDeep], laidTests := true, laidLooks := .later }
def SegsCountCardSaid : Prop := Claim7.holds Tryd.pinned (.plain (OpenSpec.ofChange segsCountSpec)) segsCountCard

/-- THE TIED CARD OF 'ragpickerlaw06.SegsLife'. -/
def segsLifeCard : Claim7 := { stood := { row := segsLifeRow, standIns := [], harness := (true, "874b5af6efc96500c21aab21ef7402b293650be92077d262531bac9ed5aa34f6"), looks := false }, kinds := [], alts := [], laidByText := true, laidKinds := [.data, .widerDeep], laidTests := true, laidLooks := .later }
def SegsLifeCardSaid : Prop := Claim7.holds Tryd.pinned (.plain (OpenSpec.ofChange segsLifeSpec)) segsLifeCard

/-- THE TIED CARD OF 'ragpickerlaw06.SegsSum'. -/
def segsSumCard : Claim7 := { stood := { row := segsSumRow, standIns := [], harness := (true, "874b5af6efc96500c21aab21ef7402b293650be92077d262531bac9ed5aa34f6"), looks := false }, kinds := [], alts := [], laidByText := true, laidKinds := [.data, .widerDeep], laidTests := true, laidLooks := .later }
def SegsSumCardSaid : Prop := Claim7.holds Tryd.pinned (.plain (OpenSpec.ofChange segsSumSpec)) segsSumCard

/-- THE TIED CARD OF 'ragpickerlaw06.SegsOf'. -/
def segsOfCard : Claim7 := { stood := { row := segsOfRow, standIns := [], harness := (true, "874b5af6efc96500c21aab21ef7402b293650be92077d262531bac9ed5aa34f6"), looks := false }, kinds := [], alts := [], laidByText := true, laidKinds := [.data, .widerDeep], laidTests := true, laidLooks := .later }
def SegsOfCardSaid : Prop := Claim7.holds Tryd.pinned (.plain (OpenSpec.ofChange segsOfSpec)) segsOfCard

/-- THE TIED CARD OF 'ragpickerlaw06.SegsAll'. -/
def segsAllCard : Claim7 := { stood := { row := segsAllRow, standIns := [], harness := (true, "874b5af6efc96500c21aab21ef7402b293650be92077d262531bac9ed5aa34f6"), looks := false }, kinds := [], alts := [], laidByText := true, laidKinds := [.data, .widerDeep], laidTests := true, laidLooks := .later }
def SegsAllCardSaid : Prop := Claim7.holds Tryd.pinned (.plain (OpenSpec.ofChange segsAllSpec)) segsAllCard

/-- THE SECOND FORM's CARD OF 'ragpickerlaw06.SegsTurns'. -/
def segsTurnsUptoCard : Claim7 := { stood := { row := segsTurnsUptoRow, standIns := [], harness := (true, "874b5af6efc96500c21aab21ef7402b293650be92077d262531bac9ed5aa34f6"), looks := false }, kinds := [], alts := [], laidByText := true, laidKinds := [.data, .widerDeep], laidTests := true, laidLooks := .later }
def SegsTurnsUptoCardSaid : Prop := Claim7.holds Tryd.pinned (.plain (OpenSpec.upto segsTurnsSpec)) segsTurnsUptoCard

/-- THE SECOND FORM's CARD OF 'ragpickerlaw06.SegsCount'. -/
def segsCountUptoCard : Claim7 := { stood := { row := segsCountUptoRow, standIns := [], harness := (true, "874b5af6efc96500c21aab21ef7402b293650be92077d262531bac9ed5aa34f6"), looks := false }, kinds := [], alts := [], laidByText := true, laidKinds := [.data, .widerDeep], laidTests := true, laidLooks := .later }
def SegsCountUptoCardSaid : Prop := Claim7.holds Tryd.pinned (.plain (OpenSpec.upto segsCountSpec)) segsCountUptoCard

/-- THE SECOND FORM's CARD OF 'ragpickerlaw06.SegsLife'. -/
def segsLifeUptoCard : Claim7 := { stood := { row := segsLifeUptoRow, standIns := [], harness := (true, "874b5af6efc96500c21aab21ef7402b293650be92077d262531bac9ed5aa34f6"), looks := false }, kinds := [], alts := [], laidByText := true, laidKinds := [.data, .widerDeep], laidTests := true, laidLooks := .later }
def SegsLifeUptoCardSaid : Prop := Claim7.holds Tryd.pinned (.plain (OpenSpec.upto segsLifeSpec)) segsLifeUptoCard

/-- THE SECOND FORM's CARD OF 'ragpickerlaw06.SegsSum'. -/
def segsSumUptoCard : Claim7 := { stood := { row := segsSumUptoRow, standIns := [], harness := (true, "874b5af6efc96500c21aab21ef7402b293650be92077d262531bac9ed5aa34f6"), looks := false }, kinds := [], alts := [], laidByText := true, laidKinds := [.data, .widerDeep], laidTests := true, laidLooks := .later }
def SegsSumUptoCardSaid : Prop := Claim7.holds Tryd.pinned (.plain (OpenSpec.upto segsSumSpec)) segsSumUptoCard

/-- THE SECOND FORM's CARD OF 'ragpickerlaw06.SegsOf'. -/
def segsOfUptoCard : Claim7 := { stood := { row := segsOfUptoRow, standIns := [], harness := (true, "874b5af6efc96500c21aab21ef7402b293650be92077d262531bac9ed5aa34f6"), looks := false }, kinds := [], alts := [], laidByText := true, laidKinds := [.data, .widerDeep], laidTests := true, laidLooks := .later }
def SegsOfUptoCardSaid : Prop := Claim7.holds Tryd.pinned (.plain (OpenSpec.upto segsOfSpec)) segsOfUptoCard

/-- THE SECOND FORM's CARD OF 'ragpickerlaw06.SegsAll'. -/
def segsAllUptoCard : Claim7 := { stood := { row := segsAllUptoRow, standIns := [], harness := (true, "874b5af6efc96500c21aab21ef7402b293650be92077d262531bac9ed5aa34f6"), looks := false }, kinds := [], alts := [], laidByText := true, laidKinds := [.data, .widerDeep], laidTests := true, laidLooks := .later }
def SegsAllUptoCardSaid : Prop := Claim7.holds Tryd.pinned (.plain (OpenSpec.upto segsAllSpec)) segsAllUptoCard
end Rows
end Go.Proofs.YtohkgjggamabmaaDoor
