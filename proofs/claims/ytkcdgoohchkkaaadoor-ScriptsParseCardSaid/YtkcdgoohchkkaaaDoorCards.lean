/-
  DERIVED. GIVEN WITH THE SEED: THE CARDS: each row of YtkcdgoohchkkaaaDoorRows.lean that lists a variable, with what it lists TIED to the program's text (the seventh form; the later family's looks); each row that meets fmt, with fmt's text TOLD by the authors' own Lean function (tested against real Go, not proved from fmt's source: count such statements apart). THE CARD IS WHAT COUNTS. Prove the row's statement (the work); the ties are given (YtkcdgoohchkkaaaDoorTie.lean); close each card by the builder's one call (the guide's Derived/Test/ToyasCard.lean, 'card_holds'). Laid BY PROGRAM, IN A SANDBOX (cutbox-door.mjs). By AI agents, Wed Nov 11 2026. No macro, syntax, notation, axiom, sorry.
-/
import Derived.Test.YtkcdgoohchkkaaaDoorRows
import GoSem.ClaimSeven
namespace Go.Proofs.YtkcdgoohchkkaaaDoor
namespace Rows

/-- THE TIED CARD OF 'ragpickerlaw03.ScriptsParse'. -/
def scriptsParseCard : Claim7 := { stood := { row := scriptsParseRow, standIns := [], harness := (true, "5fe3c69f0272eb8ec76d8b146ec7ecd3d013b93e67ad556143f864cad3e9e9dc"), looks := false }, kinds := [], alts := [], laidByText := true, laidKinds := [.data], laidTests := true, laidLooks := .later }
def ScriptsParseCardSaid : Prop := Claim7.holds Tryd.pinned (.plain (OpenSpec.ofChange scriptsParseSpec)) scriptsParseCard

/-- THE TIED CARD OF 'ragpickerlaw03.ScriptsWrite'. -/
def scriptsWriteCard : Claim7 := { stood := { row := scriptsWriteRow, standIns := [], harness := (true, "5fe3c69f0272eb8ec76d8b146ec7ecd3d013b93e67ad556143f864cad3e9e9dc"), looks := false }, kinds := [], alts := [], laidByText := true, laidKinds := [.data], laidTests := true, laidLooks := .later }
def ScriptsWriteCardSaid : Prop := Claim7.holds Tryd.pinned (.plain (OpenSpec.ofChange scriptsWriteSpec)) scriptsWriteCard

/-- THE TIED CARD OF 'ragpickerlaw03.ScriptsCover'. -/
def scriptsCoverCard : Claim7 := { stood := { row := scriptsCoverRow, standIns := [], harness := (true, "5fe3c69f0272eb8ec76d8b146ec7ecd3d013b93e67ad556143f864cad3e9e9dc"), looks := false }, kinds := [], alts := [], laidByText := true, laidKinds := [.data], laidTests := true, laidLooks := .later }
def ScriptsCoverCardSaid : Prop := Claim7.holds Tryd.pinned (.plain (OpenSpec.ofChange scriptsCoverSpec)) scriptsCoverCard

/-- THE TIED CARD OF 'ragpickerlaw03.ScriptsBack'. -/
def scriptsBackCard : Claim7 := { stood := { row := scriptsBackRow, standIns := [], harness := (true, "5fe3c69f0272eb8ec76d8b146ec7ecd3d013b93e67ad556143f864cad3e9e9dc"), looks := false }, kinds := [], alts := [], laidByText := true, laidKinds := [.data], laidTests := true, laidLooks := .later }
def ScriptsBackCardSaid : Prop := Claim7.holds Tryd.pinned (.plain (OpenSpec.ofChange scriptsBackSpec)) scriptsBackCard

/-- THE TIED CARD OF 'ragpickerlaw03.ScriptsJoin'. -/
def scriptsJoinCard : Claim7 := { stood := { row := scriptsJoinRow, standIns := [], harness := (true, "5fe3c69f0272eb8ec76d8b146ec7ecd3d013b93e67ad556143f864cad3e9e9dc"), looks := false }, kinds := [], alts := [], laidByText := true, laidKinds := [.data], laidTests := true, laidLooks := .later }
def ScriptsJoinCardSaid : Prop := Claim7.holds Tryd.pinned (.plain (OpenSpec.ofChange scriptsJoinSpec)) scriptsJoinCard

/-- THE SECOND FORM's CARD OF 'ragpickerlaw03.ScriptsParse'. -/
def scriptsParseUptoCard : Claim7 := { stood := { row := scriptsParseUptoRow, standIns := [], harness := (true, "5fe3c69f0272eb8ec76d8b146ec7ecd3d013b93e67ad556143f864cad3e9e9dc"), looks := false }, kinds := [], alts := [], laidByText := true, laidKinds := [.data], laidTests := true, laidLooks := .later }
def ScriptsParseUptoCardSaid : Prop := Claim7.holds Tryd.pinned (.plain (OpenSpec.upto scriptsParseSpec)) scriptsParseUptoCard

/-- THE SECOND FORM's CARD OF 'ragpickerlaw03.ScriptsWrite'. -/
def scriptsWriteUptoCard : Claim7 := { stood := { row := scriptsWriteUptoRow, standIns := [], harness := (true, "5fe3c69f0272eb8ec76d8b146ec7ecd3d013b93e67ad556143f864cad3e9e9dc"), looks := false }, kinds := [], alts := [], laidByText := true, laidKinds := [.data], laidTests := true, laidLooks := .later }
def ScriptsWriteUptoCardSaid : Prop := Claim7.holds Tryd.pinned (.plain (OpenSpec.upto scriptsWriteSpec)) scriptsWriteUptoCard

/-- THE SECOND FORM's CARD OF 'ragpickerlaw03.ScriptsCover'. -/
def scriptsCoverUptoCard : Claim7 := { stood := { row := scriptsCoverUptoRow, standIns := [], harness := (true, "5fe3c69f0272eb8ec76d8b146ec7ecd3d013b93e67ad556143f864cad3e9e9dc"), looks := false }, kinds := [], alts := [], laidByText := true, laidKinds := [.data], laidTests := true, laidLooks := .later }
def ScriptsCoverUptoCardSaid : Prop := Claim7.holds Tryd.pinned (.plain (OpenSpec.upto scriptsCoverSpec)) scriptsCoverUptoCard

/-- THE SECOND FORM's CARD OF 'ragpickerlaw03.ScriptsBack'. -/
def scriptsBackUptoCard : Claim7 := { stood := { row := scriptsBackUptoRow, standIns := [], harness := (true, "5fe3c69f0272eb8ec76d8b146ec7ecd3d013b93e67ad556143f864cad3e9e9dc"), looks := false }, kinds := [], alts := [], laidByText := true, laidKinds := [.data], laidTests := true, laidLooks := .later }
def ScriptsBackUptoCardSaid : Prop := Claim7.holds Tryd.pinned (.plain (OpenSpec.upto scriptsBackSpec)) scriptsBackUptoCard

/-- THE SECOND FORM's CARD OF 'ragpickerlaw03.ScriptsJoin'. -/
def scriptsJoinUptoCard : Claim7 := { stood := { row := scriptsJoinUptoRow, standIns := [], harness := (true, "5fe3c69f0272eb8ec76d8b146ec7ecd3d013b93e67ad556143f864cad3e9e9dc"), looks := false }, kinds := [], alts := [], laidByText := true, laidKinds := [.data], laidTests := true, laidLooks := .later }
def ScriptsJoinUptoCardSaid : Prop := Claim7.holds Tryd.pinned (.plain (OpenSpec.upto scriptsJoinSpec)) scriptsJoinUptoCard
end Rows
end Go.Proofs.YtkcdgoohchkkaaaDoor
