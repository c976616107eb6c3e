/-
  DERIVED. GIVEN WITH THE SEED: THE CARDS: each row of YthjkcboepmgbnaaDoorRows.lean that lists a variable, with what it lists TIED to the program's text (the seventh form; the later family's looks); each row that meets fmt, with fmt's text TOLD by the authors' own Lean function (tested against real Go, not proved from fmt's source: count such statements apart). THE CARD IS WHAT COUNTS. Prove the row's statement (the work); the ties are given (YthjkcboepmgbnaaDoorTie.lean); close each card by the builder's one call (the guide's Derived/Test/ToyasCard.lean, 'card_holds'). Laid BY PROGRAM, IN A SANDBOX (cutbox-door.mjs). By AI agents, Wed Nov 11 2026. No macro, syntax, notation, axiom, sorry.
-/
import Derived.Test.YthjkcboepmgbnaaDoorRows
import GoSem.ClaimSeven
namespace Go.Proofs.YthjkcboepmgbnaaDoor
namespace Rows

/-- THE TIED CARD OF 'ragpickerlaw24.AdmitsOpen'. -/
def admitsOpenCard : Claim7 := { stood := { row := admitsOpenRow, standIns := [], harness := (true, "9fbb6c5cd66c25d6b8604dd654f6eb3d490c14804deafb57afc76a99ce1eef62"), looks := false }, kinds := [], alts := [], laidByText := true, laidKinds := [.data], laidTests := true, laidLooks := .later }
def AdmitsOpenCardSaid : Prop := Claim7.holds Tryd.pinned (.plain (OpenSpec.ofChange admitsOpenSpec)) admitsOpenCard

/-- THE TIED CARD OF 'ragpickerlaw24.AdmitsKeep'. -/
def admitsKeepCard : Claim7 := { stood := { row := admitsKeepRow, standIns := [], harness := (true, "9fbb6c5cd66c25d6b8604dd654f6eb3d490c14804deafb57afc76a99ce1eef62"), looks := false }, kinds := [], alts := [], laidByText := true, laidKinds := [.data], laidTests := true, laidLooks := .later }
def AdmitsKeepCardSaid : Prop := Claim7.holds Tryd.pinned (.plain (OpenSpec.ofChange admitsKeepSpec)) admitsKeepCard

/-- THE TIED CARD OF 'ragpickerlaw24.AdmitsNames'. -/
def admitsNamesCard : Claim7 := { stood := { row := admitsNamesRow, standIns := [], harness := (true, "9fbb6c5cd66c25d6b8604dd654f6eb3d490c14804deafb57afc76a99ce1eef62"), looks := false }, kinds := [], alts := [], laidByText := true, laidKinds := [.data], laidTests := true, laidLooks := .later }
def AdmitsNamesCardSaid : Prop := Claim7.holds Tryd.pinned (.plain (OpenSpec.ofChange admitsNamesSpec)) admitsNamesCard

/-- THE SECOND FORM's CARD OF 'ragpickerlaw24.AdmitsOpen'. -/
def admitsOpenUptoCard : Claim7 := { stood := { row := admitsOpenUptoRow, standIns := [], harness := (true, "9fbb6c5cd66c25d6b8604dd654f6eb3d490c14804deafb57afc76a99ce1eef62"), looks := false }, kinds := [], alts := [], laidByText := true, laidKinds := [.data], laidTests := true, laidLooks := .later }
def AdmitsOpenUptoCardSaid : Prop := Claim7.holds Tryd.pinned (.plain (OpenSpec.upto admitsOpenSpec)) admitsOpenUptoCard

/-- THE SECOND FORM's CARD OF 'ragpickerlaw24.AdmitsKeep'. -/
def admitsKeepUptoCard : Claim7 := { stood := { row := admitsKeepUptoRow, standIns := [], harness := (true, "9fbb6c5cd66c25d6b8604dd654f6eb3d490c14804deafb57afc76a99ce1eef62"), looks := false }, kinds := [], alts := [], laidByText := true, laidKinds := [.data], laidTests := true, laidLooks := .later }
def AdmitsKeepUptoCardSaid : Prop := Claim7.holds Tryd.pinned (.plain (OpenSpec.upto admitsKeepSpec)) admitsKeepUptoCard

/-- THE SECOND FORM's CARD OF 'ragpickerlaw24.AdmitsNames'. -/
def admitsNamesUptoCard : Claim7 := { stood := { row := admitsNamesUptoRow, standIns := [], harness := (true, "9fbb6c5cd66c25d6b8604dd654f6eb3d490c14804deafb57afc76a99ce1eef62"), looks := false }, kinds := [], alts := [], laidByText := true, laidKinds := [.data], laidTests := true, laidLooks := .later }
def AdmitsNamesUptoCardSaid : Prop := Claim7.holds Tryd.pinned (.plain (OpenSpec.upto admitsNamesSpec)) admitsNamesUptoCard
end Rows
end Go.Proofs.YthjkcboepmgbnaaDoor
