/-
  DERIVED. GIVEN WITH THE SEED: THE CARDS: each row of YtffjllknnnkbhaaDoorRows.lean that lists a variable, with what it lists TIED to the program's text (the seventh form; the later family's looks); each row that meets fmt, with fmt's text TOLD by the authors' own Lean function (tested against real Go, not proved from fmt's source: count such statements apart). THE CARD IS WHAT COUNTS. Prove the row's statement (the work); the ties are given (YtffjllknnnkbhaaDoorTie.lean); close each card by the builder's one call (the guide's Derived/Test/ToyasCard.lean, 'card_holds'). Laid BY PROGRAM, IN A SANDBOX (cutbox-door.mjs). By AI agents, Wed Nov 11 2026. No macro, syntax, notation, axiom, sorry.
-/
import Derived.Test.YtffjllknnnkbhaaDoorRows
import GoSem.ClaimSeven
namespace Go.Proofs.YtffjllknnnkbhaaDoor
namespace Rows

/-- THE TIED CARD OF 'ragpickerlaw19.PhasesRound'. -/
def phasesRoundCard : Claim7 := { stood := { row := phasesRoundRow, standIns := [], harness := (true, "dcef45dea1f4143da9c3a6d1fca00b3387fcff20c7d821a814ec64fe484caafb"), looks := false }, kinds := [], alts := [], laidByText := true, laidKinds := [.data], laidTests := true, laidLooks := .later }
def PhasesRoundCardSaid : Prop := Claim7.holds Tryd.pinned (.plain (OpenSpec.ofChange phasesRoundSpec)) phasesRoundCard

/-- THE TIED CARD OF 'ragpickerlaw19.PhasesCover'. -/
def phasesCoverCard : Claim7 := { stood := { row := phasesCoverRow, standIns := [], harness := (true, "dcef45dea1f4143da9c3a6d1fca00b3387fcff20c7d821a814ec64fe484caafb"), looks := false }, kinds := [], alts := [], laidByText := true, laidKinds := [.data], laidTests := true, laidLooks := .later }
def PhasesCoverCardSaid : Prop := Claim7.holds Tryd.pinned (.plain (OpenSpec.ofChange phasesCoverSpec)) phasesCoverCard

/-- THE SECOND FORM's CARD OF 'ragpickerlaw19.PhasesRound'. -/
def phasesRoundUptoCard : Claim7 := { stood := { row := phasesRoundUptoRow, standIns := [], harness := (true, "dcef45dea1f4143da9c3a6d1fca00b3387fcff20c7d821a814ec64fe484caafb"), looks := false }, kinds := [], alts := [], laidByText := true, laidKinds := [.data], laidTests := true, laidLooks := .later }
def PhasesRoundUptoCardSaid : Prop := Claim7.holds Tryd.pinned (.plain (OpenSpec.upto phasesRoundSpec)) phasesRoundUptoCard

/-- THE SECOND FORM's CARD OF 'ragpickerlaw19.PhasesCover'. -/
def phasesCoverUptoCard : Claim7 := { stood := { row := phasesCoverUptoRow, standIns := [], harness := (true, "dcef45dea1f4143da9c3a6d1fca00b3387fcff20c7d821a814ec64fe484caafb"), looks := false }, kinds := [], alts := [], laidByText := true, laidKinds := [.data], laidTests := true, laidLooks := .later }
def PhasesCoverUptoCardSaid : Prop := Claim7.holds Tryd.pinned (.plain (OpenSpec.upto phasesCoverSpec)) phasesCoverUptoCard
end Rows
end Go.Proofs.YtffjllknnnkbhaaDoor
