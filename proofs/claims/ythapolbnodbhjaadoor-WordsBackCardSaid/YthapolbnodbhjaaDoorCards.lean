/-
  DERIVED. GIVEN WITH THE SEED: THE CARDS: each row of YthapolbnodbhjaaDoorRows.lean that lists a variable, with what it lists TIED to the program's text (the seventh form; the later family's looks); each row that meets fmt, with fmt's text TOLD by the authors' own Lean function (tested against real Go, not proved from fmt's source: count such statements apart). THE CARD IS WHAT COUNTS. Prove the row's statement (the work); the ties are given (YthapolbnodbhjaaDoorTie.lean); close each card by the builder's one call (the guide's Derived/Test/ToyasCard.lean, 'card_holds'). Laid BY PROGRAM, IN A SANDBOX (cutbox-door.mjs). By AI agents, Wed Nov 11 2026. No macro, syntax, notation, axiom, sorry.
-/
import Derived.Test.YthapolbnodbhjaaDoorRows
import GoSem.ClaimSeven
namespace Go.Proofs.YthapolbnodbhjaaDoor
namespace Rows

/-- THE TIED CARD OF 'ragpickerlaw01.WordsUnlike'. -/
def wordsUnlikeCard : Claim7 := { stood := { row := wordsUnlikeRow, standIns := [], harness := (true, "00392ab9452a4240f2327983d1ab188f532cf0481bd332b8d6200edd34c41d9b"), looks := false }, kinds := [], alts := [], laidByText := true, laidKinds := [.data], laidTests := true, laidLooks := .later }
def WordsUnlikeCardSaid : Prop := Claim7.holds Tryd.pinned (.plain (OpenSpec.ofChange wordsUnlikeSpec)) wordsUnlikeCard

/-- THE TIED CARD OF 'ragpickerlaw01.WordsRef'. -/
def wordsRefCard : Claim7 := { stood := { row := wordsRefRow, standIns := [], harness := (true, "00392ab9452a4240f2327983d1ab188f532cf0481bd332b8d6200edd34c41d9b"), looks := false }, kinds := [], alts := [], laidByText := true, laidKinds := [.data], laidTests := true, laidLooks := .later }
def WordsRefCardSaid : Prop := Claim7.holds Tryd.pinned (.plain (OpenSpec.ofChange wordsRefSpec)) wordsRefCard

/-- THE TIED CARD OF 'ragpickerlaw01.WordsPhase'. -/
def wordsPhaseCard : Claim7 := { stood := { row := wordsPhaseRow, standIns := [], harness := (true, "00392ab9452a4240f2327983d1ab188f532cf0481bd332b8d6200edd34c41d9b"), looks := false }, kinds := [], alts := [], laidByText := true, laidKinds := [.data], laidTests := true, laidLooks := .later }
def WordsPhaseCardSaid : Prop := Claim7.holds Tryd.pinned (.plain (OpenSpec.ofChange wordsPhaseSpec)) wordsPhaseCard

/-- THE TIED CARD OF 'ragpickerlaw01.WordsHeader'. -/
def wordsHeaderCard : Claim7 := { stood := { row := wordsHeaderRow, standIns := [], harness := (true, "00392ab9452a4240f2327983d1ab188f532cf0481bd332b8d6200edd34c41d9b"), looks := false }, kinds := [], alts := [], laidByText := true, laidKinds := [.data], laidTests := true, laidLooks := .later }
def WordsHeaderCardSaid : Prop := Claim7.holds Tryd.pinned (.plain (OpenSpec.ofChange wordsHeaderSpec)) wordsHeaderCard

/-- THE TIED CARD OF 'ragpickerlaw01.WordsBack'. -/
def wordsBackCard : Claim7 := { stood := { row := wordsBackRow, standIns := [], harness := (true, "00392ab9452a4240f2327983d1ab188f532cf0481bd332b8d6200edd34c41d9b"), looks := false }, kinds := [], alts := [], laidByText := true, laidKinds := [.data], laidTests := true, laidLooks := .later }
def WordsBackCardSaid : Prop := Claim7.holds Tryd.pinned (.plain (OpenSpec.ofChange wordsBackSpec)) wordsBackCard

/-- THE TIED CARD OF 'ragpickerlaw01.WordsAgain'. -/
def wordsAgainCard : Claim7 := { stood := { row := wordsAgainRow, standIns := [], harness := (true, "00392ab9452a4240f2327983d1ab188f532cf0481bd332b8d6200edd34c41d9b"), looks := false }, kinds := [], alts := [], laidByText := true, laidKinds := [.data], laidTests := true, laidLooks := .later }
def WordsAgainCardSaid : Prop := Claim7.holds Tryd.pinned (.plain (OpenSpec.ofChange wordsAgainSpec)) wordsAgainCard

/-- THE SECOND FORM's CARD OF 'ragpickerlaw01.WordsUnlike'. -/
def wordsUnlikeUptoCard : Claim7 := { stood := { row := wordsUnlikeUptoRow, standIns := [], harness := (true, "00392ab9452a4240f2327983d1ab188f532cf0481bd332b8d6200edd34c41d9b"), looks := false }, kinds := [], alts := [], laidByText := true, laidKinds := [.data], laidTests := true, laidLooks := .later }
def WordsUnlikeUptoCardSaid : Prop := Claim7.holds Tryd.pinned (.plain (OpenSpec.upto wordsUnlikeSpec)) wordsUnlikeUptoCard

/-- THE SECOND FORM's CARD OF 'ragpickerlaw01.WordsRef'. -/
def wordsRefUptoCard : Claim7 := { stood := { row := wordsRefUptoRow, standIns := [], harness := (true, "00392ab9452a4240f2327983d1ab188f532cf0481bd332b8d6200edd34c41d9b"), looks := false }, kinds := [], alts := [], laidByText := true, laidKinds := [.data], laidTests := true, laidLooks := .later }
def WordsRefUptoCardSaid : Prop := Claim7.holds Tryd.pinned (.plain (OpenSpec.upto wordsRefSpec)) wordsRefUptoCard

/-- THE SECOND FORM's CARD OF 'ragpickerlaw01.WordsPhase'. -/
def wordsPhaseUptoCard : Claim7 := { stood := { row := wordsPhaseUptoRow, standIns := [], harness := (true, "00392ab9452a4240f2327983d1ab188f532cf0481bd332b8d6200edd34c41d9b"), looks := false }, kinds := [], alts := [], laidByText := true, laidKinds := [.data], laidTests := true, laidLooks := .later }
def WordsPhaseUptoCardSaid : Prop := Claim7.holds Tryd.pinned (.plain (OpenSpec.upto wordsPhaseSpec)) wordsPhaseUptoCard

/-- THE SECOND FORM's CARD OF 'ragpickerlaw01.WordsHeader'. -/
def wordsHeaderUptoCard : Claim7 := { stood := { row := wordsHeaderUptoRow, standIns := [], harness := (true, "00392ab9452a4240f2327983d1ab188f532cf0481bd332b8d6200edd34c41d9b"), looks := false }, kinds := [], alts := [], laidByText := true, laidKinds := [.data], laidTests := true, laidLooks := .later }
def WordsHeaderUptoCardSaid : Prop := Claim7.holds Tryd.pinned (.plain (OpenSpec.upto wordsHeaderSpec)) wordsHeaderUptoCard

/-- THE SECOND FORM's CARD OF 'ragpickerlaw01.WordsBack'. -/
def wordsBackUptoCard : Claim7 := { stood := { row := wordsBackUptoRow, standIns := [], harness := (true, "00392ab9452a4240f2327983d1ab188f532cf0481bd332b8d6200edd34c41d9b"), looks := false }, kinds := [], alts := [], laidByText := true, laidKinds := [.data], laidTests := true, laidLooks := .later }
def WordsBackUptoCardSaid : Prop := Claim7.holds Tryd.pinned (.plain (OpenSpec.upto wordsBackSpec)) wordsBackUptoCard

/-- THE SECOND FORM's CARD OF 'ragpickerlaw01.WordsAgain'. -/
def wordsAgainUptoCard : Claim7 := { stood := { row := wordsAgainUptoRow, standIns := [], harness := (true, "00392ab9452a4240f2327983d1ab188f532cf0481bd332b8d6200edd34c41d9b"), looks := false }, kinds := [], alts := [], laidByText := true, laidKinds := [.data], laidTests := true, laidLooks := .later }
def WordsAgainUptoCardSaid : Prop := Claim7.holds Tryd.pinned (.plain (OpenSpec.upto wordsAgainSpec)) wordsAgainUptoCard
end Rows
end Go.Proofs.YthapolbnodbhjaaDoor
