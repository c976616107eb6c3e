/-
  DERIVED. GIVEN WITH THE SEED: THE CARDS: each row of YtdmcifkbijfmcaaDoorRows.lean that lists a variable, with what it lists TIED to the program's text (the seventh form; the later family's looks); each row that meets fmt, with fmt's text TOLD by the authors' own Lean function (tested against real Go, not proved from fmt's source: count such statements apart). THE CARD IS WHAT COUNTS. Prove the row's statement (the work); the ties are given (YtdmcifkbijfmcaaDoorTie.lean); close each card by the builder's one call (the guide's Derived/Test/ToyasCard.lean, 'card_holds'). Laid BY PROGRAM, IN A SANDBOX (cutbox-door.mjs). By AI agents, Wed Nov 11 2026. No macro, syntax, notation, axiom, sorry.
-/
import Derived.Test.YtdmcifkbijfmcaaDoorRows
import GoSem.ClaimSeven
namespace Go.Proofs.YtdmcifkbijfmcaaDoor
namespace Rows

/-- THE TIED CARD OF 'ragpickerlaw05.HeadersOf'. -/
def headersOfCard : Claim7 := { stood := { row := headersOfRow, standIns := [], harness := (true, "2f58730b720872324f0d0746052aa73b5efe081a65e65ee90b48cb5c33b58bb8"), looks := false }, kinds := [], alts := [], laidByText := true, laidKinds := [.data, .data], laidTests := true, laidLooks := .later }
def HeadersOfCardSaid : Prop := Claim7.holds Tryd.pinned (.plain (OpenSpec.ofChange headersOfSpec)) headersOfCard

/-- THE TIED CARD OF 'ragpickerlaw05.HeadersPast'. -/
def headersPastCard : Claim7 := { stood := { row := headersPastRow, standIns := [], harness := (true, "2f58730b720872324f0d0746052aa73b5efe081a65e65ee90b48cb5c33b58bb8"), looks := false }, kinds := [], alts := [], laidByText := true, laidKinds := [.data, .data], laidTests := true, laidLooks := .later }
def HeadersPastCardSaid : Prop := Claim7.holds Tryd.pinned (.plain (OpenSpec.ofChange headersPastSpec)) headersPastCard

/-- THE TIED CARD OF 'ragpickerlaw05.HeadersGrow'. -/
def headersGrowCard : Claim7 := { stood := { row := headersGrowRow, standIns := [], harness := (true, "2f58730b720872324f0d0746052aa73b5efe081a65e65ee90b48cb5c33b58bb8"), looks := false }, kinds := [], alts := [], laidByText := true, laidKinds := [.data, .data], laidTests := true, laidLooks := .later }
def HeadersGrowCardSaid : Prop := Claim7.holds Tryd.pinned (.plain (OpenSpec.ofChange headersGrowSpec)) headersGrowCard

/-- THE TIED CARD OF 'ragpickerlaw05.HeadersOnce'. -/
def headersOnceCard : Claim7 := { stood := { row := headersOnceRow, standIns := [], harness := (true, "2f58730b720872324f0d0746052aa73b5efe081a65e65ee90b48cb5c33b58bb8"), looks := false }, kinds := [], alts := [], laidByText := true, laidKinds := [.data, .data], laidTests := true, laidLooks := .later }
def HeadersOnceCardSaid : Prop := Claim7.holds Tryd.pinned (.plain (OpenSpec.ofChange headersOnceSpec)) headersOnceCard

/-- THE SECOND FORM's CARD OF 'ragpickerlaw05.HeadersOf'. -/
def headersOfUptoCard : Claim7 := { stood := { row := headersOfUptoRow, standIns := [], harness := (true, "2f58730b720872324f0d0746052aa73b5efe081a65e65ee90b48cb5c33b58bb8"), looks := false }, kinds := [], alts := [], laidByText := true, laidKinds := [.data, .data], laidTests := true, laidLooks := .later }
def HeadersOfUptoCardSaid : Prop := Claim7.holds Tryd.pinned (.plain (OpenSpec.upto headersOfSpec)) headersOfUptoCard

/-- THE SECOND FORM's CARD OF 'ragpickerlaw05.HeadersPast'. -/
def headersPastUptoCard : Claim7 := { stood := { row := headersPastUptoRow, standIns := [], harness := (true, "2f58730b720872324f0d0746052aa73b5efe081a65e65ee90b48cb5c33b58bb8"), looks := false }, kinds := [], alts := [], laidByText := true, laidKinds := [.data, .data], laidTests := true, laidLooks := .later }
def HeadersPastUptoCardSaid : Prop := Claim7.holds Tryd.pinned (.plain (OpenSpec.upto headersPastSpec)) headersPastUptoCard

/-- THE SECOND FORM's CARD OF 'ragpickerlaw05.HeadersGrow'. -/
def headersGrowUptoCard : Claim7 := { stood := { row := headersGrowUptoRow, standIns := [], harness := (true, "2f58730b720872324f0d0746052aa73b5efe081a65e65ee90b48cb5c33b58bb8"), looks := false }, kinds := [], alts := [], laidByText := true, laidKinds := [.data, .data], laidTests := true, laidLooks := .later }
def HeadersGrowUptoCardSaid : Prop := Claim7.holds Tryd.pinned (.plain (OpenSpec.upto headersGrowSpec)) headersGrowUptoCard

/-- THE SECOND FORM's CARD OF 'ragpickerlaw05.HeadersOnce'. -/
def headersOnceUptoCard : Claim7 := { stood := { row := headersOnceUptoRow, standIns := [], harness := (true, "2f58730b720872324f0d0746052aa73b5efe081a65e65ee90b48cb5c33b58bb8"), looks := false }, kinds := [], alts := [], laidByText := true, laidKinds := [.data, .data], laidTests := true, laidLooks := .later }
def HeadersOnceUptoCardSaid : Prop := Claim7.holds Tryd.pinned (.plain (OpenSpec.upto headersOnceSpec)) headersOnceUptoCard
end Rows
end Go.Proofs.YtdmcifkbijfmcaaDoor
