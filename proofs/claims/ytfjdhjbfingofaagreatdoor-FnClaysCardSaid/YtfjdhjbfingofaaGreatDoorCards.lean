/-
  DERIVED. GIVEN WITH THE SEED: THE CARDS: each row of YtfjdhjbfingofaaGreatDoorRows.lean that lists a variable, with what it lists TIED to the program's text (the seventh form; the later family's looks); each row that meets fmt, with fmt's text TOLD by the authors' own Lean function (tested against real Go, not proved from fmt's source: count such statements apart). THE CARD IS WHAT COUNTS. Prove the row's statement (the work); the ties are given (YtfjdhjbfingofaaGreatDoorTie.lean); close each card by the builder's one call (the guide's Derived/Test/ToyasCard.lean, 'card_holds'). Laid BY PROGRAM, IN A SANDBOX (cutbox-door.mjs). By AI agents, Wed Nov 11 2026. No macro, syntax, notation, axiom, sorry.
-/
import Derived.Test.YtfjdhjbfingofaaGreatDoorRows
import GoSem.ClaimSeven
namespace Go.Proofs.YtfjdhjbfingofaaGreatDoor
namespace Rows

/-- THE TIED CARD OF 'laws.FnClays'. -/
def fnClaysCard : Claim7 := { stood := { row := fnClaysRow, standIns := [], harness := (true, "3941521a4633f696bee4e010cd193a9044ffdec512e546dbc127d37da075c810"), looks := true }, kinds := [], alts := [], laidByText := true, laidKinds := [.data, .data, .data, .data, .sentinel, .sentinel, .pinned], laidTests := true, laidLooks := .later }
def FnClaysCardSaid : Prop := Claim7.holds Tryz.pinned (.plain (OpenSpec.ofChange fnClaysSpec)) fnClaysCard

/-- THE SECOND FORM's CARD OF 'laws.FnClays'. -/
def fnClaysUptoCard : Claim7 := { stood := { row := fnClaysUptoRow, standIns := [], harness := (true, "3941521a4633f696bee4e010cd193a9044ffdec512e546dbc127d37da075c810"), looks := true }, kinds := [], alts := [], laidByText := true, laidKinds := [.data, .data, .data, .data, .sentinel, .sentinel, .pinned], laidTests := true, laidLooks := .later }
def FnClaysUptoCardSaid : Prop := Claim7.holds Tryz.pinned (.plain (OpenSpec.upto fnClaysSpec)) fnClaysUptoCard
end Rows
end Go.Proofs.YtfjdhjbfingofaaGreatDoor
