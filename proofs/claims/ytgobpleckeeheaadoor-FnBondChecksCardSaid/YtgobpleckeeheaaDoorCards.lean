/-
  DERIVED. GIVEN WITH THE SEED: THE CARDS: each row of YtgobpleckeeheaaDoorRows.lean that lists a variable, with what it lists TIED to the program's text (the seventh form; the later family's looks); each row that meets fmt, with fmt's text TOLD by the authors' own Lean function (tested against real Go, not proved from fmt's source: count such statements apart). THE CARD IS WHAT COUNTS. Prove the row's statement (the work); the ties are given (YtgobpleckeeheaaDoorTie.lean); close each card by the builder's one call (the guide's Derived/Test/ToyasCard.lean, 'card_holds'). Laid BY PROGRAM, IN A SANDBOX (cutbox-door.mjs). By AI agents, Wed Nov 11 2026. No macro, syntax, notation, axiom, sorry.
-/
import Derived.Test.YtgobpleckeeheaaDoorRows
import GoSem.ClaimSeven
namespace Go.Proofs.YtgobpleckeeheaaDoor
namespace Rows

/-- THE TIED CARD OF 'laws.FnBondChecks'. -/
def fnBondChecksCard : Claim7 := { stood := { row := fnBondChecksRow, standIns := [], harness := (true, "7281daf6e819e1e5b718753296c254754accd7f7cde191974bbd2d006d0e12a4"), looks := false }, kinds := [], alts := [], laidByText := true, laidKinds := [.data, .pinned], laidTests := true, laidLooks := .later }
def FnBondChecksCardSaid : Prop := Claim7.holds Tryd.pinned (.plain (OpenSpec.ofChange fnBondChecksSpec)) fnBondChecksCard

/-- THE SECOND FORM's CARD OF 'laws.FnBondChecks'. -/
def fnBondChecksUptoCard : Claim7 := { stood := { row := fnBondChecksUptoRow, standIns := [], harness := (true, "7281daf6e819e1e5b718753296c254754accd7f7cde191974bbd2d006d0e12a4"), looks := false }, kinds := [], alts := [], laidByText := true, laidKinds := [.data, .pinned], laidTests := true, laidLooks := .later }
def FnBondChecksUptoCardSaid : Prop := Claim7.holds Tryd.pinned (.plain (OpenSpec.upto fnBondChecksSpec)) fnBondChecksUptoCard
end Rows
end Go.Proofs.YtgobpleckeeheaaDoor
