/-
  DERIVED. GIVEN WITH THE SEED: THE CARDS: each row of YtlokmkiicmpccaaDoorRows.lean that lists a variable, with what it lists TIED to the program's text (the seventh form; the later family's looks); each row that meets fmt, with fmt's text TOLD by the authors' own Lean function (tested against real Go, not proved from fmt's source: count such statements apart). THE CARD IS WHAT COUNTS. Prove the row's statement (the work); the ties are given (YtlokmkiicmpccaaDoorTie.lean); close each card by the builder's one call (the guide's Derived/Test/ToyasCard.lean, 'card_holds'). Laid BY PROGRAM, IN A SANDBOX (cutbox-door.mjs). By AI agents, Wed Nov 11 2026. No macro, syntax, notation, axiom, sorry.
-/
import Derived.Test.YtlokmkiicmpccaaDoorRows
import GoSem.ClaimSeven
namespace Go.Proofs.YtlokmkiicmpccaaDoor
namespace Rows

/-- THE TIED CARD OF 'laws.FnExactBondNames'. -/
def fnExactBondNamesCard : Claim7 := { stood := { row := fnExactBondNamesRow, standIns := [], harness := (true, "b70704cb1a615b84582da67f81a5accc4c005579bd2dab70da72a4bfbfc344c5"), looks := false }, kinds := [], alts := [], laidByText := true, laidKinds := [.data], laidTests := true, laidLooks := .later }
def FnExactBondNamesCardSaid : Prop := Claim7.holds Tryd.pinned (.plain (OpenSpec.ofChange fnExactBondNamesSpec)) fnExactBondNamesCard

/-- THE TIED CARD OF 'laws.FnExactReadBond'. -/
def fnExactReadBondCard : Claim7 := { stood := { row := fnExactReadBondRow, standIns := [], harness := (true, "b70704cb1a615b84582da67f81a5accc4c005579bd2dab70da72a4bfbfc344c5"), looks := false }, kinds := [], alts := [], laidByText := true, laidKinds := [.data, .pinned], laidTests := true, laidLooks := .later }
def FnExactReadBondCardSaid : Prop := Claim7.holds Tryd.pinned (.plain (OpenSpec.ofChange fnExactReadBondSpec)) fnExactReadBondCard

/-- THE TIED CARD OF 'laws.FnExactBondNamed'. -/
def fnExactBondNamedCard : Claim7 := { stood := { row := fnExactBondNamedRow, standIns := [], harness := (true, "b70704cb1a615b84582da67f81a5accc4c005579bd2dab70da72a4bfbfc344c5"), looks := false }, kinds := [], alts := [], laidByText := true, laidKinds := [.data, .data, .pinned], laidTests := true, laidLooks := .later }
def FnExactBondNamedCardSaid : Prop := Claim7.holds Tryd.pinned (.plain (OpenSpec.ofChange fnExactBondNamedSpec)) fnExactBondNamedCard

/-- THE TIED CARD OF 'laws.FnExactCheckBond'. -/
def fnExactCheckBondCard : Claim7 := { stood := { row := fnExactCheckBondRow, standIns := [], harness := (true, "b70704cb1a615b84582da67f81a5accc4c005579bd2dab70da72a4bfbfc344c5"), looks := false }, kinds := [], alts := [], laidByText := true, laidKinds := [.data, .pinned], laidTests := true, laidLooks := .later }
def FnExactCheckBondCardSaid : Prop := Claim7.holds Tryd.pinned (.plain (OpenSpec.ofChange fnExactCheckBondSpec)) fnExactCheckBondCard

/-- THE TIED CARD OF 'laws.FnBonds'. -/
def fnBondsCard : Claim7 := { stood := { row := fnBondsRow, standIns := [], harness := (true, "b70704cb1a615b84582da67f81a5accc4c005579bd2dab70da72a4bfbfc344c5"), looks := false }, kinds := [], alts := [], laidByText := true, laidKinds := [.data, .data, .pinned], laidTests := true, laidLooks := .later }
def FnBondsCardSaid : Prop := Claim7.holds Tryd.pinned (.plain (OpenSpec.ofChange fnBondsSpec)) fnBondsCard

/-- THE TIED CARD OF 'laws.FnBondChecks'. -/
def fnBondChecksCard : Claim7 := { stood := { row := fnBondChecksRow, standIns := [], harness := (true, "b70704cb1a615b84582da67f81a5accc4c005579bd2dab70da72a4bfbfc344c5"), looks := false }, kinds := [], alts := [], laidByText := true, laidKinds := [.data, .pinned], laidTests := true, laidLooks := .later }
def FnBondChecksCardSaid : Prop := Claim7.holds Tryd.pinned (.plain (OpenSpec.ofChange fnBondChecksSpec)) fnBondChecksCard

/-- THE SECOND FORM's CARD OF 'laws.FnExactBondNames'. -/
def fnExactBondNamesUptoCard : Claim7 := { stood := { row := fnExactBondNamesUptoRow, standIns := [], harness := (true, "b70704cb1a615b84582da67f81a5accc4c005579bd2dab70da72a4bfbfc344c5"), looks := false }, kinds := [], alts := [], laidByText := true, laidKinds := [.data], laidTests := true, laidLooks := .later }
def FnExactBondNamesUptoCardSaid : Prop := Claim7.holds Tryd.pinned (.plain (OpenSpec.upto fnExactBondNamesSpec)) fnExactBondNamesUptoCard

/-- THE SECOND FORM's CARD OF 'laws.FnExactReadBond'. -/
def fnExactReadBondUptoCard : Claim7 := { stood := { row := fnExactReadBondUptoRow, standIns := [], harness := (true, "b70704cb1a615b84582da67f81a5accc4c005579bd2dab70da72a4bfbfc344c5"), looks := false }, kinds := [], alts := [], laidByText := true, laidKinds := [.data, .pinned], laidTests := true, laidLooks := .later }
def FnExactReadBondUptoCardSaid : Prop := Claim7.holds Tryd.pinned (.plain (OpenSpec.upto fnExactReadBondSpec)) fnExactReadBondUptoCard

/-- THE SECOND FORM's CARD OF 'laws.FnExactBondNamed'. -/
def fnExactBondNamedUptoCard : Claim7 := { stood := { row := fnExactBondNamedUptoRow, standIns := [], harness := (true, "b70704cb1a615b84582da67f81a5accc4c005579bd2dab70da72a4bfbfc344c5"), looks := false }, kinds := [], alts := [], laidByText := true, laidKinds := [.data, .data, .pinned], laidTests := true, laidLooks := .later }
def FnExactBondNamedUptoCardSaid : Prop := Claim7.holds Tryd.pinned (.plain (OpenSpec.upto fnExactBondNamedSpec)) fnExactBondNamedUptoCard

/-- THE SECOND FORM's CARD OF 'laws.FnExactCheckBond'. -/
def fnExactCheckBondUptoCard : Claim7 := { stood := { row := fnExactCheckBondUptoRow, standIns := [], harness := (true, "b70704cb1a615b84582da67f81a5accc4c005579bd2dab70da72a4bfbfc344c5"), looks := false }, kinds := [], alts := [], laidByText := true, laidKinds := [.data, .pinned], laidTests := true, laidLooks := .later }
def FnExactCheckBondUptoCardSaid : Prop := Claim7.holds Tryd.pinned (.plain (OpenSpec.upto fnExactCheckBondSpec)) fnExactCheckBondUptoCard

/-- THE SECOND FORM's CARD OF 'laws.FnBonds'. -/
def fnBondsUptoCard : Claim7 := { stood := { row := fnBondsUptoRow, standIns := [], harness := (true, "b70704cb1a615b84582da67f81a5accc4c005579bd2dab70da72a4bfbfc344c5"), looks := false }, kinds := [], alts := [], laidByText := true, laidKinds := [.data, .data, .pinned], laidTests := true, laidLooks := .later }
def FnBondsUptoCardSaid : Prop := Claim7.holds Tryd.pinned (.plain (OpenSpec.upto fnBondsSpec)) fnBondsUptoCard

/-- THE SECOND FORM's CARD OF 'laws.FnBondChecks'. -/
def fnBondChecksUptoCard : Claim7 := { stood := { row := fnBondChecksUptoRow, standIns := [], harness := (true, "b70704cb1a615b84582da67f81a5accc4c005579bd2dab70da72a4bfbfc344c5"), looks := false }, kinds := [], alts := [], laidByText := true, laidKinds := [.data, .pinned], laidTests := true, laidLooks := .later }
def FnBondChecksUptoCardSaid : Prop := Claim7.holds Tryd.pinned (.plain (OpenSpec.upto fnBondChecksSpec)) fnBondChecksUptoCard
end Rows
end Go.Proofs.YtlokmkiicmpccaaDoor
