/-
  What is proved: a mould is valid, a list of moulds is valid: contracts of the program's and the reference's functions. Conditions: lengths that fit.
-/
import Derived.Test.YtfjdhjbfingofaaGreatDoorMouldS
import Derived.Test.YtfjdhjbfingofaaGreatDoorJoinD
namespace Go.Proofs.YtfjdhjbfingofaaGreatDoor
open Go.RowKit
set_option linter.unusedVariables false

def Mould.Ok (m : Mould) : Prop := (30 ≤ m.l ∧ m.l ≤ 800) ∧ (30 ≤ m.w ∧ m.w ≤ 800) ∧ (30 ≤ m.h ∧ m.h ≤ 800) ∧ (0 ≤ m.u ∧ m.u ≤ 100000)
instance (m : Mould) : Decidable m.Ok := by unfold Mould.Ok; infer_instance
def Mould.ok (m : Mould) : Bool := decide m.Ok
/-- A list of moulds is valid. -/
def mouldsOk (zs : List Mould) : Bool := decide (zs.length ≤ 20) && zs.all Mould.ok

end Go.Proofs.YtfjdhjbfingofaaGreatDoor
