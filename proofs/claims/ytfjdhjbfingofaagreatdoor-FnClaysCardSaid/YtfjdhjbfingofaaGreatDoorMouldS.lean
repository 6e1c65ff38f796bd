/-
  What is proved: contracts of the laws' own functions on lists of the kind Mould: the copy, the comparison of equal lists, the marks. Conditions: lengths as named in each.
-/
import Derived.Test.YtfjdhjbfingofaaGreatDoorProg
import Derived.Test.YtfjdhjbfingofaaGreatDoorJoinA
import Derived.Handy
import Derived.Lib.Hide
import Derived.BigQuiet
import Derived.Deep.QuietTactic
import Derived.StillTailTactics
import Derived.WalkSpells
namespace Go.Proofs.YtfjdhjbfingofaaGreatDoor
open Go.RowKit
set_option linter.unusedVariables false


/-- The marked elements, from k0 on. -/
def marksMould (k0 : Int) (n : Nat) : List Mould := (List.range n).map fun i : Nat => ⟨k0 + 4 * (i : Int), k0 + 4 * (i : Int) + 1, k0 + 4 * (i : Int) + 1 + 1, k0 + 4 * (i : Int) + 1 + 1 + 1⟩
theorem marksMould_at (k0 : Int) (n i : Nat) (h : i < n) : (marksMould k0 n)[i]? = some ⟨k0 + 4 * (i : Int), k0 + 4 * (i : Int) + 1, k0 + 4 * (i : Int) + 1 + 1, k0 + 4 * (i : Int) + 1 + 1 + 1⟩ := by
  unfold marksMould
  rw [List.getElem?_map, List.getElem?_range h]
  rfl
theorem marksMould_length (k0 : Int) (n : Nat) : (marksMould k0 n).length = n := by simp [marksMould]
theorem marksMould_take (k0 : Int) (n i : Nat) (h : i ≤ n) : (marksMould k0 n).take i = marksMould k0 i := by
  unfold marksMould
  rw [← List.map_take, List.take_range, Nat.min_eq_left h]
end Go.Proofs.YtfjdhjbfingofaaGreatDoor
