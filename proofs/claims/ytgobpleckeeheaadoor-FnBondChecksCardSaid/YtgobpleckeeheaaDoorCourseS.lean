/-
  What is proved: contracts of the laws' own functions on lists of the kind Course: the copy, the comparison of equal lists, the marks. Conditions: lengths as named in each.
-/
import Derived.Test.YtgobpleckeeheaaDoorProg
import Derived.Test.YtgobpleckeeheaaDoorOwned
import Derived.Handy
import Derived.Lib.Hide
import Derived.BigQuiet
import Derived.Deep.QuietTactic
import Derived.StillTailTactics
import Derived.WalkSpells
import Derived.Test.YtgobpleckeeheaaDoorMarkText
namespace Go.Proofs.YtgobpleckeeheaaDoor
open Go.RowKit
set_option linter.unusedVariables false

theorem info_Course : (Tryd.prog.info? 33).map (fun i => (i.zero, i.size, i.bytes)) = some (some (.agg #[.string ⟨#[]⟩, .string ⟨#[]⟩]), 2, 32) := by kernel_rfl

/-- The marked elements, from k0 on. -/
def marksCourse (k0 : Int) (n : Nat) : List Course := (List.range n).map fun i : Nat => ⟨markT (k0 + 2 * (i : Int)), markT (k0 + 2 * (i : Int) + 1)⟩
theorem marksCourse_at (k0 : Int) (n i : Nat) (h : i < n) : (marksCourse k0 n)[i]? = some ⟨markT (k0 + 2 * (i : Int)), markT (k0 + 2 * (i : Int) + 1)⟩ := by
  unfold marksCourse
  rw [List.getElem?_map, List.getElem?_range h]
  rfl
theorem marksCourse_length (k0 : Int) (n : Nat) : (marksCourse k0 n).length = n := by simp [marksCourse]
theorem marksCourse_take (k0 : Int) (n i : Nat) (h : i ≤ n) : (marksCourse k0 n).take i = marksCourse k0 i := by
  unfold marksCourse
  rw [← List.map_take, List.take_range, Nat.min_eq_left h]
end Go.Proofs.YtgobpleckeeheaaDoor
