/-
  What is proved: contracts of the laws' own functions on lists of the kind Clay: the copy, the comparison of equal lists, the marks. Conditions: lengths as named in each.
-/
import Derived.Test.YtgobpleckeeheaaProg
import Derived.Test.YtgobpleckeeheaaOwned
import Derived.Handy
import Derived.Lib.Hide
import Derived.BigQuiet
import Derived.Deep.QuietTactic
import Derived.StillTailTactics
import Derived.WalkSpells
import Derived.Test.YtgobpleckeeheaaMarkText
namespace Go.Proofs.Ytgobpleckeeheaa
open Go.RowKit
set_option linter.unusedVariables false

theorem info_Clay : (Try.prog.info? 39).map (fun i => (i.zero, i.size, i.bytes)) = some (some (.agg #[.string ⟨#[]⟩, .int .i64 0, .int .i64 0, .int .i64 0, .int .i64 0]), 5, 48) := by kernel_rfl

/-- The marked elements, from k0 on. -/
def marksClay (k0 : Int) (n : Nat) : List Clay := (List.range n).map fun i : Nat => ⟨markT (k0 + 5 * (i : Int)), k0 + 5 * (i : Int) + 1, k0 + 5 * (i : Int) + 1 + 1, k0 + 5 * (i : Int) + 1 + 1 + 1, k0 + 5 * (i : Int) + 1 + 1 + 1 + 1⟩
theorem marksClay_at (k0 : Int) (n i : Nat) (h : i < n) : (marksClay k0 n)[i]? = some ⟨markT (k0 + 5 * (i : Int)), k0 + 5 * (i : Int) + 1, k0 + 5 * (i : Int) + 1 + 1, k0 + 5 * (i : Int) + 1 + 1 + 1, k0 + 5 * (i : Int) + 1 + 1 + 1 + 1⟩ := by
  unfold marksClay
  rw [List.getElem?_map, List.getElem?_range h]
  rfl
theorem marksClay_length (k0 : Int) (n : Nat) : (marksClay k0 n).length = n := by simp [marksClay]
theorem marksClay_take (k0 : Int) (n i : Nat) (h : i ≤ n) : (marksClay k0 n).take i = marksClay k0 i := by
  unfold marksClay
  rw [← List.map_take, List.take_range, Nat.min_eq_left h]
end Go.Proofs.Ytgobpleckeeheaa
