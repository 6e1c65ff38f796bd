/-
  What is proved: contracts of the laws' own functions on lists of the kind Clay: the copy, the comparison of equal lists, the marks. Conditions: lengths as named in each.
-/
import Derived.Test.YtjoepnmmcagggaaDoorProg
import Derived.Test.YtjoepnmmcagggaaDoorOwned
import Derived.Handy
import Derived.Lib.Hide
import Derived.BigQuiet
import Derived.Deep.QuietTactic
import Derived.StillTailTactics
import Derived.WalkSpells
import Derived.Test.YtjoepnmmcagggaaDoorMarkText
namespace Go.Proofs.YtjoepnmmcagggaaDoor
open Go.RowKit
set_option linter.unusedVariables false

theorem toClay_ok (x0 : ByteArray) (x1 : Int) (x2 : Int) (x3 : Int) (x4 : Int) (w : World) :
    Calls Tryd.prog 17 #[.agg #[.string x0, .int .i64 x1, .int .i64 x2, .int .i64 x3, .int .i64 x4]] w fun e w' => e = .returned (.agg #[.string x0, .int .i64 x1, .int .i64 x2, .int .i64 x3, .int .i64 x4]) ∧ Below w.heap.size w w' := by
  go_enter Tryd.func17, Tryd.ntmps17
  go_wp2
  exact bodyPost_ret (v := .agg #[.string x0, .int .i64 x1, .int .i64 x2, .int .i64 x3, .int .i64 x4]) (by simp [results, Tryd.results17, go_sem]) rfl ⟨rfl, by go_grown⟩
theorem info_Clay : (Tryd.prog.info? 28).map (fun i => (i.zero, i.size, i.bytes)) = some (some (.agg #[.string ⟨#[]⟩, .int .i64 0, .int .i64 0, .int .i64 0, .int .i64 0]), 5, 48) := by kernel_rfl

theorem eqClay_same (x0 : ByteArray) (x1 : Int) (x2 : Int) (x3 : Int) (x4 : Int) (w : World) :
    Calls Tryd.prog 34 #[.agg #[.string x0, .int .i64 x1, .int .i64 x2, .int .i64 x3, .int .i64 x4], .agg #[.string x0, .int .i64 x1, .int .i64 x2, .int .i64 x3, .int .i64 x4]] w fun e w' => e = .returned (.bool true) ∧ Below w.heap.size w w' := by
  go_enter Tryd.func34, Tryd.ntmps34
  go_wp2
  go_ret
  exact ⟨rfl, by go_grown⟩
/-- The marked elements, from k0 on. -/
def marksClay (k0 : Int) (n : Nat) : List Clay := (List.range n).map fun i : Nat => ⟨markT (k0 + 5 * (i : Int)), k0 + 5 * (i : Int) + 1, k0 + 5 * (i : Int) + 1 + 1, k0 + 5 * (i : Int) + 1 + 1 + 1, k0 + 5 * (i : Int) + 1 + 1 + 1 + 1⟩
theorem marksClay_at (k0 : Int) (n i : Nat) (h : i < n) : (marksClay k0 n)[i]? = some ⟨markT (k0 + 5 * (i : Int)), k0 + 5 * (i : Int) + 1, k0 + 5 * (i : Int) + 1 + 1, k0 + 5 * (i : Int) + 1 + 1 + 1, k0 + 5 * (i : Int) + 1 + 1 + 1 + 1⟩ := by
  unfold marksClay
  rw [List.getElem?_map, List.getElem?_range h]
  rfl
theorem marksClay_length (k0 : Int) (n : Nat) : (marksClay k0 n).length = n := by simp [marksClay]
theorem marksClay_take (k0 : Int) (n i : Nat) (h : i ≤ n) : (marksClay k0 n).take i = marksClay k0 i := by
  unfold marksClay
  rw [← List.map_take, List.take_range, Nat.min_eq_left h]
end Go.Proofs.YtjoepnmmcagggaaDoor
