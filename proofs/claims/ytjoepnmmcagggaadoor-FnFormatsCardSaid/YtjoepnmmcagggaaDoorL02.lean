/-
  What is proved: contracts of the program's and the reference's functions on formats. No conditions beyond ranges named in each.
-/
import Derived.Test.YtjoepnmmcagggaaDoorProg
import Derived.Test.YtjoepnmmcagggaaDoorPlain
import Derived.Handy
namespace Go.Proofs.YtjoepnmmcagggaaDoor
open Go.RowKit
set_option linter.unusedVariables false


set_option maxHeartbeats 400000 in
theorem impl_validFormat (l wd h j : Int) (w : World) :
    Calls Tryd.prog 55 #[.agg #[.int .i64 l, .int .i64 wd, .int .i64 h, .int .i64 j]] w fun e w' => e = .returned (.bool (fmtB l wd h j)) ∧ Below w.heap.size w w' := by
  go_enter Tryd.func55, Tryd.ntmps55
  go_wp2
  all_goals go_ret
  all_goals refine ⟨ret_bool ?_, by go_grown⟩
  all_goals first | exact (decide_eq_false (by unfold FmtOk; omega)).symm | exact decide_eq_decide.2 (by unfold FmtOk; omega)

set_option maxHeartbeats 400000 in
theorem spec_l02Ok (l wd h j : Int) (w : World) :
    Calls Tryd.prog 53 #[.agg #[.int .i64 l, .int .i64 wd, .int .i64 h, .int .i64 j]] w fun e w' => e = .returned (.bool (fmtB l wd h j)) ∧ Below w.heap.size w w' := by
  go_enter Tryd.func53, Tryd.ntmps53
  go_wp2
  all_goals go_ret
  all_goals refine ⟨ret_bool ?_, by go_grown⟩
  all_goals first | exact (decide_eq_false (by unfold FmtOk; omega)).symm | exact decide_eq_decide.2 (by unfold FmtOk; omega)

theorem toFormat_ok (l wd h j : Int) (w : World) :
    Calls Tryd.prog 20 #[.agg #[.int .i64 l, .int .i64 wd, .int .i64 h, .int .i64 j]] w fun e w' => e = .returned (.agg #[.int .i64 l, .int .i64 wd, .int .i64 h, .int .i64 j]) ∧ Below w.heap.size w w' := by
  go_enter Tryd.func20, Tryd.ntmps20
  go_wp2
  exact bodyPost_ret (v := .agg #[.int .i64 l, .int .i64 wd, .int .i64 h, .int .i64 j]) (by simp [results, Tryd.results20, go_sem]) rfl ⟨rfl, by go_grown⟩
end Go.Proofs.YtjoepnmmcagggaaDoor
