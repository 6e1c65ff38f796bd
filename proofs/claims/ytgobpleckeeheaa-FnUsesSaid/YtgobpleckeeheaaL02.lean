/-
  What is proved: contracts of the program's and the reference's functions on formats. No conditions beyond ranges named in each.
-/
import Derived.Test.YtgobpleckeeheaaProg
import Derived.Test.YtgobpleckeeheaaPlain
import Derived.Handy
namespace Go.Proofs.Ytgobpleckeeheaa
open Go.RowKit
set_option linter.unusedVariables false


set_option maxHeartbeats 400000 in
theorem impl_validFormat (l wd h j : Int) (w : World) :
    Calls Try.prog 77 #[.agg #[.int .i64 l, .int .i64 wd, .int .i64 h, .int .i64 j]] w fun e w' => e = .returned (.bool (fmtB l wd h j)) ∧ Below w.heap.size w w' := by
  go_enter Try.func77, Try.ntmps77
  go_wp2
  all_goals go_ret
  all_goals refine ⟨ret_bool ?_, by go_grown⟩
  all_goals first | exact (decide_eq_false (by unfold FmtOk; omega)).symm | exact decide_eq_decide.2 (by unfold FmtOk; omega)

set_option maxHeartbeats 400000 in
theorem spec_l02Ok (l wd h j : Int) (w : World) :
    Calls Try.prog 82 #[.agg #[.int .i64 l, .int .i64 wd, .int .i64 h, .int .i64 j]] w fun e w' => e = .returned (.bool (fmtB l wd h j)) ∧ Below w.heap.size w w' := by
  go_enter Try.func82, Try.ntmps82
  go_wp2
  all_goals go_ret
  all_goals refine ⟨ret_bool ?_, by go_grown⟩
  all_goals first | exact (decide_eq_false (by unfold FmtOk; omega)).symm | exact decide_eq_decide.2 (by unfold FmtOk; omega)

end Go.Proofs.Ytgobpleckeeheaa
