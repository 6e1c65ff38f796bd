/-
  What is proved: limits carried over to the program's own. No conditions.
-/
import Derived.Test.YtfjnhocmkafnbaaBLim
namespace Go.Proofs.Ytfjnhocmkafnbaa
open Go.RowKit
set_option linter.unusedVariables false

theorem toLimits_ok (l h m s : Int) (w : World) :
    Calls Try.prog 25 #[.agg #[.int .i64 l, .int .i64 h, .int .i64 m, .int .i64 s]] w fun e w' => e = .returned (.agg #[.int .i64 l, .int .i64 h, .int .i64 m, .int .i64 s]) ∧ Below w.heap.size w w' := by
  go_enter Try.func25, Try.ntmps25
  go_wp2
  exact bodyPost_ret (v := .agg #[.int .i64 l, .int .i64 h, .int .i64 m, .int .i64 s]) (by simp [results, Try.results25, go_sem]) rfl ⟨rfl, by go_grown⟩
end Go.Proofs.Ytfjnhocmkafnbaa
