/-
  What is proved: contracts of the program's and the reference's functions on formats. No conditions beyond ranges named in each.
-/
import Derived.Test.YtekejjieclmcfaaProg
import Derived.Test.YtekejjieclmcfaaPlain
import Derived.Handy
namespace Go.Proofs.Ytekejjieclmcfaa
open Go.RowKit
set_option linter.unusedVariables false


set_option maxHeartbeats 400000 in
theorem impl_validFormat (l wd h j : Int) (w : World) :
    Calls Try.prog 24 #[.agg #[.int .i64 l, .int .i64 wd, .int .i64 h, .int .i64 j]] w fun e w' => e = .returned (.bool (fmtB l wd h j)) ∧ Below w.heap.size w w' := by
  go_enter Try.func24, Try.ntmps24
  go_wp2
  all_goals go_ret
  all_goals refine ⟨ret_bool ?_, by go_grown⟩
  all_goals first | exact (decide_eq_false (by unfold FmtOk; omega)).symm | exact decide_eq_decide.2 (by unfold FmtOk; omega)

set_option maxHeartbeats 400000 in
theorem spec_l02Ok (l wd h j : Int) (w : World) :
    Calls Try.prog 53 #[.agg #[.int .i64 l, .int .i64 wd, .int .i64 h, .int .i64 j]] w fun e w' => e = .returned (.bool (fmtB l wd h j)) ∧ Below w.heap.size w w' := by
  go_enter Try.func53, Try.ntmps53
  go_wp2
  all_goals go_ret
  all_goals refine ⟨ret_bool ?_, by go_grown⟩
  all_goals first | exact (decide_eq_false (by unfold FmtOk; omega)).symm | exact decide_eq_decide.2 (by unfold FmtOk; omega)

theorem spec_validFormat (l wd h j : Int) (w : World) :
    Calls Try.prog 22 #[.agg #[.int .i64 l, .int .i64 wd, .int .i64 h, .int .i64 j]] w fun e w' => e = .returned (.bool (fmtB l wd h j)) ∧ Below w.heap.size w w' := by
  go_enter Try.func22, Try.ntmps22
  go_wp2_with fail
  refine (spec_l02Ok _ _ _ _ _).mono ?_
  rintro e w1 ⟨rfl, hb1⟩
  go_wp2
  go_ret
  exact ⟨rfl, (((Below.refl _ _).alloc (Nat.le_refl _) _).trans (hb1.mono (by simp)))⟩

theorem toFormat_ok (l wd h j : Int) (w : World) :
    Calls Try.prog 23 #[.agg #[.int .i64 l, .int .i64 wd, .int .i64 h, .int .i64 j]] w fun e w' => e = .returned (.agg #[.int .i64 l, .int .i64 wd, .int .i64 h, .int .i64 j]) ∧ Below w.heap.size w w' := by
  go_enter Try.func23, Try.ntmps23
  go_wp2
  exact bodyPost_ret (v := .agg #[.int .i64 l, .int .i64 wd, .int .i64 h, .int .i64 j]) (by simp [results, Try.results23, go_sem]) rfl ⟨rfl, by go_grown⟩
end Go.Proofs.Ytekejjieclmcfaa
