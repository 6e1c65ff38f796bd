/-
  What is proved: contracts of MouldFor, of the program and of the reference. No conditions.
-/
import Derived.Test.YtgobpleckeeheaaL02
import Derived.Test.YtgobpleckeeheaaMould
import Derived.StillTailTactics
namespace Go.Proofs.Ytgobpleckeeheaa
open Go.RowKit
set_option linter.unusedVariables false

/-- What MouldFor answers. -/
def mouldForV (l wd h j s : Int) : Value := if fmtB l wd h j = true ∧ 0 ≤ s ∧ s ≤ 200 then .agg #[.int .i64 (leastI l s), .int .i64 (leastI wd s), .int .i64 (leastI h s), .int .i64 0] else .agg #[.int .i64 0, .int .i64 0, .int .i64 0, .int .i64 0]
def mouldForC (l wd h j s : Int) : Int := if fmtB l wd h j = true then (if 0 ≤ s ∧ s ≤ 200 then 0 else 2) else 1

theorem impl_isShrink (s : Int) (w : World) : Calls Try.prog 78 #[.int .i64 s] w fun e w' => e = .returned (.bool (decide (0 ≤ s ∧ s ≤ 200))) ∧ w = w' := by
  by_cases h : 0 ≤ s ∧ s ≤ 200
  · rw [decide_eq_true h]
    go_enter Try.func78, Try.ntmps78
    go_wp2_with fail
    refine (impl_in_yes _ _ _ _ h.1 h.2).mono ?_
    rintro e w1 ⟨rfl, rfl⟩
    go_wp2
    go_ret
    exact ⟨rfl, rfl⟩
  · rw [decide_eq_false h]
    go_enter Try.func78, Try.ntmps78
    go_wp2_with fail
    refine (impl_in_no _ _ _ _ h).mono ?_
    rintro e w1 ⟨rfl, rfl⟩
    go_wp2
    go_ret
    exact ⟨rfl, rfl⟩
end Go.Proofs.Ytgobpleckeeheaa
