/-
  What is proved: the law FnExactIsName returns true and changes nothing that was there, for every input. No conditions beyond the arguments' own ranges.
-/
import Derived.Test.YtekejjieclmcfaaName
namespace Go.Proofs.Ytekejjieclmcfaa
open Go.RowKit
set_option linter.unusedVariables false

set_option maxHeartbeats 400000 in
theorem fnExactIsNameWalk (a0 : ByteArray) (w : World) (w0 : a0.size ≤ maxLen) :
    Calls Try.prog 8 #[.string a0] w fun e w' => e = .returned (.bool true) ∧ Below w.heap.size w w' := by
  have W0 := w0
  unfold maxLen at w0
  by_cases hbig : 1048576 < a0.size
  · have d : decide (1048576 < (a0.size : Int)) = true := by simp; omega
    go_enter Try.func8, Try.ntmps8
    go_wp2_with fail
    go_ret
    exact ⟨rfl, by go_grown⟩
  have d : decide (1048576 < (a0.size : Int)) = false := by simp; omega
  have HW0 := hide W0
  clear hbig W0
  go_enter Try.func8, Try.ntmps8
  go_wp2_with fail
  refine (spec_isName _ _ HW0.out).mono ?_
  rintro e w1 ⟨rfl, rfl⟩
  go_wp2_with fail
  refine (impl_isName _ _ HW0.out).mono ?_
  rintro e w1 ⟨rfl, rfl⟩
  generalize nameB a0 = v at *
  go_wp2
  go_ret
  exact ⟨rfl, by go_grown⟩
end Go.Proofs.Ytekejjieclmcfaa
