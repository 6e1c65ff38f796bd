/-
  What is proved: the law FnExactConstants returns true and changes nothing. No conditions.
-/
import Derived.Test.YtekejjieclmcfaaProg
import Derived.Handy
namespace Go.Proofs.Ytekejjieclmcfaa
open Go.RowKit
set_option linter.unusedVariables false

theorem fnExactConstantsWalk (w : World) :
    Calls Try.prog 3 #[] w fun e w' => e = .returned (.bool true) ∧ Below w.heap.size w w' := by
  go_enter Try.func3, Try.ntmps3
  go_wp2
  go_ret
  exact ⟨rfl, by go_grown⟩
end Go.Proofs.Ytekejjieclmcfaa
