/-
  What is proved: the law FnExactIsCut returns true and changes nothing, for every byte. No conditions.
-/
import Derived.Test.YtekejjieclmcfaaProg
import Derived.Handy
namespace Go.Proofs.Ytekejjieclmcfaa
open Go.RowKit
set_option linter.unusedVariables false

theorem fnExactIsCutWalk (a0 : Int) (w : World) (w0 : (Lit.int .u8 a0).wf = true) :
    Calls Try.prog 4 #[.int .u8 a0] w fun e w' => e = .returned (.bool true) ∧ Below w.heap.size w w' := by
  go_enter Try.func4, Try.ntmps4
  go_wp2
  all_goals go_ret
  all_goals exact ⟨rfl, by go_grown⟩
end Go.Proofs.Ytekejjieclmcfaa
