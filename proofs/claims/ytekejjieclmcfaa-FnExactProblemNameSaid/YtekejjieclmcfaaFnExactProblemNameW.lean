/-
  What is proved: the law FnExactProblemName returns true and changes nothing that was there, for every input. No conditions.
-/
import Derived.Test.YtekejjieclmcfaaProblemName
namespace Go.Proofs.Ytekejjieclmcfaa
open Go.RowKit
set_option linter.unusedVariables false

theorem fnExactProblemNameWalk (a0 : Int) (w : World) (w0 : (Lit.int .i64 a0).wf = true) :
    Calls Try.prog 5 #[.int .i64 a0] w fun e w' => e = .returned (.bool true) ∧ Below w.heap.size w w' := by
  clear w0
  go_enter Try.func5, Try.ntmps5
  go_wp2_with fail
  refine (spec_problemName _ _).mono ?_
  rintro e w1 ⟨rfl, hb1⟩
  go_wp2_with fail
  refine (impl_problemName _ _).mono ?_
  rintro e w2 ⟨rfl, hb2⟩
  generalize problemName a0 = s at *
  go_wp2
  go_ret
  exact ⟨rfl, hb1.trans (hb2.mono hb1.size)⟩
end Go.Proofs.Ytekejjieclmcfaa
