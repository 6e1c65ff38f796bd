/-
  What is proved: the law FnExactQuartersOf returns true and changes nothing that was there, for every input. No conditions beyond the arguments' own ranges.
-/
import Derived.Test.YtekejjieclmcfaaProg
import Derived.Handy

namespace Go.Proofs.Ytekejjieclmcfaa
open Go.RowKit
set_option linter.unusedVariables false

theorem fnExactQuartersOfWalk (a0 : Int) (w : World) (w0 : (Lit.int .u8 a0).wf = true) :
    Calls Try.prog 11 #[.int .u8 a0] w fun e w' => e = .returned (.bool true) ∧ Below w.heap.size w w' := by
  by_cases h1 : a0 = 83
  · subst h1
    go_enter Try.func11, Try.ntmps11
    go_wp2
    go_ret
    exact ⟨rfl, by go_grown⟩
  by_cases h2 : a0 = 84
  · subst h2
    go_enter Try.func11, Try.ntmps11
    go_wp2
    go_ret
    exact ⟨rfl, by go_grown⟩
  by_cases h3 : a0 = 72
  · subst h3
    go_enter Try.func11, Try.ntmps11
    go_wp2
    go_ret
    exact ⟨rfl, by go_grown⟩
  by_cases h4 : a0 = 66
  · subst h4
    go_enter Try.func11, Try.ntmps11
    go_wp2
    go_ret
    exact ⟨rfl, by go_grown⟩
  by_cases h5 : a0 = 67
  · subst h5
    go_enter Try.func11, Try.ntmps11
    go_wp2
    go_ret
    exact ⟨rfl, by go_grown⟩
  have e1 : (a0 == 83) = false := by simp [h1]
  have e2 : (a0 == 84) = false := by simp [h2]
  have e3 : (a0 == 72) = false := by simp [h3]
  have e4 : (a0 == 66) = false := by simp [h4]
  have e5 : (a0 == 67) = false := by simp [h5]
  clear h1 h2 h3 h4 h5
  go_enter Try.func11, Try.ntmps11
  go_wp2
  go_ret
  exact ⟨rfl, by go_grown⟩
end Go.Proofs.Ytekejjieclmcfaa
