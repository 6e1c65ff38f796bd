/-
  What is proved: sizes and marks of lists of clays. Conditions: lengths as named in each.
-/
import Derived.Test.YtjoepnmmcagggaaDoorClayS
import Derived.Deep.RegionWith
namespace Go.Proofs.YtjoepnmmcagggaaDoor
open Go.RowKit
set_option linter.unusedVariables false

theorem szClay_ok (x0 : ByteArray) (x1 x2 x3 x4 : Int) (left : Int) (w : World) (h0 : 0 ≤ left) (h1 : left ≤ 1048576) (hs : x0.size ≤ maxLen) :
    Calls Tryd.prog 15 #[.agg #[.string x0, .int .i64 x1, .int .i64 x2, .int .i64 x3, .int .i64 x4], .int .i64 left] w fun e w' => (∃ v : Int, e = .returned (.int .i64 v) ∧ (v = -1 ∨ (0 ≤ v ∧ v ≤ left))) ∧ Below w.heap.size w w' := by
  unfold maxLen at hs
  by_cases h : left < x0.size
  · have d : decide (left - (x0.size : Int) < 0) = true := by simp; omega
    have e := Go.IntWalk.i64_in (left - (x0.size : Int)) ⟨by omega, by omega⟩
    go_enter Tryd.func15, Tryd.ntmps15
    go_wp2
    go_ret
    exact ⟨⟨-1, rfl, .inl rfl⟩, by go_grown⟩
  · have d : decide (left - (x0.size : Int) < 0) = false := by simp; omega
    have e := Go.IntWalk.i64_in (left - (x0.size : Int)) ⟨by omega, by omega⟩
    go_enter Tryd.func15, Tryd.ntmps15
    go_wp2
    go_ret
    exact ⟨⟨_, rfl, .inr ⟨by omega, by omega⟩⟩, by go_grown⟩
end Go.Proofs.YtjoepnmmcagggaaDoor
