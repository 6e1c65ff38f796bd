/-
  What is proved: impl.ProblemName and spec.ProblemName give the same word for every kind. No conditions.
-/
import Derived.Test.YtgobpleckeeheaaDoorProg
import Derived.Handy
namespace Go.Proofs.YtgobpleckeeheaaDoor
open Go.RowKit
set_option linter.unusedVariables false

/-- The name of a kind of problems. -/
def problemName (k : Int) : ByteArray := if k = 1 then ⟨#[119, 111, 114, 100, 115]⟩ else if k = 2 then ⟨#[110, 97, 109, 101]⟩ else if k = 3 then ⟨#[108, 101, 116, 116, 101, 114]⟩ else if k = 4 then ⟨#[101, 109, 112, 116, 121]⟩ else if k = 5 then ⟨#[108, 111, 110, 103]⟩ else if k = 6 then ⟨#[109, 97, 110, 121]⟩ else ⟨#[]⟩

theorem pn_index1 (w : World) : (Instr.index 54 (.agg #[.string ⟨#[]⟩, .string ⟨#[119, 111, 114, 100, 115]⟩, .string ⟨#[110, 97, 109, 101]⟩, .string ⟨#[108, 101, 116, 116, 101, 114]⟩, .string ⟨#[101, 109, 112, 116, 121]⟩, .string ⟨#[108, 111, 110, 103]⟩, .string ⟨#[109, 97, 110, 121]⟩]) (.int .i64 1)).run Tryd.prog w = .ok (.string ⟨#[119, 111, 114, 100, 115]⟩) w := by kernel_rfl
theorem pn_index2 (w : World) : (Instr.index 54 (.agg #[.string ⟨#[]⟩, .string ⟨#[119, 111, 114, 100, 115]⟩, .string ⟨#[110, 97, 109, 101]⟩, .string ⟨#[108, 101, 116, 116, 101, 114]⟩, .string ⟨#[101, 109, 112, 116, 121]⟩, .string ⟨#[108, 111, 110, 103]⟩, .string ⟨#[109, 97, 110, 121]⟩]) (.int .i64 2)).run Tryd.prog w = .ok (.string ⟨#[110, 97, 109, 101]⟩) w := by kernel_rfl
theorem pn_index3 (w : World) : (Instr.index 54 (.agg #[.string ⟨#[]⟩, .string ⟨#[119, 111, 114, 100, 115]⟩, .string ⟨#[110, 97, 109, 101]⟩, .string ⟨#[108, 101, 116, 116, 101, 114]⟩, .string ⟨#[101, 109, 112, 116, 121]⟩, .string ⟨#[108, 111, 110, 103]⟩, .string ⟨#[109, 97, 110, 121]⟩]) (.int .i64 3)).run Tryd.prog w = .ok (.string ⟨#[108, 101, 116, 116, 101, 114]⟩) w := by kernel_rfl
theorem pn_index4 (w : World) : (Instr.index 54 (.agg #[.string ⟨#[]⟩, .string ⟨#[119, 111, 114, 100, 115]⟩, .string ⟨#[110, 97, 109, 101]⟩, .string ⟨#[108, 101, 116, 116, 101, 114]⟩, .string ⟨#[101, 109, 112, 116, 121]⟩, .string ⟨#[108, 111, 110, 103]⟩, .string ⟨#[109, 97, 110, 121]⟩]) (.int .i64 4)).run Tryd.prog w = .ok (.string ⟨#[101, 109, 112, 116, 121]⟩) w := by kernel_rfl
theorem pn_index5 (w : World) : (Instr.index 54 (.agg #[.string ⟨#[]⟩, .string ⟨#[119, 111, 114, 100, 115]⟩, .string ⟨#[110, 97, 109, 101]⟩, .string ⟨#[108, 101, 116, 116, 101, 114]⟩, .string ⟨#[101, 109, 112, 116, 121]⟩, .string ⟨#[108, 111, 110, 103]⟩, .string ⟨#[109, 97, 110, 121]⟩]) (.int .i64 5)).run Tryd.prog w = .ok (.string ⟨#[108, 111, 110, 103]⟩) w := by kernel_rfl
theorem pn_index6 (w : World) : (Instr.index 54 (.agg #[.string ⟨#[]⟩, .string ⟨#[119, 111, 114, 100, 115]⟩, .string ⟨#[110, 97, 109, 101]⟩, .string ⟨#[108, 101, 116, 116, 101, 114]⟩, .string ⟨#[101, 109, 112, 116, 121]⟩, .string ⟨#[108, 111, 110, 103]⟩, .string ⟨#[109, 97, 110, 121]⟩]) (.int .i64 6)).run Tryd.prog w = .ok (.string ⟨#[109, 97, 110, 121]⟩) w := by kernel_rfl
theorem impl_problemName1 (w : World) : Calls Tryd.prog 10 #[.int .i64 1] w fun e w' => e = .returned (.string (problemName 1)) ∧ Below w.heap.size w w' := by
  have i0 := pn_index1
  go_enter Tryd.func10, Tryd.ntmps10
  go_wp2
  go_ret
  exact ⟨rfl, by go_grown⟩
theorem impl_problemName2 (w : World) : Calls Tryd.prog 10 #[.int .i64 2] w fun e w' => e = .returned (.string (problemName 2)) ∧ Below w.heap.size w w' := by
  have i0 := pn_index2
  go_enter Tryd.func10, Tryd.ntmps10
  go_wp2
  go_ret
  exact ⟨rfl, by go_grown⟩
theorem impl_problemName3 (w : World) : Calls Tryd.prog 10 #[.int .i64 3] w fun e w' => e = .returned (.string (problemName 3)) ∧ Below w.heap.size w w' := by
  have i0 := pn_index3
  go_enter Tryd.func10, Tryd.ntmps10
  go_wp2
  go_ret
  exact ⟨rfl, by go_grown⟩
theorem impl_problemName4 (w : World) : Calls Tryd.prog 10 #[.int .i64 4] w fun e w' => e = .returned (.string (problemName 4)) ∧ Below w.heap.size w w' := by
  have i0 := pn_index4
  go_enter Tryd.func10, Tryd.ntmps10
  go_wp2
  go_ret
  exact ⟨rfl, by go_grown⟩
theorem impl_problemName5 (w : World) : Calls Tryd.prog 10 #[.int .i64 5] w fun e w' => e = .returned (.string (problemName 5)) ∧ Below w.heap.size w w' := by
  have i0 := pn_index5
  go_enter Tryd.func10, Tryd.ntmps10
  go_wp2
  go_ret
  exact ⟨rfl, by go_grown⟩
theorem impl_problemName6 (w : World) : Calls Tryd.prog 10 #[.int .i64 6] w fun e w' => e = .returned (.string (problemName 6)) ∧ Below w.heap.size w w' := by
  have i0 := pn_index6
  go_enter Tryd.func10, Tryd.ntmps10
  go_wp2
  go_ret
  exact ⟨rfl, by go_grown⟩
theorem impl_problemName_no (k : Int) (w : World) (h : ¬ (1 ≤ k ∧ k ≤ 6)) : Calls Tryd.prog 10 #[.int .i64 k] w fun e w' => e = .returned (.string ⟨#[]⟩) ∧ Below w.heap.size w w' := by
  have h2 : k < 1 ∨ (1 ≤ k ∧ 6 < k) := by omega
  clear h
  rcases h2 with h2 | ⟨h2, h3⟩
  · have d1 : decide (1 ≤ k) = false := by simp; omega
    clear h2
    go_enter Tryd.func10, Tryd.ntmps10
    go_wp2
    go_ret
    exact ⟨rfl, by go_grown⟩
  · have d1 : decide (1 ≤ k) = true := by simp; omega
    have d2 : decide (k ≤ 6) = false := by simp; omega
    clear h2 h3
    go_enter Tryd.func10, Tryd.ntmps10
    go_wp2
    go_ret
    exact ⟨rfl, by go_grown⟩
theorem impl_problemName (k : Int) (w : World) : Calls Tryd.prog 10 #[.int .i64 k] w fun e w' => e = .returned (.string (problemName k)) ∧ Below w.heap.size w w' := by
  by_cases h : 1 ≤ k ∧ k ≤ 6
  · have h6 : k = 1 ∨ k = 2 ∨ k = 3 ∨ k = 4 ∨ k = 5 ∨ k = 6 := by omega
    rcases h6 with rfl | rfl | rfl | rfl | rfl | rfl
    · exact impl_problemName1 w
    · exact impl_problemName2 w
    · exact impl_problemName3 w
    · exact impl_problemName4 w
    · exact impl_problemName5 w
    · exact impl_problemName6 w
  · have e : problemName k = ⟨#[]⟩ := by
      unfold problemName
      rw [if_neg (by omega), if_neg (by omega), if_neg (by omega), if_neg (by omega), if_neg (by omega), if_neg (by omega)]
    rw [e]
    exact impl_problemName_no k w h
end Go.Proofs.YtgobpleckeeheaaDoor
