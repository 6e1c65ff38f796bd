/-
  What is proved: contracts of fired, rounded, ShrinkBy and of the least size of MouldFor, of the program and of the reference. Conditions: the ranges named in each.
-/
import Derived.Test.YtgobpleckeeheaaProg
import Derived.Test.YtgobpleckeeheaaPlainM
import Derived.Handy
import Derived.Lib.Hide
namespace Go.Proofs.Ytgobpleckeeheaa
open Go.RowKit
set_option linter.unusedVariables false

theorem impl_in_yes (n lo hi : Int) (w : World) (h1 : lo ≤ n) (h2 : n ≤ hi) :
    Calls Try.prog 63 #[.int .i64 n, .int .i64 lo, .int .i64 hi] w fun e w' => e = .returned (.bool true) ∧ w = w' := by
  have d1 : decide (lo ≤ n) = true := by simpa using h1
  have d2 : decide (n ≤ hi) = true := by simpa using h2
  clear h1 h2
  go_enter Try.func63, Try.ntmps63
  go_wp2
  go_ret
  exact ⟨rfl, rfl⟩
theorem impl_in_no (n lo hi : Int) (w : World) (h : ¬ (lo ≤ n ∧ n ≤ hi)) :
    Calls Try.prog 63 #[.int .i64 n, .int .i64 lo, .int .i64 hi] w fun e w' => e = .returned (.bool false) ∧ w = w' := by
  by_cases h1 : lo ≤ n
  · have d1 : decide (lo ≤ n) = true := by simpa using h1
    have d2 : decide (n ≤ hi) = false := by simp; omega
    clear h h1
    go_enter Try.func63, Try.ntmps63
    go_wp2
    go_ret
    exact ⟨rfl, rfl⟩
  · have d1 : decide (lo ≤ n) = false := by simpa using h1
    clear h h1
    go_enter Try.func63, Try.ntmps63
    go_wp2
    go_ret
    exact ⟨rfl, rfl⟩
theorem impl_in (n lo hi : Int) (w : World) :
    Calls Try.prog 63 #[.int .i64 n, .int .i64 lo, .int .i64 hi] w fun e w' => e = .returned (.bool (decide (lo ≤ n ∧ n ≤ hi))) ∧ w = w' := by
  by_cases h : lo ≤ n ∧ n ≤ hi
  · rw [decide_eq_true h]
    exact impl_in_yes n lo hi w h.1 h.2
  · rw [decide_eq_false h]
    exact impl_in_no n lo hi w h
theorem spec_in_yes (n lo hi : Int) (w : World) (h1 : lo ≤ n) (h2 : n ≤ hi) :
    Calls Try.prog 66 #[.int .i64 n, .int .i64 lo, .int .i64 hi] w fun e w' => e = .returned (.bool true) ∧ w = w' := by
  have d1 : decide (lo ≤ n) = true := by simpa using h1
  have d2 : decide (n ≤ hi) = true := by simpa using h2
  clear h1 h2
  go_enter Try.func66, Try.ntmps66
  go_wp2
  go_ret
  exact ⟨rfl, rfl⟩
theorem spec_in_no (n lo hi : Int) (w : World) (h : ¬ (lo ≤ n ∧ n ≤ hi)) :
    Calls Try.prog 66 #[.int .i64 n, .int .i64 lo, .int .i64 hi] w fun e w' => e = .returned (.bool false) ∧ w = w' := by
  by_cases h1 : lo ≤ n
  · have d1 : decide (lo ≤ n) = true := by simpa using h1
    have d2 : decide (n ≤ hi) = false := by simp; omega
    clear h h1
    go_enter Try.func66, Try.ntmps66
    go_wp2
    go_ret
    exact ⟨rfl, rfl⟩
  · have d1 : decide (lo ≤ n) = false := by simpa using h1
    clear h h1
    go_enter Try.func66, Try.ntmps66
    go_wp2
    go_ret
    exact ⟨rfl, rfl⟩
theorem spec_in (n lo hi : Int) (w : World) :
    Calls Try.prog 66 #[.int .i64 n, .int .i64 lo, .int .i64 hi] w fun e w' => e = .returned (.bool (decide (lo ≤ n ∧ n ≤ hi))) ∧ w = w' := by
  by_cases h : lo ≤ n ∧ n ≤ hi
  · rw [decide_eq_true h]
    exact spec_in_yes n lo hi w h.1 h.2
  · rw [decide_eq_false h]
    exact spec_in_no n lo hi w h
theorem impl_fired (n s : Int) (w : World) (h0 : 0 ≤ n) (h1 : n ≤ 100000) (h2 : 0 ≤ s) (h3 : s ≤ 1000) :
    Calls Try.prog 111 #[.int .i64 n, .int .i64 s] w fun e w' => e = .returned (.int .i64 (firedI n s)) ∧ w = w' := by
  have m := fired_mul n s h0 h1 h2 h3
  unfold firedI
  go_enter Try.func111, Try.ntmps111
  go_wp2
  go_ret
  exact ⟨rfl, rfl⟩
theorem spec_l05Fired (n s : Int) (w : World) (h0 : 0 ≤ n) (h1 : n ≤ 100000) (h2 : 0 ≤ s) (h3 : s ≤ 1000) :
    Calls Try.prog 124 #[.int .i64 n, .int .i64 s] w fun e w' => e = .returned (.int .i64 (firedI n s)) ∧ w = w' := by
  have m := fired_mul n s h0 h1 h2 h3
  have e : 2 * n * (1000 - s) = 2 * (n * (1000 - s)) := Int.mul_assoc _ _ _
  have m1 : 0 ≤ 2 * n * (1000 - s) ∧ 2 * n * (1000 - s) ≤ 200000000 := by omega
  have e2 : firedI n s = (2 * n * (1000 - s) + 1000) / 2000 := by unfold firedI; rw [e]
  rw [e2]
  clear m e e2
  go_enter Try.func124, Try.ntmps124
  go_wp2
  go_ret
  exact ⟨rfl, rfl⟩
end Go.Proofs.Ytgobpleckeeheaa
