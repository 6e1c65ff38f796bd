/-
  What is proved: the distance of two numbers, the first size that is off, of the program and of the reference. Conditions: sizes in a small range.
-/
import Derived.Test.YtgobpleckeeheaaFired2
import Derived.StillTailTactics
namespace Go.Proofs.Ytgobpleckeeheaa
open Go.RowKit
set_option linter.unusedVariables false

def absI (n : Int) : Int := if n < 0 then -n else n
theorem absI_bound {x y : Int} (hx : 0 ≤ x ∧ x ≤ 100000) (hy : 0 ≤ y ∧ y ≤ 100000) : 0 ≤ absI (x - y) ∧ absI (x - y) ≤ 100000 := by
  unfold absI
  split <;> omega
theorem fired_bound {a s : Int} (ha : 0 ≤ a ∧ a ≤ 100000) (hs : 0 ≤ s ∧ s ≤ 1000) : 0 ≤ firedI a s ∧ firedI a s ≤ 100000 :=
  ⟨fired_nonneg a s ha.1 hs.2, Int.le_trans (fired_le a s ha.1 hs.1) ha.2⟩
def faultS (a b c l wd h s off : Int) : ByteArray := if off < absI (firedI a s - l) then ⟨#[108, 101, 110, 103, 116, 104]⟩ else if off < absI (firedI b s - wd) then ⟨#[119, 105, 100, 116, 104]⟩ else if off < absI (firedI c s - h) then ⟨#[104, 101, 105, 103, 104, 116]⟩ else ⟨#[110, 111, 110, 101]⟩
theorem impl_apart (x y : Int) (w : World) (hx : 0 ≤ x ∧ x ≤ 100000) (hy : 0 ≤ y ∧ y ≤ 100000) :
    Calls Try.prog 81 #[.int .i64 x, .int .i64 y] w fun e w' => e = .returned (.int .i64 (absI (x - y))) ∧ w = w' := by
  go_enter Try.func81, Try.ntmps81
  go_wp2
  all_goals go_ret
  all_goals exact ⟨ret_int (by unfold absI; split <;> omega), rfl⟩
theorem spec_l02Size (n : Int) (w : World) (h : -100000 ≤ n ∧ n ≤ 100000) :
    Calls Try.prog 69 #[.int .i64 n] w fun e w' => e = .returned (.int .i64 (absI n)) ∧ w = w' := by
  unfold absI
  by_cases h0 : n < 0
  · rw [if_pos h0]
    go_enter Try.func69, Try.ntmps69
    go_wp2
    go_ret
    exact ⟨rfl, rfl⟩
  · rw [if_neg h0]
    go_enter Try.func69, Try.ntmps69
    go_wp2
    go_ret
    exact ⟨rfl, rfl⟩
end Go.Proofs.Ytgobpleckeeheaa
