/-
  What is proved: plain facts on fired sizes. No program in sight. No conditions.
-/
import Derived.Test.YtgobpleckeeheaaPlain
namespace Go.Proofs.Ytgobpleckeeheaa
open Go.RowKit

/-- The fired size of a size. -/
def firedI (n s : Int) : Int := (2 * (n * (1000 - s)) + 1000) / 2000

theorem fired_mul (n s : Int) (h0 : 0 ≤ n) (h1 : n ≤ 100000) (h2 : 0 ≤ s) (h3 : s ≤ 1000) : 0 ≤ n * (1000 - s) ∧ n * (1000 - s) ≤ 100000000 :=
  mul_bd n (1000 - s) 100000 1000 h0 h1 (by omega) (by omega) (by omega)
theorem fired_le (n s : Int) (h0 : 0 ≤ n) (h2 : 0 ≤ s) : firedI n s ≤ n := by
  have h : n * (1000 - s) ≤ n * 1000 := Int.mul_le_mul_of_nonneg_left (by omega) h0
  unfold firedI
  omega
theorem fired_nonneg (n s : Int) (h0 : 0 ≤ n) (h2 : s ≤ 1000) : 0 ≤ firedI n s := by
  have h : 0 ≤ n * (1000 - s) := Int.mul_nonneg h0 (by omega)
  unfold firedI
  omega
theorem fired_great (n s : Int) (h0 : 800 ≤ n) (h2 : s ≤ 200) : 640 ≤ firedI n s := by
  have h : n * 800 ≤ n * (1000 - s) := Int.mul_le_mul_of_nonneg_left (by omega) (by omega)
  unfold firedI
  omega

/-- The least size from 30 on whose fired size is not less than a brick's. -/
def leastI (b s : Int) : Int := ((List.range 771).find? (fun i : Nat => decide (b ≤ firedI (30 + i) s)) |>.getD 0 : Nat) + 30
theorem least_is {b s : Int} {k : Nat} (hk : k < 771) (h1 : b ≤ firedI (30 + k) s) (h2 : ∀ j : Nat, j < k → firedI (30 + j) s < b) : leastI b s = 30 + k := by
  have h : (List.range 771).find? (fun i : Nat => decide (b ≤ firedI (30 + i) s)) = some k := by
    rw [List.find?_range_eq_some]
    refine ⟨decide_eq_true h1, by simpa using hk, fun j hj => ?_⟩
    have := h2 j hj
    simp
    omega
  unfold leastI
  rw [h]
  simp only [Option.getD_some]
  omega

/-- The least shrinkage with a fired size, and a code. -/
def shrinkBy (m b : Int) : Int × Int := match (List.range 201).find? (fun i : Nat => firedI m i == b) with | some k => (k, 0) | none => (0, 3)
theorem shrinkBy_found {m b : Int} {k : Nat} (hk : k < 201) (h1 : firedI m k = b) (h2 : ∀ j : Nat, j < k → firedI m j ≠ b) : shrinkBy m b = ((k : Int), 0) := by
  have h : (List.range 201).find? (fun i : Nat => firedI m i == b) = some k := by
    rw [List.find?_range_eq_some]
    refine ⟨by simpa using h1, by simpa using hk, fun j hj => ?_⟩
    have := h2 j hj
    simpa using this
  unfold shrinkBy
  rw [h]
theorem shrinkBy_none {m b : Int} (h2 : ∀ j : Nat, j < 201 → firedI m j ≠ b) : shrinkBy m b = (0, 3) := by
  have h : (List.range 201).find? (fun i : Nat => firedI m i == b) = none := by
    rw [List.find?_range_eq_none]
    intro j hj
    have := h2 j hj
    simpa using this
  unfold shrinkBy
  rw [h]
/-- With the ranges' test ahead. -/
def shrinkByC (m b : Int) : Int × Int := if 30 ≤ m ∧ m ≤ 800 ∧ 30 ≤ b ∧ b ≤ 800 then shrinkBy m b else (0, 2)
end Go.Proofs.Ytgobpleckeeheaa
