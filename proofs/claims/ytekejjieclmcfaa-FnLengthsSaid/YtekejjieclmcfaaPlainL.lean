/-
  What is proved: the arithmetic of FnLengths: lengths and heights that are just great enough. No program in sight. No conditions but those named.
-/
import Derived.Test.YtekejjieclmcfaaPlain
namespace Go.Proofs.Ytekejjieclmcfaa
open Go.RowKit

theorem gcd4 (q : Int) : (Int.gcd q 4 : Int) = 1 ∨ (Int.gcd q 4 : Int) = 2 ∨ (Int.gcd q 4 : Int) = 4 := by
  have h1 : Int.gcd q 4 ∣ 4 := by
    have := Int.gcd_dvd_right q 4
    exact Int.natCast_dvd_natCast.1 (by simpa using this)
  have h2 : Int.gcd q 4 ≤ 4 := Nat.le_of_dvd (by omega) h1
  have h3 : ∀ m : Nat, m ≤ 4 → m ∣ 4 → m = 1 ∨ m = 2 ∨ m = 4 := by decide
  rcases h3 _ h2 h1 with h | h | h <;> omega
/-- The fraction of quarters, brought to lowest terms, rounded up. -/
theorem up_is (q g : Int) (hg : g = 1 ∨ g = 2 ∨ g = 4) (hd : g ∣ q) (hq : 0 < q) :
    1 ≤ 4 / g ∧ 4 / g ≤ 4 ∧ 1 ≤ q / g ∧ q / g ≤ q ∧ (q / g + 4 / g - 1) / (4 / g) = (q + 3) / 4 := by
  obtain ⟨m, rfl⟩ := hd
  rcases hg with rfl | rfl | rfl
  · simp; omega
  · rw [Int.mul_ediv_cancel_left _ (by omega)]
    refine ⟨by omega, by omega, by omega, by omega, ?_⟩
    show (m + 2 - 1) / 2 = _
    omega
  · rw [Int.mul_ediv_cancel_left _ (by omega)]
    refine ⟨by omega, by omega, by omega, by omega, ?_⟩
    show (m + 1 - 1) / 1 = _
    omega
theorem quarters_up (n u j q : Int) (hu : 0 < u) (hq : q = n * u - 4 * j) : n ≤ 4 * ((q + 3) / 4 + j) / u := by
  rw [Int.le_ediv_iff_mul_le hu]
  omega
theorem quarters_less (n u j q : Int) (hu : 0 < u) (hq : q = n * u - 4 * j) : 4 * ((q + 3) / 4 - 1 + j) / u < n := by
  rw [Int.ediv_lt_iff_lt_mul hu]
  omega
theorem courses_same (n u j : Int) (hu : 0 < u) : (n * u - j + j) / u = n := by
  rw [show n * u - j + j = n * u from by omega]
  exact Int.mul_ediv_cancel _ (by omega)
theorem courses_less (n u j : Int) (hu : 0 < u) : (n * u - j - 1 + j) / u = n - 1 := by
  have h1 : (n - 1) * u = n * u - u := by rw [Int.sub_mul, Int.one_mul]
  have h2 : n - 1 ≤ (n * u - j - 1 + j) / u := by
    rw [Int.le_ediv_iff_mul_le hu, h1]
    omega
  have h3 : (n * u - j - 1 + j) / u < n := by
    rw [Int.ediv_lt_iff_lt_mul hu]
    omega
  omega
end Go.Proofs.Ytekejjieclmcfaa
