/-
  What is proved: plain facts on the sizes of formats, and the sums over all letters. No program in sight. No conditions.
-/
import Derived.Test.YtjoepnmmcagggaaDoorPlain
namespace Go.Proofs.YtjoepnmmcagggaaDoor
set_option linter.unusedVariables false

theorem vol_le {l w h j : Int} (e : fmtB l w h j = true) : 1 ≤ volIn l w h j ∧ volIn l w h j ≤ volOut l w h j ∧ volCode l w h j = 0 := by
  have hf := of_decide_eq_true e
  unfold FmtOk at hf
  unfold volIn volOut volCode
  rw [if_pos e, if_pos e, if_pos e]
  have h1 : 1 * 1 ≤ l * w := Int.mul_le_mul (by omega) (by omega) (by omega) (by omega)
  have h2 : 1 * 1 ≤ l * w * h := Int.mul_le_mul (by omega) (by omega) (by omega) (by omega)
  have h3 : l * w ≤ (l + j) * (w + j) := Int.mul_le_mul (by omega) (by omega) (by omega) (by omega)
  have h4 : l * w * h ≤ (l + j) * (w + j) * (h + j) := Int.mul_le_mul h3 (by omega) (by omega) (by omega)
  exact ⟨by omega, h4, rfl⟩
theorem fcode_in {l w h j n lo hi : Int} (e : fmtB l w h j = true) (h1 : lo ≤ n) (h2 : n ≤ hi) : fcode l w h j n lo hi = 0 := by
  unfold fcode
  rw [if_pos e, if_pos ⟨h1, h2⟩]
theorem gcd_four (q : Int) : 0 < (Int.gcd q 4 : Int) ∧ (Int.gcd q 4 : Int) ≤ 4 := by
  have h1 : Int.gcd q 4 ∣ 4 := Int.gcd_dvd_natAbs_right q 4
  have h2 : Int.gcd q 4 ≤ 4 := Nat.le_of_dvd (by decide) h1
  have h3 : 0 < Int.gcd q 4 := Nat.pos_of_dvd_of_pos h1 (by decide)
  omega
theorem parts_four (q : Int) : q / (Int.gcd q 4 : Int) * (Int.gcd q 4 : Int) = q ∧ 4 / (Int.gcd q 4 : Int) * (Int.gcd q 4 : Int) = 4 :=
  ⟨Int.ediv_mul_cancel (Int.gcd_dvd_left q 4), Int.ediv_mul_cancel (Int.gcd_dvd_right q 4)⟩
theorem frac_eq (q a : Int) : q / (Int.gcd q 4 : Int) = a * (4 / (Int.gcd q 4 : Int)) ↔ q = 4 * a := by
  obtain ⟨h1, h2⟩ := parts_four q
  obtain ⟨h3, h4⟩ := gcd_four q
  generalize (Int.gcd q 4 : Int) = g at *
  generalize q / g = n at *
  generalize 4 / g = d at *
  constructor
  · intro h
    rw [← h1, h, Int.mul_assoc, h2, Int.mul_comm]
  · intro h
    have h5 : n * g = a * d * g := by rw [h1, Int.mul_assoc, h2, h, Int.mul_comm]
    exact Int.eq_of_mul_eq_mul_right (by omega) h5
theorem whole_eq {l w h j : Int} (e : fmtB l w h j = true) : lengthNum l w h j 4 = l * lengthDen l w h j 4 := by
  have hc := fcode_in (n := 4) (lo := 1) (hi := 200) e (by omega) (by omega)
  unfold lengthNum lengthDen
  rw [if_pos hc, if_pos hc]
  exact (frac_eq _ l).2 (by omega)
theorem half_eq {l w h j : Int} (e : fmtB l w h j = true) : (lengthNum l w h j 2 == w * lengthDen l w h j 2) = modB l w h j := by
  have hc := fcode_in (n := 2) (lo := 1) (hi := 200) e (by omega) (by omega)
  unfold lengthNum lengthDen modB
  rw [if_pos hc, if_pos hc, e, Bool.true_and, Bool.eq_iff_iff, beq_iff_eq, beq_iff_eq, frac_eq]
  omega
theorem len_bd {l w h j n : Int} (e : fmtB l w h j = true) (h1 : 1 ≤ n) (h2 : n ≤ 4) : -10000 ≤ lengthNum l w h j n ∧ lengthNum l w h j n ≤ 10000 ∧ 0 ≤ lengthDen l w h j n ∧ lengthDen l w h j n ≤ 4 := by
  have hf := of_decide_eq_true e
  unfold FmtOk at hf
  have hc := fcode_in (n := n) (lo := 1) (hi := 200) e (by omega) (by omega)
  unfold lengthNum lengthDen
  rw [if_pos hc, if_pos hc]
  have hq : -10000 ≤ n * (l + j) - 4 * j ∧ n * (l + j) - 4 * j ≤ 10000 := by
    obtain rfl | rfl | rfl | rfl : n = 1 ∨ n = 2 ∨ n = 3 ∨ n = 4 := by omega
    all_goals omega
  generalize n * (l + j) - 4 * j = q at *
  obtain ⟨h3, h4⟩ := gcd_four q
  obtain ⟨h5, h6⟩ := parts_four q
  generalize (Int.gcd q 4 : Int) = g at *
  obtain rfl | rfl | rfl | rfl : g = 1 ∨ g = 2 ∨ g = 3 ∨ g = 4 := by omega
  all_goals omega
/-- The quarters of all letters below k, and how many of them are cut. -/
def qN (c : Nat) : Nat := if c = 83 then 4 else if c = 84 then 3 else if c = 72 then 2 else if c = 66 then 2 else if c = 67 then 1 else 0
def cutN (c : Nat) : Bool := c == 84 || c == 66 || c == 67
def allQ : Nat → Nat
  | 0 => 0
  | k + 1 => allQ k + qN k
def allC : Nat → Nat
  | 0 => 0
  | k + 1 => allC k + if cutN k = true then 1 else 0
theorem allQ_end : allQ 256 = 12 := by decide +kernel
theorem allC_end : allC 256 = 3 := by decide +kernel
theorem qN_le (c : Nat) : qN c ≤ 4 := by unfold qN; split; omega; split; omega; split; omega; split; omega; split <;> omega
theorem allQ_le : ∀ k : Nat, allQ k ≤ 4 * k
  | 0 => by decide
  | k + 1 => by
    have h1 := allQ_le k
    have h2 := qN_le k
    show allQ k + qN k ≤ 4 * (k + 1)
    omega
theorem allC_le : ∀ k : Nat, allC k ≤ k
  | 0 => by decide
  | k + 1 => by
    have h1 := allC_le k
    show allC k + (if cutN k = true then 1 else 0) ≤ k + 1
    split <;> omega
end Go.Proofs.YtjoepnmmcagggaaDoor
