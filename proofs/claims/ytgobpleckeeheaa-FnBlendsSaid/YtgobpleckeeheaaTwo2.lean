/-
  What is proved: the parts of two clays: one contract each, of the program and of the reference. Conditions: names that fit in memory.
-/
import Derived.Test.YtgobpleckeeheaaTwo
import Derived.Test.YtgobpleckeeheaaClayM
namespace Go.Proofs.Ytgobpleckeeheaa
open Go.RowKit
set_option linter.unusedVariables false

theorem absB_pos {x : Int} (h : 0 ≤ x) : absB x = x := by
  unfold absB
  split <;> omega
theorem absB_neg {x : Int} (h : x ≤ 0) : absB x = -x := by
  unfold absB
  split <;> omega
theorem impl_two (a0 b0 : ByteArray) (a1 a2 a3 a4 b1 b2 b3 b4 s : Int) (w : World) (ha : a0.size ≤ maxLen) (hb : b0.size ≤ maxLen) :
    Calls Try.prog 15 #[.agg #[.string a0, .int .i64 a1, .int .i64 a2, .int .i64 a3, .int .i64 a4], .agg #[.string b0, .int .i64 b1, .int .i64 b2, .int .i64 b3, .int .i64 b4], .int .i64 s] w fun e w' => e = .returned (.tuple #[.int .i64 (twoX ⟨a0, a1, a2, a3, a4⟩ ⟨b0, b1, b2, b3, b4⟩ s), .int .i64 (twoY ⟨a0, a1, a2, a3, a4⟩ ⟨b0, b1, b2, b3, b4⟩ s), .int .i64 (twoC ⟨a0, a1, a2, a3, a4⟩ ⟨b0, b1, b2, b3, b4⟩ s)]) ∧ Below w.heap.size w w' := by
  by_cases h1 : Clay.Ok ⟨a0, a1, a2, a3, a4⟩
  case neg =>
    have e : twoC ⟨a0, a1, a2, a3, a4⟩ ⟨b0, b1, b2, b3, b4⟩ s = 1 := if_neg (fun q => h1 q.1)
    rw [twoX, twoY, e, if_neg (by decide), if_neg (by decide)]
    exact impl_two_a a0 b0 a1 a2 a3 a4 b1 b2 b3 b4 s w ha hb (decide_eq_false h1)
  by_cases h2 : Clay.Ok ⟨b0, b1, b2, b3, b4⟩
  case neg =>
    have e : twoC ⟨a0, a1, a2, a3, a4⟩ ⟨b0, b1, b2, b3, b4⟩ s = 1 := if_neg (fun q => h2 q.2)
    rw [twoX, twoY, e, if_neg (by decide), if_neg (by decide)]
    exact impl_two_b a0 b0 a1 a2 a3 a4 b1 b2 b3 b4 s w ha hb (decide_eq_true h1) (decide_eq_false h2)
  by_cases h3 : 0 ≤ s ∧ s ≤ 200
  case neg =>
    have e : twoC ⟨a0, a1, a2, a3, a4⟩ ⟨b0, b1, b2, b3, b4⟩ s = 2 := (if_pos ⟨h1, h2⟩).trans (if_neg h3)
    rw [twoX, twoY, e, if_neg (by decide), if_neg (by decide)]
    exact impl_two_r a0 b0 a1 a2 a3 a4 b1 b2 b3 b4 s w ha hb (decide_eq_true h1) (decide_eq_true h2) h3
  by_cases h4 : a1 = b1
  · have e : twoC ⟨a0, a1, a2, a3, a4⟩ ⟨b0, b1, b2, b3, b4⟩ s = 6 := (if_pos ⟨h1, h2⟩).trans ((if_pos h3).trans (if_pos h4))
    rw [twoX, twoY, e, if_neg (by decide), if_neg (by decide)]
    exact impl_two_s a0 b0 a1 a2 a3 a4 b1 b2 b3 b4 s w ha hb (decide_eq_true h1) (decide_eq_true h2) h3 h4
  have ka : 0 ≤ a1 ∧ a1 ≤ 200 := h1.2.1
  have kb : 0 ≤ b1 ∧ b1 ≤ 200 := h2.2.1
  by_cases h5 : TwoIn a1 b1 s
  · have e : twoC ⟨a0, a1, a2, a3, a4⟩ ⟨b0, b1, b2, b3, b4⟩ s = 0 := (if_pos ⟨h1, h2⟩).trans ((if_pos h3).trans ((if_neg h4).trans (if_pos h5)))
    rw [twoX, twoY, e, if_pos rfl, if_pos rfl]
    show Calls _ _ _ _ fun e w' => e = .returned (.tuple #[.int .i64 (absB (b1 - s) / (Int.gcd (absB (b1 - s)) (absB (a1 - s)) : Int)), .int .i64 (absB (a1 - s) / (Int.gcd (absB (b1 - s)) (absB (a1 - s)) : Int)), .int .i64 0]) ∧ Below w.heap.size w w'
    rcases Int.lt_or_gt_of_ne h4 with hlt | hlt
    · have h6 : a1 ≤ s ∧ s ≤ b1 := by unfold TwoIn at h5; omega
      rw [absB_pos (show 0 ≤ b1 - s by omega), absB_neg (show a1 - s ≤ 0 by omega), show -(a1 - s) = s - a1 by omega]
      by_cases ea : s = a1
      · subst ea
        rw [show (s - s) = 0 from by omega, Int.gcd_zero_right, Int.zero_ediv, show (((b1 - s)).natAbs : Int) = (b1 - s) from by omega, Int.ediv_self (by omega)]
        exact impl_two_ealo a0 b0 s a2 a3 a4 b1 b2 b3 b4 0 w ha hb (decide_eq_true h1) (decide_eq_true h2) hlt ka kb
      by_cases eb : s = b1
      · subst eb
        rw [show (s - s) = 0 from by omega, Int.gcd_zero_left, Int.zero_ediv, show (((s - a1)).natAbs : Int) = (s - a1) from by omega, Int.ediv_self (by omega)]
        exact impl_two_eblo a0 b0 a1 a2 a3 a4 s b2 b3 b4 0 w ha hb (decide_eq_true h1) (decide_eq_true h2) hlt ka kb
      exact impl_two_ylo a0 b0 a1 a2 a3 a4 b1 b2 b3 b4 s w ha hb (decide_eq_true h1) (decide_eq_true h2) h3 hlt h6 (by omega) ka kb
    · have h6 : b1 ≤ s ∧ s ≤ a1 := by unfold TwoIn at h5; omega
      rw [absB_neg (show b1 - s ≤ 0 by omega), absB_pos (show 0 ≤ a1 - s by omega), show -(b1 - s) = s - b1 by omega]
      by_cases ea : s = a1
      · subst ea
        rw [show (s - s) = 0 from by omega, Int.gcd_zero_right, Int.zero_ediv, show (((s - b1)).natAbs : Int) = (s - b1) from by omega, Int.ediv_self (by omega)]
        exact impl_two_eahi a0 b0 s a2 a3 a4 b1 b2 b3 b4 0 w ha hb (decide_eq_true h1) (decide_eq_true h2) hlt ka kb
      by_cases eb : s = b1
      · subst eb
        rw [show (s - s) = 0 from by omega, Int.gcd_zero_left, Int.zero_ediv, show (((a1 - s)).natAbs : Int) = (a1 - s) from by omega, Int.ediv_self (by omega)]
        exact impl_two_ebhi a0 b0 a1 a2 a3 a4 s b2 b3 b4 0 w ha hb (decide_eq_true h1) (decide_eq_true h2) hlt ka kb
      exact impl_two_yhi a0 b0 a1 a2 a3 a4 b1 b2 b3 b4 s w ha hb (decide_eq_true h1) (decide_eq_true h2) h3 hlt h6 (by omega) ka kb
  · have e : twoC ⟨a0, a1, a2, a3, a4⟩ ⟨b0, b1, b2, b3, b4⟩ s = 3 := (if_pos ⟨h1, h2⟩).trans ((if_pos h3).trans ((if_neg h4).trans (if_neg h5)))
    rw [twoX, twoY, e, if_neg (by decide), if_neg (by decide)]
    rcases Int.lt_or_gt_of_ne h4 with hlt | hlt
    · exact impl_two_nlo a0 b0 a1 a2 a3 a4 b1 b2 b3 b4 s w ha hb (decide_eq_true h1) (decide_eq_true h2) h3 hlt (fun q => h5 (.inl q))
    · exact impl_two_nhi a0 b0 a1 a2 a3 a4 b1 b2 b3 b4 s w ha hb (decide_eq_true h1) (decide_eq_true h2) h3 hlt (fun q => h5 (.inr q))
theorem impl_two' (K L cc : Int) (a0 b0 : ByteArray) (a1 a2 a3 a4 b1 b2 b3 b4 s : Int) (w : World) (ha : a0.size ≤ maxLen) (hb : b0.size ≤ maxLen) (hK : twoX ⟨a0, a1, a2, a3, a4⟩ ⟨b0, b1, b2, b3, b4⟩ s = K) (hL : twoY ⟨a0, a1, a2, a3, a4⟩ ⟨b0, b1, b2, b3, b4⟩ s = L) (hC : twoC ⟨a0, a1, a2, a3, a4⟩ ⟨b0, b1, b2, b3, b4⟩ s = cc) :
    Calls Try.prog 15 #[.agg #[.string a0, .int .i64 a1, .int .i64 a2, .int .i64 a3, .int .i64 a4], .agg #[.string b0, .int .i64 b1, .int .i64 b2, .int .i64 b3, .int .i64 b4], .int .i64 s] w fun e w' => e = .returned (.tuple #[.int .i64 K, .int .i64 L, .int .i64 cc]) ∧ Below w.heap.size w w' := by
  subst hK hL hC
  exact impl_two a0 b0 a1 a2 a3 a4 b1 b2 b3 b4 s w ha hb
theorem spec_two (a0 b0 : ByteArray) (a1 a2 a3 a4 b1 b2 b3 b4 s : Int) (w : World) (ha : a0.size ≤ maxLen) (hb : b0.size ≤ maxLen) :
    Calls Try.prog 16 #[.agg #[.string a0, .int .i64 a1, .int .i64 a2, .int .i64 a3, .int .i64 a4], .agg #[.string b0, .int .i64 b1, .int .i64 b2, .int .i64 b3, .int .i64 b4], .int .i64 s] w fun e w' => e = .returned (.tuple #[.int .i64 (twoX ⟨a0, a1, a2, a3, a4⟩ ⟨b0, b1, b2, b3, b4⟩ s), .int .i64 (twoY ⟨a0, a1, a2, a3, a4⟩ ⟨b0, b1, b2, b3, b4⟩ s), .int .i64 (twoC ⟨a0, a1, a2, a3, a4⟩ ⟨b0, b1, b2, b3, b4⟩ s)]) ∧ Below w.heap.size w w' := by
  by_cases h1 : Clay.Ok ⟨a0, a1, a2, a3, a4⟩
  case neg =>
    have e : twoC ⟨a0, a1, a2, a3, a4⟩ ⟨b0, b1, b2, b3, b4⟩ s = 1 := if_neg (fun q => h1 q.1)
    rw [twoX, twoY, e, if_neg (by decide), if_neg (by decide)]
    exact spec_two_a a0 b0 a1 a2 a3 a4 b1 b2 b3 b4 s w ha hb (decide_eq_false h1)
  by_cases h2 : Clay.Ok ⟨b0, b1, b2, b3, b4⟩
  case neg =>
    have e : twoC ⟨a0, a1, a2, a3, a4⟩ ⟨b0, b1, b2, b3, b4⟩ s = 1 := if_neg (fun q => h2 q.2)
    rw [twoX, twoY, e, if_neg (by decide), if_neg (by decide)]
    exact spec_two_b a0 b0 a1 a2 a3 a4 b1 b2 b3 b4 s w ha hb (decide_eq_true h1) (decide_eq_false h2)
  by_cases h3 : 0 ≤ s ∧ s ≤ 200
  case neg =>
    have e : twoC ⟨a0, a1, a2, a3, a4⟩ ⟨b0, b1, b2, b3, b4⟩ s = 2 := (if_pos ⟨h1, h2⟩).trans (if_neg h3)
    rw [twoX, twoY, e, if_neg (by decide), if_neg (by decide)]
    exact spec_two_r a0 b0 a1 a2 a3 a4 b1 b2 b3 b4 s w ha hb (decide_eq_true h1) (decide_eq_true h2) h3
  by_cases h4 : a1 = b1
  · have e : twoC ⟨a0, a1, a2, a3, a4⟩ ⟨b0, b1, b2, b3, b4⟩ s = 6 := (if_pos ⟨h1, h2⟩).trans ((if_pos h3).trans (if_pos h4))
    rw [twoX, twoY, e, if_neg (by decide), if_neg (by decide)]
    exact spec_two_s a0 b0 a1 a2 a3 a4 b1 b2 b3 b4 s w ha hb (decide_eq_true h1) (decide_eq_true h2) h3 h4
  have ka : 0 ≤ a1 ∧ a1 ≤ 200 := h1.2.1
  have kb : 0 ≤ b1 ∧ b1 ≤ 200 := h2.2.1
  by_cases h5 : TwoIn a1 b1 s
  · have e : twoC ⟨a0, a1, a2, a3, a4⟩ ⟨b0, b1, b2, b3, b4⟩ s = 0 := (if_pos ⟨h1, h2⟩).trans ((if_pos h3).trans ((if_neg h4).trans (if_pos h5)))
    rw [twoX, twoY, e, if_pos rfl, if_pos rfl]
    show Calls _ _ _ _ fun e w' => e = .returned (.tuple #[.int .i64 (absB (b1 - s) / (Int.gcd (absB (b1 - s)) (absB (a1 - s)) : Int)), .int .i64 (absB (a1 - s) / (Int.gcd (absB (b1 - s)) (absB (a1 - s)) : Int)), .int .i64 0]) ∧ Below w.heap.size w w'
    rcases Int.lt_or_gt_of_ne h4 with hlt | hlt
    · have h6 : a1 ≤ s ∧ s ≤ b1 := by unfold TwoIn at h5; omega
      rw [absB_pos (show 0 ≤ b1 - s by omega), absB_neg (show a1 - s ≤ 0 by omega), show -(a1 - s) = s - a1 by omega]
      exact spec_two_ylo a0 b0 a1 a2 a3 a4 b1 b2 b3 b4 s w ha hb (decide_eq_true h1) (decide_eq_true h2) h3 hlt h6 ka kb
    · have h6 : b1 ≤ s ∧ s ≤ a1 := by unfold TwoIn at h5; omega
      rw [absB_neg (show b1 - s ≤ 0 by omega), absB_pos (show 0 ≤ a1 - s by omega), show -(b1 - s) = s - b1 by omega]
      exact spec_two_yhi a0 b0 a1 a2 a3 a4 b1 b2 b3 b4 s w ha hb (decide_eq_true h1) (decide_eq_true h2) h3 hlt h6 ka kb
  · have e : twoC ⟨a0, a1, a2, a3, a4⟩ ⟨b0, b1, b2, b3, b4⟩ s = 3 := (if_pos ⟨h1, h2⟩).trans ((if_pos h3).trans ((if_neg h4).trans (if_neg h5)))
    rw [twoX, twoY, e, if_neg (by decide), if_neg (by decide)]
    rcases Int.lt_or_gt_of_ne h4 with hlt | hlt
    · exact spec_two_nlo a0 b0 a1 a2 a3 a4 b1 b2 b3 b4 s w ha hb (decide_eq_true h1) (decide_eq_true h2) h3 hlt (fun q => h5 (.inl q))
    · exact spec_two_nhi a0 b0 a1 a2 a3 a4 b1 b2 b3 b4 s w ha hb (decide_eq_true h1) (decide_eq_true h2) h3 hlt (fun q => h5 (.inr q))
theorem spec_two' (K L cc : Int) (a0 b0 : ByteArray) (a1 a2 a3 a4 b1 b2 b3 b4 s : Int) (w : World) (ha : a0.size ≤ maxLen) (hb : b0.size ≤ maxLen) (hK : twoX ⟨a0, a1, a2, a3, a4⟩ ⟨b0, b1, b2, b3, b4⟩ s = K) (hL : twoY ⟨a0, a1, a2, a3, a4⟩ ⟨b0, b1, b2, b3, b4⟩ s = L) (hC : twoC ⟨a0, a1, a2, a3, a4⟩ ⟨b0, b1, b2, b3, b4⟩ s = cc) :
    Calls Try.prog 16 #[.agg #[.string a0, .int .i64 a1, .int .i64 a2, .int .i64 a3, .int .i64 a4], .agg #[.string b0, .int .i64 b1, .int .i64 b2, .int .i64 b3, .int .i64 b4], .int .i64 s] w fun e w' => e = .returned (.tuple #[.int .i64 K, .int .i64 L, .int .i64 cc]) ∧ Below w.heap.size w w' := by
  subst hK hL hC
  exact spec_two a0 b0 a1 a2 a3 a4 b1 b2 b3 b4 s w ha hb
end Go.Proofs.Ytgobpleckeeheaa
