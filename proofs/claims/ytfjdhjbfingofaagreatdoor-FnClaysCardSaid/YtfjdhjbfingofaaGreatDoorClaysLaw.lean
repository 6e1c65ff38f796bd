/-
  What is proved: plain facts on means: a mean lies between the least and the greatest value of the clays with a part; the least parts have the same mean. No program in sight. No conditions.
-/
import Derived.Test.YtfjdhjbfingofaaGreatDoorMeans
import Derived.Test.YtfjdhjbfingofaaGreatDoorLeast2
namespace Go.Proofs.YtfjdhjbfingofaaGreatDoor
set_option linter.unusedVariables false

theorem clay_in {zs : List Clay} {k : Nat} {z : Clay} (h : claysOk zs = true) (hz : zs[k]? = some z) : nameB z.n = true ∧ (0 ≤ z.s ∧ z.s ≤ 200) ∧ (0 ≤ z.l ∧ z.l ≤ 1000) ∧ (0 ≤ z.d ∧ z.d ≤ 1000) ∧ (0 ≤ z.p ∧ z.p ≤ 10000) := by
  unfold claysOk at h
  rw [Bool.and_eq_true, List.all_eq_true] at h
  have h1 := h.2 k (List.mem_range.2 (List.getElem?_eq_some_iff.1 hz).1)
  rw [clayAt_is hz, Bool.and_eq_true] at h1
  exact of_decide_eq_true h1.1
/-- The least and the greatest shrinkage of the first k clays that have a part. -/
def lowK (zs : List Clay) (ps : List Int) : Nat → Int
  | 0 => 201
  | k + 1 => if 0 < ps.getD k 0 then min (lowK zs ps k) (valAt (valOf 0) zs k) else lowK zs ps k
def highK (zs : List Clay) (ps : List Int) : Nat → Int
  | 0 => -1
  | k + 1 => if 0 < ps.getD k 0 then max (highK zs ps k) (valAt (valOf 0) zs k) else highK zs ps k
theorem low_in {zs : List Clay} {ps : List Int} (hz : claysOk zs = true) : ∀ k, 0 ≤ lowK zs ps k ∧ lowK zs ps k ≤ 201
  | 0 => ⟨by show (0 : Int) ≤ 201; omega, by show (201 : Int) ≤ 201; omega⟩
  | k + 1 => by
    have ih := low_in hz (ps := ps) k
    have hv := valAt_in (small_valOf 0) hz k
    unfold lowK
    split <;> omega
theorem high_in {zs : List Clay} {ps : List Int} (hz : claysOk zs = true) : ∀ k, -1 ≤ highK zs ps k ∧ highK zs ps k ≤ 10000
  | 0 => ⟨by show (-1 : Int) ≤ -1; omega, by show (-1 : Int) ≤ 10000; omega⟩
  | k + 1 => by
    have ih := high_in hz (ps := ps) k
    have hv := valAt_in (small_valOf 0) hz k
    unfold highK
    split <;> omega
theorem low_mono (zs : List Clay) (ps : List Int) : ∀ k m, k ≤ m → lowK zs ps m ≤ lowK zs ps k
  | k, 0, h => by
    obtain rfl : k = 0 := by omega
    exact Int.le_refl _
  | k, m + 1, h => by
    rcases Nat.lt_or_ge m k with h1 | h1
    · obtain rfl : k = m + 1 := by omega
      exact Int.le_refl _
    · have ih := low_mono zs ps k m h1
      show (if 0 < ps.getD m 0 then min (lowK zs ps m) (valAt (valOf 0) zs m) else lowK zs ps m) ≤ _
      split <;> omega
theorem high_mono (zs : List Clay) (ps : List Int) : ∀ k m, k ≤ m → highK zs ps k ≤ highK zs ps m
  | k, 0, h => by
    obtain rfl : k = 0 := by omega
    exact Int.le_refl _
  | k, m + 1, h => by
    rcases Nat.lt_or_ge m k with h1 | h1
    · obtain rfl : k = m + 1 := by omega
      exact Int.le_refl _
    · have ih := high_mono zs ps k m h1
      show _ ≤ (if 0 < ps.getD m 0 then max (highK zs ps m) (valAt (valOf 0) zs m) else highK zs ps m)
      split <;> omega
theorem low_sum {zs : List Clay} {ps : List Int} (hp : partsIn ps = true) (n : Nat) : ∀ k, k ≤ n → lowK zs ps n * sumK ps k ≤ totK (valOf 0) zs ps k
  | 0, _ => by show lowK zs ps n * 0 ≤ 0; simp
  | k + 1, h => by
    have ih := low_sum (zs := zs) hp n k (by omega)
    have hpk := part_in hp k
    rw [sumK_succ, totK_succ, Int.mul_add]
    by_cases h0 : 0 < ps.getD k 0
    · have h1 := low_mono zs ps (k + 1) n h
      have h2 : lowK zs ps (k + 1) ≤ valAt (valOf 0) zs k := by
        unfold lowK
        rw [if_pos h0]
        omega
      have h3 := Int.mul_le_mul_of_nonneg_left (Int.le_trans h1 h2) hpk.1
      rw [Int.mul_comm (ps.getD k 0) (lowK zs ps n)] at h3
      omega
    · have e : ps.getD k 0 = 0 := by omega
      rw [e]
      simp
      exact ih
theorem high_sum {zs : List Clay} {ps : List Int} (hp : partsIn ps = true) (n : Nat) : ∀ k, k ≤ n → totK (valOf 0) zs ps k ≤ highK zs ps n * sumK ps k
  | 0, _ => by show (0 : Int) ≤ highK zs ps n * 0; simp
  | k + 1, h => by
    have ih := high_sum (zs := zs) hp n k (by omega)
    have hpk := part_in hp k
    rw [sumK_succ, totK_succ, Int.mul_add]
    by_cases h0 : 0 < ps.getD k 0
    · have h1 := high_mono zs ps (k + 1) n h
      have h2 : valAt (valOf 0) zs k ≤ highK zs ps (k + 1) := by
        unfold highK
        rw [if_pos h0]
        omega
      have h3 := Int.mul_le_mul_of_nonneg_left (Int.le_trans h2 h1) hpk.1
      rw [Int.mul_comm (ps.getD k 0) (highK zs ps n)] at h3
      omega
    · have e : ps.getD k 0 = 0 := by omega
      rw [e]
      simp
      exact ih
theorem scode_ok {zs : List Clay} {ps : List Int} (h : scode zs ps = 0) : claysOk zs = true ∧ ps.length = zs.length ∧ partsIn ps = true ∧ 0 < sumK ps ps.length := by
  unfold scode at h
  split at h
  case isFalse => omega
  rename_i h1
  split at h
  case isFalse => omega
  rename_i h2
  split at h
  · omega
  rename_i h3
  exact ⟨h1, h2.1, h2.2, by have := (sumK_in h2.2 ps.length).1; omega⟩
theorem gcdK_dvd (ps : List Int) : ∀ n k, k < n → (gcdK ps n : Int) ∣ ps.getD k 0
  | n + 1, k, h => by
    rw [gcdK_succ]
    rcases Nat.lt_or_ge k n with h1 | h1
    · exact Int.dvd_trans (Int.gcd_dvd_left ..) (gcdK_dvd ps n k h1)
    · obtain rfl : k = n := by omega
      exact Int.gcd_dvd_right ..
theorem leastP_at {ps : List Int} {k : Nat} (h : k < ps.length) : (leastP ps ps.length).getD k 0 = ps.getD k 0 / (gcdK ps ps.length : Int) := by
  unfold leastP
  rw [List.take_length, List.getD_eq_getElem?_getD, List.getD_eq_getElem?_getD, List.getElem?_map, List.getElem?_eq_getElem h]
  rfl
theorem least_sum {ps : List Int} : ∀ k, k ≤ ps.length → sumK ps k = sumK (leastP ps ps.length) k * (gcdK ps ps.length : Int)
  | 0, _ => by show (0 : Int) = 0 * _; simp
  | k + 1, h => by
    rw [sumK_succ, sumK_succ, least_sum k (by omega), leastP_at (by omega), Int.add_mul, Int.ediv_mul_cancel (gcdK_dvd ps ps.length k (by omega))]
theorem least_tot {zs : List Clay} {ps : List Int} : ∀ k, k ≤ ps.length → totK (valOf 0) zs ps k = totK (valOf 0) zs (leastP ps ps.length) k * (gcdK ps ps.length : Int)
  | 0, _ => by show (0 : Int) = 0 * _; simp
  | k + 1, h => by
    rw [totK_succ, totK_succ, least_tot k (by omega), leastP_at (by omega), Int.add_mul, Int.mul_right_comm, Int.ediv_mul_cancel (gcdK_dvd ps ps.length k (by omega))]
/-- What the law on clays asks. -/
theorem clays_law {zs : List Clay} {ps : List Int} (h : scode zs ps = 0) :
    lowK zs ps zs.length * mden (valOf 0) zs ps ≤ mnum (valOf 0) zs ps ∧ mnum (valOf 0) zs ps ≤ highK zs ps zs.length * mden (valOf 0) zs ps ∧
    (0 ≤ mden (valOf 0) zs ps ∧ mden (valOf 0) zs ps ≤ 7000) ∧
    scode zs (leastL zs ps) = 0 ∧ mnum (valOf 0) zs (leastL zs ps) = mnum (valOf 0) zs ps ∧ mden (valOf 0) zs (leastL zs ps) = mden (valOf 0) zs ps := by
  obtain ⟨hz, hl, hp, hs⟩ := scode_ok h
  have hsix := clays_six hz
  have hlow := low_sum (zs := zs) hp zs.length zs.length (Nat.le_refl _)
  have hhigh := high_sum (zs := zs) hp zs.length zs.length (Nat.le_refl _)
  have hS := sumK_in hp ps.length
  have hG0 : gcdK ps ps.length ≠ 0 := fun q => by rw [gcdK_zero hp] at q; omega
  have hlp := leastP_len ps ps.length (Nat.le_refl _)
  have e1 := least_sum (ps := ps) ps.length (Nat.le_refl _)
  have e2 := least_tot (zs := zs) (ps := ps) ps.length (Nat.le_refl _)
  have hG : 0 < (gcdK ps ps.length : Int) := by omega
  have hpl : partsIn (leastP ps ps.length) = true := by
    unfold partsIn
    refine List.all_eq_true.2 fun x hx => ?_
    unfold leastP at hx
    obtain ⟨y, hy, rfl⟩ := List.mem_map.1 hx
    rw [List.take_length] at hy
    have hyi := of_decide_eq_true (List.all_eq_true.1 hp y hy)
    have := div_le y (gcdK ps ps.length : Int) hyi.1 hG
    exact decide_eq_true ⟨this.1, Int.le_trans this.2 hyi.2⟩
  have hS2 : 0 < sumK (leastP ps ps.length) (leastP ps ps.length).length := by
    rw [hlp]
    rcases Int.lt_trichotomy 0 (sumK (leastP ps ps.length) ps.length) with q | q | q
    · exact q
    · rw [← q] at e1; omega
    · have := Int.mul_neg_of_neg_of_pos q hG; omega
  have hc2 : scode zs (leastL zs ps) = 0 := by
    unfold leastL
    rw [if_pos h]
    exact scode_yes hz (by rw [hlp]; exact hl) hpl (by omega)
  have hLL : leastL zs ps = leastP ps ps.length := if_pos h
  have hM : mnum (valOf 0) zs ps = totK (valOf 0) zs ps ps.length / (Int.gcd (totK (valOf 0) zs ps ps.length) (sumK ps ps.length) : Int) := if_pos h
  have hD : mden (valOf 0) zs ps = sumK ps ps.length / (Int.gcd (totK (valOf 0) zs ps ps.length) (sumK ps ps.length) : Int) := if_pos h
  have hM2 : mnum (valOf 0) zs (leastL zs ps) = totK (valOf 0) zs (leastP ps ps.length) ps.length / (Int.gcd (totK (valOf 0) zs (leastP ps ps.length) ps.length) (sumK (leastP ps ps.length) ps.length) : Int) := by
    unfold mnum
    rw [if_pos hc2, hLL, hlp]
  have hD2 : mden (valOf 0) zs (leastL zs ps) = sumK (leastP ps ps.length) ps.length / (Int.gcd (totK (valOf 0) zs (leastP ps ps.length) ps.length) (sumK (leastP ps ps.length) ps.length) : Int) := by
    unfold mden
    rw [if_pos hc2, hLL, hlp]
  rw [hlp] at hS2
  rw [← hl] at hlow hhigh ⊢
  refine ⟨?_, ?_, ?_, hc2, ?_, ?_⟩
  · rw [hM, hD]
    generalize totK (valOf 0) zs ps ps.length = T at *
    generalize sumK ps ps.length = S at *
    have hg0 := gcd_pos T S hs
    have c1 := Int.ediv_mul_cancel (Int.gcd_dvd_left (a := T) (b := S))
    have c2 := Int.ediv_mul_cancel (Int.gcd_dvd_right (a := T) (b := S))
    refine Int.le_of_mul_le_mul_right (a := (Int.gcd T S : Int)) ?_ hg0
    rw [Int.mul_assoc, c1, c2]
    exact hlow
  · rw [hM, hD]
    generalize totK (valOf 0) zs ps ps.length = T at *
    generalize sumK ps ps.length = S at *
    have hg0 := gcd_pos T S hs
    have c1 := Int.ediv_mul_cancel (Int.gcd_dvd_left (a := T) (b := S))
    have c2 := Int.ediv_mul_cancel (Int.gcd_dvd_right (a := T) (b := S))
    refine Int.le_of_mul_le_mul_right (a := (Int.gcd T S : Int)) ?_ hg0
    rw [Int.mul_assoc, c1, c2]
    exact hhigh
  · rw [hD]
    have hg0 := gcd_pos (totK (valOf 0) zs ps ps.length) (sumK ps ps.length) hs
    have := div_le (sumK ps ps.length) _ hS.1 hg0
    omega
  · rw [hM2, hM, e1, e2]
    generalize totK (valOf 0) zs (leastP ps ps.length) ps.length = T at *
    generalize sumK (leastP ps ps.length) ps.length = S at *
    rw [Int.gcd_mul_right, Int.natCast_mul, show (((gcdK ps ps.length : Int)).natAbs : Int) = (gcdK ps ps.length : Int) from by omega]
    exact (Int.mul_ediv_mul_of_pos_left _ _ hG).symm
  · rw [hD2, hD, e1, e2]
    generalize totK (valOf 0) zs (leastP ps ps.length) ps.length = T at *
    generalize sumK (leastP ps ps.length) ps.length = S at *
    rw [Int.gcd_mul_right, Int.natCast_mul, show (((gcdK ps ps.length : Int)).natAbs : Int) = (gcdK ps ps.length : Int) from by omega]
    exact (Int.mul_ediv_mul_of_pos_left _ _ hG).symm
end Go.Proofs.YtfjdhjbfingofaaGreatDoor
