/-
  What is proved: contracts of LengthOf, QuartersIn, HeightOf, CoursesIn, VolumeOf, IsModular, of the program and of the reference. Conditions: the ranges named in each.
-/
import Derived.Test.YtekejjieclmcfaaL02
import Derived.Test.YtekejjieclmcfaaGcd
namespace Go.Proofs.Ytekejjieclmcfaa
open Go.RowKit
set_option linter.unusedVariables false

theorem impl_formatCode (l wd h j n lo hi : Int) (w : World) :
    Calls Try.prog 61 #[.agg #[.int .i64 l, .int .i64 wd, .int .i64 h, .int .i64 j], .int .i64 n, .int .i64 lo, .int .i64 hi] w fun e w' => e = .returned (.int .i64 (fcode l wd h j n lo hi)) ∧ Below w.heap.size w w' := by
  by_cases h1 : fmtB l wd h j = true
  · by_cases h2 : lo ≤ n
    · by_cases h3 : n ≤ hi
      · have e0 : fcode l wd h j n lo hi = 0 := by unfold fcode; rw [if_pos h1, if_pos ⟨h2, h3⟩]
        rw [e0]
        have d1 : decide (lo ≤ n) = true := by simpa using h2
        have d2 : decide (n ≤ hi) = true := by simpa using h3
        clear e0 h2 h3
        go_enter Try.func61, Try.ntmps61
        go_wp2_with fail
        refine (impl_validFormat _ _ _ _ _).mono ?_
        rintro e w1 ⟨rfl, hb1⟩
        go_wp2
        go_ret
        exact ⟨rfl, ((Below.refl _ _).alloc (Nat.le_refl _) _).trans (hb1.mono (by go_size))⟩
      · have e0 : fcode l wd h j n lo hi = 2 := by unfold fcode; rw [if_pos h1, if_neg (fun x => h3 x.2)]
        rw [e0]
        have d1 : decide (lo ≤ n) = true := by simpa using h2
        have d2 : decide (n ≤ hi) = false := by simpa using h3
        clear e0 h2 h3
        go_enter Try.func61, Try.ntmps61
        go_wp2_with fail
        refine (impl_validFormat _ _ _ _ _).mono ?_
        rintro e w1 ⟨rfl, hb1⟩
        go_wp2
        go_ret
        exact ⟨rfl, ((Below.refl _ _).alloc (Nat.le_refl _) _).trans (hb1.mono (by go_size))⟩
    · have e0 : fcode l wd h j n lo hi = 2 := by unfold fcode; rw [if_pos h1, if_neg (fun x => h2 x.1)]
      rw [e0]
      have d1 : decide (lo ≤ n) = false := by simpa using h2
      clear e0 h2
      go_enter Try.func61, Try.ntmps61
      go_wp2_with fail
      refine (impl_validFormat _ _ _ _ _).mono ?_
      rintro e w1 ⟨rfl, hb1⟩
      go_wp2
      go_ret
      exact ⟨rfl, ((Below.refl _ _).alloc (Nat.le_refl _) _).trans (hb1.mono (by go_size))⟩
  · have e0 : fcode l wd h j n lo hi = 1 := by unfold fcode; rw [if_neg h1]
    have h1' : fmtB l wd h j = false := by simpa using h1
    rw [e0]
    clear e0 h1
    go_enter Try.func61, Try.ntmps61
    go_wp2_with fail
    refine (impl_validFormat _ _ _ _ _).mono ?_
    rintro e w1 ⟨rfl, hb1⟩
    go_wp2
    go_ret
    exact ⟨rfl, ((Below.refl _ _).alloc (Nat.le_refl _) _).trans (hb1.mono (by go_size))⟩
theorem spec_l02Code (l wd h j n lo hi : Int) (w : World) :
    Calls Try.prog 60 #[.agg #[.int .i64 l, .int .i64 wd, .int .i64 h, .int .i64 j], .int .i64 n, .int .i64 lo, .int .i64 hi] w fun e w' => e = .returned (.int .i64 (fcode l wd h j n lo hi)) ∧ Below w.heap.size w w' := by
  by_cases h1 : fmtB l wd h j = true
  · by_cases h2 : lo ≤ n
    · by_cases h3 : n ≤ hi
      · have e0 : fcode l wd h j n lo hi = 0 := by unfold fcode; rw [if_pos h1, if_pos ⟨h2, h3⟩]
        rw [e0]
        have d1 : decide (lo ≤ n) = true := by simpa using h2
        have d2 : decide (n ≤ hi) = true := by simpa using h3
        clear e0 h2 h3
        go_enter Try.func60, Try.ntmps60
        go_wp2_with fail
        refine (spec_l02Ok _ _ _ _ _).mono ?_
        rintro e w1 ⟨rfl, hb1⟩
        go_wp2
        go_ret
        exact ⟨rfl, ((Below.refl _ _).alloc (Nat.le_refl _) _).trans (hb1.mono (by go_size))⟩
      · have e0 : fcode l wd h j n lo hi = 2 := by unfold fcode; rw [if_pos h1, if_neg (fun x => h3 x.2)]
        rw [e0]
        have d1 : decide (lo ≤ n) = true := by simpa using h2
        have d2 : decide (n ≤ hi) = false := by simpa using h3
        clear e0 h2 h3
        go_enter Try.func60, Try.ntmps60
        go_wp2_with fail
        refine (spec_l02Ok _ _ _ _ _).mono ?_
        rintro e w1 ⟨rfl, hb1⟩
        go_wp2
        go_ret
        exact ⟨rfl, ((Below.refl _ _).alloc (Nat.le_refl _) _).trans (hb1.mono (by go_size))⟩
    · have e0 : fcode l wd h j n lo hi = 2 := by unfold fcode; rw [if_pos h1, if_neg (fun x => h2 x.1)]
      rw [e0]
      have d1 : decide (lo ≤ n) = false := by simpa using h2
      clear e0 h2
      go_enter Try.func60, Try.ntmps60
      go_wp2_with fail
      refine (spec_l02Ok _ _ _ _ _).mono ?_
      rintro e w1 ⟨rfl, hb1⟩
      go_wp2
      go_ret
      exact ⟨rfl, ((Below.refl _ _).alloc (Nat.le_refl _) _).trans (hb1.mono (by go_size))⟩
  · have e0 : fcode l wd h j n lo hi = 1 := by unfold fcode; rw [if_neg h1]
    have h1' : fmtB l wd h j = false := by simpa using h1
    rw [e0]
    clear e0 h1
    go_enter Try.func60, Try.ntmps60
    go_wp2_with fail
    refine (spec_l02Ok _ _ _ _ _).mono ?_
    rintro e w1 ⟨rfl, hb1⟩
    go_wp2
    go_ret
    exact ⟨rfl, ((Below.refl _ _).alloc (Nat.le_refl _) _).trans (hb1.mono (by go_size))⟩
set_option maxHeartbeats 400000 in
theorem impl_heightOf (l wd h j n : Int) (w : World) (hn1 : -9223372036854775808 ≤ n) (hn2 : n ≤ 9223372036854775807) :
    Calls Try.prog 38 #[.agg #[.int .i64 l, .int .i64 wd, .int .i64 h, .int .i64 j], .int .i64 n] w fun e w' => e = .returned (.tuple #[.int .i64 (heightOf l wd h j n), .int .i64 (fcode l wd h j n 1 200)]) ∧ Below w.heap.size w w' := by
  by_cases hc : fcode l wd h j n 1 200 = 0
  · have ev : heightOf l wd h j n = n * (h + j) - j := by unfold heightOf; rw [if_pos hc]
    rw [ev]
    obtain ⟨⟨b1, b2, b3, b4, b5, b6, b7, b8, b9⟩, b10, b11⟩ := fcode_ok hc
    have ct : (fcode l wd h j n 1 200 != 0) = false := by simp [hc]
    have m1 : 0 ≤ n * (h + j) ∧ n * (h + j) ≤ 34000 := mul_bd n (h + j) 200 170 (by omega) (by omega) (by omega) (by omega) (by omega)
    generalize hcg : fcode l wd h j n 1 200 = c at *
    have Hc := hide hcg
    have Hc0 := hide hc
    clear hc hcg ev
    go_enter Try.func38, Try.ntmps38
    go_wp2_with fail
    refine (impl_formatCode _ _ _ _ _ _ _ _).mono ?_
    rintro e w1 ⟨rfl, hb1⟩
    have hz := hb1.size
    obtain ⟨hcc, hff⟩ := bcell hb1
    rw [Hc.out]
    go_wp2
    go_ret2
    exact ⟨by rw [Hc0.out]; rfl, ((Below.refl _ _).alloc (Nat.le_refl _) _).trans (hb1.mono (by go_size))⟩
  · have ev : heightOf l wd h j n = 0 := by unfold heightOf; rw [if_neg hc]
    rw [ev]
    have ct : (fcode l wd h j n 1 200 != 0) = true := by simp [hc]
    generalize hcg : fcode l wd h j n 1 200 = c at *
    have Hc := hide hcg
    clear hc hcg ev
    go_enter Try.func38, Try.ntmps38
    go_wp2_with fail
    refine (impl_formatCode _ _ _ _ _ _ _ _).mono ?_
    rintro e w1 ⟨rfl, hb1⟩
    have hz := hb1.size
    obtain ⟨hcc, hff⟩ := bcell hb1
    rw [Hc.out]
    go_wp2
    go_ret2
    exact ⟨rfl, ((Below.refl _ _).alloc (Nat.le_refl _) _).trans (hb1.mono (by go_size))⟩
set_option maxHeartbeats 400000 in
theorem spec_heightOf (l wd h j n : Int) (w : World) (hn1 : -9223372036854775808 ≤ n) (hn2 : n ≤ 9223372036854775807) :
    Calls Try.prog 37 #[.agg #[.int .i64 l, .int .i64 wd, .int .i64 h, .int .i64 j], .int .i64 n] w fun e w' => e = .returned (.tuple #[.int .i64 (heightOf l wd h j n), .int .i64 (fcode l wd h j n 1 200)]) ∧ Below w.heap.size w w' := by
  by_cases hc : fcode l wd h j n 1 200 = 0
  · have ev : heightOf l wd h j n = n * (h + j) - j := by unfold heightOf; rw [if_pos hc]
    rw [ev]
    obtain ⟨⟨b1, b2, b3, b4, b5, b6, b7, b8, b9⟩, b10, b11⟩ := fcode_ok hc
    have ct : (fcode l wd h j n 1 200 != 0) = false := by simp [hc]
    have m1 : 0 ≤ n * (h + j) ∧ n * (h + j) ≤ 34000 := mul_bd n (h + j) 200 170 (by omega) (by omega) (by omega) (by omega) (by omega)
    generalize hcg : fcode l wd h j n 1 200 = c at *
    have Hc := hide hcg
    have Hc0 := hide hc
    clear hc hcg ev
    go_enter Try.func37, Try.ntmps37
    go_wp2_with fail
    refine (spec_l02Code _ _ _ _ _ _ _ _).mono ?_
    rintro e w1 ⟨rfl, hb1⟩
    have hz := hb1.size
    obtain ⟨hcc, hff⟩ := bcell hb1
    rw [Hc.out]
    go_wp2
    go_ret2
    exact ⟨by rw [Hc0.out]; rfl, ((Below.refl _ _).alloc (Nat.le_refl _) _).trans (hb1.mono (by go_size))⟩
  · have ev : heightOf l wd h j n = 0 := by unfold heightOf; rw [if_neg hc]
    rw [ev]
    have ct : (fcode l wd h j n 1 200 != 0) = true := by simp [hc]
    generalize hcg : fcode l wd h j n 1 200 = c at *
    have Hc := hide hcg
    clear hc hcg ev
    go_enter Try.func37, Try.ntmps37
    go_wp2_with fail
    refine (spec_l02Code _ _ _ _ _ _ _ _).mono ?_
    rintro e w1 ⟨rfl, hb1⟩
    have hz := hb1.size
    obtain ⟨hcc, hff⟩ := bcell hb1
    rw [Hc.out]
    go_wp2
    go_ret2
    exact ⟨rfl, ((Below.refl _ _).alloc (Nat.le_refl _) _).trans (hb1.mono (by go_size))⟩
set_option maxHeartbeats 400000 in
theorem impl_quartersIn (l wd h j n : Int) (w : World) (hn1 : -9223372036854775808 ≤ n) (hn2 : n ≤ 9223372036854775807) :
    Calls Try.prog 40 #[.agg #[.int .i64 l, .int .i64 wd, .int .i64 h, .int .i64 j], .int .i64 n] w fun e w' => e = .returned (.tuple #[.int .i64 (quartersIn l wd h j n), .int .i64 (fcode l wd h j n 0 100000)]) ∧ Below w.heap.size w w' := by
  by_cases hc : fcode l wd h j n 0 100000 = 0
  · have ev : quartersIn l wd h j n = 4 * (n + j) / (l + j) := by unfold quartersIn; rw [if_pos hc]
    rw [ev]
    obtain ⟨⟨b1, b2, b3, b4, b5, b6, b7, b8, b9⟩, b10, b11⟩ := fcode_ok hc
    have ct : (fcode l wd h j n 0 100000 != 0) = false := by simp [hc]
    have gz : (l + j == 0) = false := by simp; omega
    have q1 : 0 ≤ 4 * (n + j) / (l + j) ∧ 4 * (n + j) / (l + j) ≤ 4 * (n + j) := ⟨Int.ediv_nonneg (by omega) (by omega), Int.ediv_le_self _ (by omega)⟩
    generalize hcg : fcode l wd h j n 0 100000 = c at *
    have Hc := hide hcg
    have Hc0 := hide hc
    clear hc hcg ev
    go_enter Try.func40, Try.ntmps40
    go_wp2_with fail
    refine (impl_formatCode _ _ _ _ _ _ _ _).mono ?_
    rintro e w1 ⟨rfl, hb1⟩
    have hz := hb1.size
    obtain ⟨hcc, hff⟩ := bcell hb1
    rw [Hc.out]
    go_wp2
    go_ret2
    exact ⟨by rw [Hc0.out]; rfl, ((Below.refl _ _).alloc (Nat.le_refl _) _).trans (hb1.mono (by go_size))⟩
  · have ev : quartersIn l wd h j n = 0 := by unfold quartersIn; rw [if_neg hc]
    rw [ev]
    have ct : (fcode l wd h j n 0 100000 != 0) = true := by simp [hc]
    generalize hcg : fcode l wd h j n 0 100000 = c at *
    have Hc := hide hcg
    clear hc hcg ev
    go_enter Try.func40, Try.ntmps40
    go_wp2_with fail
    refine (impl_formatCode _ _ _ _ _ _ _ _).mono ?_
    rintro e w1 ⟨rfl, hb1⟩
    have hz := hb1.size
    obtain ⟨hcc, hff⟩ := bcell hb1
    rw [Hc.out]
    go_wp2
    go_ret2
    exact ⟨rfl, ((Below.refl _ _).alloc (Nat.le_refl _) _).trans (hb1.mono (by go_size))⟩
set_option maxHeartbeats 400000 in
theorem spec_quartersIn (l wd h j n : Int) (w : World) (hn1 : -9223372036854775808 ≤ n) (hn2 : n ≤ 9223372036854775807) :
    Calls Try.prog 39 #[.agg #[.int .i64 l, .int .i64 wd, .int .i64 h, .int .i64 j], .int .i64 n] w fun e w' => e = .returned (.tuple #[.int .i64 (quartersIn l wd h j n), .int .i64 (fcode l wd h j n 0 100000)]) ∧ Below w.heap.size w w' := by
  by_cases hc : fcode l wd h j n 0 100000 = 0
  · have ev : quartersIn l wd h j n = 4 * (n + j) / (l + j) := by unfold quartersIn; rw [if_pos hc]
    rw [ev]
    obtain ⟨⟨b1, b2, b3, b4, b5, b6, b7, b8, b9⟩, b10, b11⟩ := fcode_ok hc
    have ct : (fcode l wd h j n 0 100000 != 0) = false := by simp [hc]
    have gz : (l + j == 0) = false := by simp; omega
    have q1 : 0 ≤ 4 * (n + j) / (l + j) ∧ 4 * (n + j) / (l + j) ≤ 4 * (n + j) := ⟨Int.ediv_nonneg (by omega) (by omega), Int.ediv_le_self _ (by omega)⟩
    generalize hcg : fcode l wd h j n 0 100000 = c at *
    have Hc := hide hcg
    have Hc0 := hide hc
    clear hc hcg ev
    go_enter Try.func39, Try.ntmps39
    go_wp2_with fail
    refine (spec_l02Code _ _ _ _ _ _ _ _).mono ?_
    rintro e w1 ⟨rfl, hb1⟩
    have hz := hb1.size
    obtain ⟨hcc, hff⟩ := bcell hb1
    rw [Hc.out]
    go_wp2
    go_ret2
    exact ⟨by rw [Hc0.out]; rfl, ((Below.refl _ _).alloc (Nat.le_refl _) _).trans (hb1.mono (by go_size))⟩
  · have ev : quartersIn l wd h j n = 0 := by unfold quartersIn; rw [if_neg hc]
    rw [ev]
    have ct : (fcode l wd h j n 0 100000 != 0) = true := by simp [hc]
    generalize hcg : fcode l wd h j n 0 100000 = c at *
    have Hc := hide hcg
    clear hc hcg ev
    go_enter Try.func39, Try.ntmps39
    go_wp2_with fail
    refine (spec_l02Code _ _ _ _ _ _ _ _).mono ?_
    rintro e w1 ⟨rfl, hb1⟩
    have hz := hb1.size
    obtain ⟨hcc, hff⟩ := bcell hb1
    rw [Hc.out]
    go_wp2
    go_ret2
    exact ⟨rfl, ((Below.refl _ _).alloc (Nat.le_refl _) _).trans (hb1.mono (by go_size))⟩
set_option maxHeartbeats 400000 in
theorem impl_coursesIn (l wd h j n : Int) (w : World) (hn1 : -9223372036854775808 ≤ n) (hn2 : n ≤ 9223372036854775807) :
    Calls Try.prog 36 #[.agg #[.int .i64 l, .int .i64 wd, .int .i64 h, .int .i64 j], .int .i64 n] w fun e w' => e = .returned (.tuple #[.int .i64 (coursesIn l wd h j n), .int .i64 (fcode l wd h j n 0 100000)]) ∧ Below w.heap.size w w' := by
  by_cases hc : fcode l wd h j n 0 100000 = 0
  · have ev : coursesIn l wd h j n = (n + j) / (h + j) := by unfold coursesIn; rw [if_pos hc]
    rw [ev]
    obtain ⟨⟨b1, b2, b3, b4, b5, b6, b7, b8, b9⟩, b10, b11⟩ := fcode_ok hc
    have ct : (fcode l wd h j n 0 100000 != 0) = false := by simp [hc]
    have gz : (h + j == 0) = false := by simp; omega
    have q1 : 0 ≤ (n + j) / (h + j) ∧ (n + j) / (h + j) ≤ n + j := ⟨Int.ediv_nonneg (by omega) (by omega), Int.ediv_le_self _ (by omega)⟩
    generalize hcg : fcode l wd h j n 0 100000 = c at *
    have Hc := hide hcg
    have Hc0 := hide hc
    clear hc hcg ev
    go_enter Try.func36, Try.ntmps36
    go_wp2_with fail
    refine (impl_formatCode _ _ _ _ _ _ _ _).mono ?_
    rintro e w1 ⟨rfl, hb1⟩
    have hz := hb1.size
    obtain ⟨hcc, hff⟩ := bcell hb1
    rw [Hc.out]
    go_wp2
    go_ret2
    exact ⟨by rw [Hc0.out]; rfl, ((Below.refl _ _).alloc (Nat.le_refl _) _).trans (hb1.mono (by go_size))⟩
  · have ev : coursesIn l wd h j n = 0 := by unfold coursesIn; rw [if_neg hc]
    rw [ev]
    have ct : (fcode l wd h j n 0 100000 != 0) = true := by simp [hc]
    generalize hcg : fcode l wd h j n 0 100000 = c at *
    have Hc := hide hcg
    clear hc hcg ev
    go_enter Try.func36, Try.ntmps36
    go_wp2_with fail
    refine (impl_formatCode _ _ _ _ _ _ _ _).mono ?_
    rintro e w1 ⟨rfl, hb1⟩
    have hz := hb1.size
    obtain ⟨hcc, hff⟩ := bcell hb1
    rw [Hc.out]
    go_wp2
    go_ret2
    exact ⟨rfl, ((Below.refl _ _).alloc (Nat.le_refl _) _).trans (hb1.mono (by go_size))⟩
set_option maxHeartbeats 400000 in
theorem spec_coursesIn (l wd h j n : Int) (w : World) (hn1 : -9223372036854775808 ≤ n) (hn2 : n ≤ 9223372036854775807) :
    Calls Try.prog 35 #[.agg #[.int .i64 l, .int .i64 wd, .int .i64 h, .int .i64 j], .int .i64 n] w fun e w' => e = .returned (.tuple #[.int .i64 (coursesIn l wd h j n), .int .i64 (fcode l wd h j n 0 100000)]) ∧ Below w.heap.size w w' := by
  by_cases hc : fcode l wd h j n 0 100000 = 0
  · have ev : coursesIn l wd h j n = (n + j) / (h + j) := by unfold coursesIn; rw [if_pos hc]
    rw [ev]
    obtain ⟨⟨b1, b2, b3, b4, b5, b6, b7, b8, b9⟩, b10, b11⟩ := fcode_ok hc
    have ct : (fcode l wd h j n 0 100000 != 0) = false := by simp [hc]
    have gz : (h + j == 0) = false := by simp; omega
    have q1 : 0 ≤ (n + j) / (h + j) ∧ (n + j) / (h + j) ≤ n + j := ⟨Int.ediv_nonneg (by omega) (by omega), Int.ediv_le_self _ (by omega)⟩
    generalize hcg : fcode l wd h j n 0 100000 = c at *
    have Hc := hide hcg
    have Hc0 := hide hc
    clear hc hcg ev
    go_enter Try.func35, Try.ntmps35
    go_wp2_with fail
    refine (spec_l02Code _ _ _ _ _ _ _ _).mono ?_
    rintro e w1 ⟨rfl, hb1⟩
    have hz := hb1.size
    obtain ⟨hcc, hff⟩ := bcell hb1
    rw [Hc.out]
    go_wp2
    go_ret2
    exact ⟨by rw [Hc0.out]; rfl, ((Below.refl _ _).alloc (Nat.le_refl _) _).trans (hb1.mono (by go_size))⟩
  · have ev : coursesIn l wd h j n = 0 := by unfold coursesIn; rw [if_neg hc]
    rw [ev]
    have ct : (fcode l wd h j n 0 100000 != 0) = true := by simp [hc]
    generalize hcg : fcode l wd h j n 0 100000 = c at *
    have Hc := hide hcg
    clear hc hcg ev
    go_enter Try.func35, Try.ntmps35
    go_wp2_with fail
    refine (spec_l02Code _ _ _ _ _ _ _ _).mono ?_
    rintro e w1 ⟨rfl, hb1⟩
    have hz := hb1.size
    obtain ⟨hcc, hff⟩ := bcell hb1
    rw [Hc.out]
    go_wp2
    go_ret2
    exact ⟨rfl, ((Below.refl _ _).alloc (Nat.le_refl _) _).trans (hb1.mono (by go_size))⟩
end Go.Proofs.Ytekejjieclmcfaa
