/-
  What is proved: contracts of LengthOf, QuartersIn, HeightOf, CoursesIn, VolumeOf, IsModular, of the program and of the reference. Conditions: the ranges named in each.
-/
import Derived.Test.YtjoepnmmcagggaaDoorL02
import Derived.Test.YtjoepnmmcagggaaDoorGcd
namespace Go.Proofs.YtjoepnmmcagggaaDoor
open Go.RowKit
set_option linter.unusedVariables false

theorem impl_formatCode (l wd h j n lo hi : Int) (w : World) :
    Calls Tryd.prog 73 #[.agg #[.int .i64 l, .int .i64 wd, .int .i64 h, .int .i64 j], .int .i64 n, .int .i64 lo, .int .i64 hi] w fun e w' => e = .returned (.int .i64 (fcode l wd h j n lo hi)) ∧ Below w.heap.size w w' := by
  by_cases h1 : fmtB l wd h j = true
  · by_cases h2 : lo ≤ n
    · by_cases h3 : n ≤ hi
      · have e0 : fcode l wd h j n lo hi = 0 := by unfold fcode; rw [if_pos h1, if_pos ⟨h2, h3⟩]
        rw [e0]
        have d1 : decide (lo ≤ n) = true := by simpa using h2
        have d2 : decide (n ≤ hi) = true := by simpa using h3
        clear e0 h2 h3
        go_enter Tryd.func73, Tryd.ntmps73
        go_wp2_with fail
        refine (impl_validFormat _ _ _ _ _).mono ?_
        rintro e w1 ⟨rfl, hb1⟩
        go_wp2
        go_ret
        exact ⟨rfl, ((Below.refl _ _).alloc (Nat.le_refl _) _).trans (hb1.mono (by go_size))⟩
      · have e0 : fcode l wd h j n lo hi = 2 := by unfold fcode; rw [if_pos h1, if_neg (fun x => h3 x.2)]
        rw [e0]
        have d1 : decide (lo ≤ n) = true := by simpa using h2
        have d2 : decide (n ≤ hi) = false := by simpa using h3
        clear e0 h2 h3
        go_enter Tryd.func73, Tryd.ntmps73
        go_wp2_with fail
        refine (impl_validFormat _ _ _ _ _).mono ?_
        rintro e w1 ⟨rfl, hb1⟩
        go_wp2
        go_ret
        exact ⟨rfl, ((Below.refl _ _).alloc (Nat.le_refl _) _).trans (hb1.mono (by go_size))⟩
    · have e0 : fcode l wd h j n lo hi = 2 := by unfold fcode; rw [if_pos h1, if_neg (fun x => h2 x.1)]
      rw [e0]
      have d1 : decide (lo ≤ n) = false := by simpa using h2
      clear e0 h2
      go_enter Tryd.func73, Tryd.ntmps73
      go_wp2_with fail
      refine (impl_validFormat _ _ _ _ _).mono ?_
      rintro e w1 ⟨rfl, hb1⟩
      go_wp2
      go_ret
      exact ⟨rfl, ((Below.refl _ _).alloc (Nat.le_refl _) _).trans (hb1.mono (by go_size))⟩
  · have e0 : fcode l wd h j n lo hi = 1 := by unfold fcode; rw [if_neg h1]
    have h1' : fmtB l wd h j = false := by simpa using h1
    rw [e0]
    clear e0 h1
    go_enter Tryd.func73, Tryd.ntmps73
    go_wp2_with fail
    refine (impl_validFormat _ _ _ _ _).mono ?_
    rintro e w1 ⟨rfl, hb1⟩
    go_wp2
    go_ret
    exact ⟨rfl, ((Below.refl _ _).alloc (Nat.le_refl _) _).trans (hb1.mono (by go_size))⟩
end Go.Proofs.YtjoepnmmcagggaaDoor
