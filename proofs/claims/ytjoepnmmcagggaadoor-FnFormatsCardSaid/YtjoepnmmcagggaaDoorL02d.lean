/-
  What is proved: contracts of VolumeOf and IsModular, of the program and of the reference. No conditions.
-/
import Derived.Test.YtjoepnmmcagggaaDoorL02
import Derived.Deep.QuietTactic
import Derived.BigQuiet
import Derived.StillTailTactics
namespace Go.Proofs.YtjoepnmmcagggaaDoor
open Go.RowKit
set_option linter.unusedVariables false

set_option maxHeartbeats 1000000 in
theorem impl_volumeOf (l wd h j : Int) (w : World) :
    Calls Tryd.prog 43 #[.agg #[.int .i64 l, .int .i64 wd, .int .i64 h, .int .i64 j]] w fun e w' => e = .returned (.tuple #[.int .i64 (volIn l wd h j), .int .i64 (volOut l wd h j), .int .i64 (volCode l wd h j)]) ∧ Below w.heap.size w w' := by
  by_cases hc : fmtB l wd h j = true
  · have ev1 : volIn l wd h j = l * wd * h := by unfold volIn; rw [if_pos hc]
    have ev2 : volOut l wd h j = (l + j) * (wd + j) * (h + j) := by unfold volOut; rw [if_pos hc]
    rw [ev1, ev2, show volCode l wd h j = 0 from if_pos hc]
    obtain ⟨b1, b2, b3, b4, b5, b6, b7, b8, b9⟩ := of_decide_eq_true hc
    have m1 := mul_bd l wd 500 250 (by omega) (by omega) (by omega) (by omega) (by omega)
    have m2 := mul_bd (l * wd) h (500 * 250) 150 (by omega) (by omega) (by omega) (by omega) (by omega)
    have m3 := mul_bd (l + j) (wd + j) 520 270 (by omega) (by omega) (by omega) (by omega) (by omega)
    have m4 := mul_bd ((l + j) * (wd + j)) (h + j) (520 * 270) 170 (by omega) (by omega) (by omega) (by omega) (by omega)
    clear ev1 ev2
    go_enter Tryd.func43, Tryd.ntmps43
    go_wp2_with fail
    refine (impl_validFormat _ _ _ _ _).mono ?_
    rintro e w1 ⟨rfl, hb1⟩
    have hz : w.heap.size < w1.heap.size := by have := hb1.size; simp at this; omega
    obtain ⟨hcc, hff⟩ := bcell hb1
    go_wp2
    go_quiet (fail)
    go_wp2
    go_ret3
    exact ⟨rfl, below_drewN (((Below.refl _ _).alloc (Nat.le_refl _) _).trans (hb1.mono (by go_size))) _⟩
  · have ev1 : volIn l wd h j = 0 := by unfold volIn; rw [if_neg hc]
    have ev2 : volOut l wd h j = 0 := by unfold volOut; rw [if_neg hc]
    rw [ev1, ev2, show volCode l wd h j = 1 from if_neg hc]
    have h1' : fmtB l wd h j = false := by simpa using hc
    clear ev1 ev2 hc
    go_enter Tryd.func43, Tryd.ntmps43
    go_wp2_with fail
    refine (impl_validFormat _ _ _ _ _).mono ?_
    rintro e w1 ⟨rfl, hb1⟩
    have hz : w.heap.size < w1.heap.size := by have := hb1.size; simp at this; omega
    obtain ⟨hcc, hff⟩ := bcell hb1
    go_wp2
    go_ret3
    exact ⟨rfl, ((Below.refl _ _).alloc (Nat.le_refl _) _).trans (hb1.mono (by go_size))⟩
set_option maxHeartbeats 400000 in
theorem impl_isModular (l wd h j : Int) (w : World) :
    Calls Tryd.prog 45 #[.agg #[.int .i64 l, .int .i64 wd, .int .i64 h, .int .i64 j]] w fun e w' => e = .returned (.bool (modB l wd h j)) ∧ Below w.heap.size w w' := by
  by_cases hc : fmtB l wd h j = true
  · have ev1 : modB l wd h j = (l == 2 * wd + j) := by unfold modB; rw [hc, Bool.true_and]
    rw [ev1]
    obtain ⟨b1, b2, b3, b4, b5, b6, b7, b8, b9⟩ := of_decide_eq_true hc
    clear ev1
    go_enter Tryd.func45, Tryd.ntmps45
    go_wp2_with fail
    refine (impl_validFormat _ _ _ _ _).mono ?_
    rintro e w1 ⟨rfl, hb1⟩
    have hz : w.heap.size < w1.heap.size := by have := hb1.size; simp at this; omega
    obtain ⟨hcc, hff⟩ := bcell hb1
    go_wp2
    go_ret
    exact ⟨rfl, ((Below.refl _ _).alloc (Nat.le_refl _) _).trans (hb1.mono (by go_size))⟩
  · have h1' : fmtB l wd h j = false := by simpa using hc
    have ev1 : modB l wd h j = false := by unfold modB; rw [h1', Bool.false_and]
    rw [ev1]
    clear ev1 hc
    go_enter Tryd.func45, Tryd.ntmps45
    go_wp2_with fail
    refine (impl_validFormat _ _ _ _ _).mono ?_
    rintro e w1 ⟨rfl, hb1⟩
    have hz : w.heap.size < w1.heap.size := by have := hb1.size; simp at this; omega
    obtain ⟨hcc, hff⟩ := bcell hb1
    go_wp2
    go_ret
    exact ⟨rfl, ((Below.refl _ _).alloc (Nat.le_refl _) _).trans (hb1.mono (by go_size))⟩
end Go.Proofs.YtjoepnmmcagggaaDoor
