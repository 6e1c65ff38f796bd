/-
  What is proved: contracts of MouldFor, of the program and of the reference. No conditions.
-/
import Derived.Test.YtekejjieclmcfaaL02
import Derived.Test.YtekejjieclmcfaaMould
import Derived.StillTailTactics
namespace Go.Proofs.Ytekejjieclmcfaa
open Go.RowKit
set_option linter.unusedVariables false

/-- What MouldFor answers. -/
def mouldForV (l wd h j s : Int) : Value := if fmtB l wd h j = true ∧ 0 ≤ s ∧ s ≤ 200 then .agg #[.int .i64 (leastI l s), .int .i64 (leastI wd s), .int .i64 (leastI h s), .int .i64 0] else .agg #[.int .i64 0, .int .i64 0, .int .i64 0, .int .i64 0]
def mouldForC (l wd h j s : Int) : Int := if fmtB l wd h j = true then (if 0 ≤ s ∧ s ≤ 200 then 0 else 2) else 1

theorem impl_isShrink (s : Int) (w : World) : Calls Try.prog 63 #[.int .i64 s] w fun e w' => e = .returned (.bool (decide (0 ≤ s ∧ s ≤ 200))) ∧ w = w' := by
  by_cases h : 0 ≤ s ∧ s ≤ 200
  · rw [decide_eq_true h]
    go_enter Try.func63, Try.ntmps63
    go_wp2_with fail
    refine (impl_in_yes _ _ _ _ h.1 h.2).mono ?_
    rintro e w1 ⟨rfl, rfl⟩
    go_wp2
    go_ret
    exact ⟨rfl, rfl⟩
  · rw [decide_eq_false h]
    go_enter Try.func63, Try.ntmps63
    go_wp2_with fail
    refine (impl_in_no _ _ _ _ h).mono ?_
    rintro e w1 ⟨rfl, rfl⟩
    go_wp2
    go_ret
    exact ⟨rfl, rfl⟩
set_option maxHeartbeats 400000 in
theorem impl_mouldFor_bad (l wd h j s : Int) (w : World) (hv : fmtB l wd h j = false) :
    Calls Try.prog 42 #[.agg #[.int .i64 l, .int .i64 wd, .int .i64 h, .int .i64 j], .int .i64 s] w fun e w' => e = .returned (.tuple #[.agg #[.int .i64 0, .int .i64 0, .int .i64 0, .int .i64 0], .int .i64 1]) ∧ Below w.heap.size w w' := by
  go_enter Try.func42, Try.ntmps42
  go_wp2_with fail
  refine (impl_validFormat _ _ _ _ _).mono ?_
  rintro e w1 ⟨rfl, hb1⟩
  have hz : w.heap.size + 2 < w1.heap.size := by have := hb1.size; simp at this; omega
  obtain ⟨hcc, hff⟩ := bcell hb1
  go_wp2
  refine bodyPost_ret (v := .tuple #[.agg #[.int .i64 0, .int .i64 0, .int .i64 0, .int .i64 0], .int .i64 1]) ?_ rfl ?_
  · simp [results, Try.results42, go_sem, hcc]
  · refine ⟨rfl, ?_⟩
    have B1 : Below w.heap.size w w1 := by
      refine Below.trans ?_ (hb1.mono ?_)
      · go_grown
      · go_size
    go_grown
set_option maxHeartbeats 400000 in
theorem impl_mouldFor_range (l wd h j s : Int) (w : World) (hv : fmtB l wd h j = true) (h2 : ¬ (0 ≤ s ∧ s ≤ 200)) :
    Calls Try.prog 42 #[.agg #[.int .i64 l, .int .i64 wd, .int .i64 h, .int .i64 j], .int .i64 s] w fun e w' => e = .returned (.tuple #[.agg #[.int .i64 0, .int .i64 0, .int .i64 0, .int .i64 0], .int .i64 2]) ∧ Below w.heap.size w w' := by
  have hd : decide (0 ≤ s ∧ s ≤ 200) = false := decide_eq_false h2
  go_enter Try.func42, Try.ntmps42
  go_wp2_with fail
  refine (impl_validFormat _ _ _ _ _).mono ?_
  rintro e w1 ⟨rfl, hb1⟩
  have hz : w.heap.size + 2 < w1.heap.size := by have := hb1.size; simp at this; omega
  obtain ⟨hcc, hff⟩ := bcell hb1
  go_wp2_with fail
  refine (impl_isShrink _ _).mono ?_
  rintro e w2 ⟨rfl, rfl⟩
  rw [hd]
  go_wp2
  refine bodyPost_ret (v := .tuple #[.agg #[.int .i64 0, .int .i64 0, .int .i64 0, .int .i64 0], .int .i64 2]) ?_ rfl ?_
  · simp [results, Try.results42, go_sem, hcc]
  · refine ⟨rfl, ?_⟩
    have B1 : Below w.heap.size w w1 := by
      refine Below.trans ?_ (hb1.mono ?_)
      · go_grown
      · go_size
    go_grown
set_option maxHeartbeats 400000 in
theorem spec_mouldFor_bad (l wd h j s : Int) (w : World) (hv : fmtB l wd h j = false) :
    Calls Try.prog 41 #[.agg #[.int .i64 l, .int .i64 wd, .int .i64 h, .int .i64 j], .int .i64 s] w fun e w' => e = .returned (.tuple #[.agg #[.int .i64 0, .int .i64 0, .int .i64 0, .int .i64 0], .int .i64 1]) ∧ Below w.heap.size w w' := by
  go_enter Try.func41, Try.ntmps41
  go_wp2_with fail
  refine (spec_l02Ok _ _ _ _ _).mono ?_
  rintro e w1 ⟨rfl, hb1⟩
  have hz : w.heap.size + 1 < w1.heap.size := by have := hb1.size; simp at this; omega
  obtain ⟨hcc, hff⟩ := bcell hb1
  go_wp2
  refine bodyPost_ret (v := .tuple #[.agg #[.int .i64 0, .int .i64 0, .int .i64 0, .int .i64 0], .int .i64 1]) ?_ rfl ?_
  · simp [results, Try.results41, go_sem, hcc]
  · refine ⟨rfl, ?_⟩
    have B1 : Below w.heap.size w w1 := by
      refine Below.trans ?_ (hb1.mono ?_)
      · go_grown
      · go_size
    go_grown
set_option maxHeartbeats 400000 in
theorem spec_mouldFor_range (l wd h j s : Int) (w : World) (hv : fmtB l wd h j = true) (h2 : ¬ (0 ≤ s ∧ s ≤ 200)) :
    Calls Try.prog 41 #[.agg #[.int .i64 l, .int .i64 wd, .int .i64 h, .int .i64 j], .int .i64 s] w fun e w' => e = .returned (.tuple #[.agg #[.int .i64 0, .int .i64 0, .int .i64 0, .int .i64 0], .int .i64 2]) ∧ Below w.heap.size w w' := by
  have hd : decide (0 ≤ s ∧ s ≤ 200) = false := decide_eq_false h2
  go_enter Try.func41, Try.ntmps41
  go_wp2_with fail
  refine (spec_l02Ok _ _ _ _ _).mono ?_
  rintro e w1 ⟨rfl, hb1⟩
  have hz : w.heap.size + 1 < w1.heap.size := by have := hb1.size; simp at this; omega
  obtain ⟨hcc, hff⟩ := bcell hb1
  go_wp2_with fail
  refine (spec_in_no _ _ _ _ h2).mono ?_
  rintro e w2 ⟨rfl, rfl⟩
  skip
  go_wp2
  refine bodyPost_ret (v := .tuple #[.agg #[.int .i64 0, .int .i64 0, .int .i64 0, .int .i64 0], .int .i64 2]) ?_ rfl ?_
  · simp [results, Try.results41, go_sem, hcc]
  · refine ⟨rfl, ?_⟩
    have B1 : Below w.heap.size w w1 := by
      refine Below.trans ?_ (hb1.mono ?_)
      · go_grown
      · go_size
    go_grown
set_option maxHeartbeats 1000000 in
theorem impl_mouldFor_yes (l wd h j s : Int) (w : World) (hv : fmtB l wd h j = true) (h2 : 0 ≤ s) (h3 : s ≤ 200) :
    Calls Try.prog 42 #[.agg #[.int .i64 l, .int .i64 wd, .int .i64 h, .int .i64 j], .int .i64 s] w fun e w' => e = .returned (.tuple #[.agg #[.int .i64 (leastI l s), .int .i64 (leastI wd s), .int .i64 (leastI h s), .int .i64 0], .int .i64 0]) ∧ Below w.heap.size w w' := by
  obtain ⟨b1, b2, b3, b4, b5, b6, b7, b8, b9⟩ := of_decide_eq_true hv
  go_enter Try.func42, Try.ntmps42
  go_wp2_with fail
  refine (impl_validFormat _ _ _ _ _).mono ?_
  rintro e w1 ⟨rfl, hb1⟩
  have hz : w.heap.size + 2 < w1.heap.size := by have := hb1.size; simp at this; omega
  obtain ⟨hcc, hff⟩ := bcell hb1
  have hcs : w1.cell? ⟨w.heap.size + 1, 0, none⟩ = some (.int .i64 s) := by rw [hcc _ _ (by go_size)]; simp [go_sem]
  go_wp2
  refine wp_region_still_tail 13 (by kernel_rfl) (by kernel_rfl) ?_
  simp only [List.take_succ_cons, List.take_zero, List.drop_succ_cons, List.drop_zero]
  iterate 3 still_step
  still_call ((impl_least _ s _ _ (by omega) (by omega) (by omega) (by omega) (by exact hcs)).mono fun _ _ hh => ⟨hh.1, hh.2.symm⟩)
  iterate 3 still_step
  still_call ((impl_least _ s _ _ (by omega) (by omega) (by omega) (by omega) (by exact hcs)).mono fun _ _ hh => ⟨hh.1, hh.2.symm⟩)
  iterate 3 still_step
  still_call ((impl_least _ s _ _ (by omega) (by omega) (by omega) (by omega) (by exact hcs)).mono fun _ _ hh => ⟨hh.1, hh.2.symm⟩)
  repeat still_step
  refine wpStill_nil ?_
  change wpList _ _ _ _ _ w1.drew
  go_wp2
  refine bodyPost_ret (v := .tuple #[.agg #[.int .i64 (leastI l s), .int .i64 (leastI wd s), .int .i64 (leastI h s), .int .i64 0], .int .i64 0]) ?_ rfl ?_
  · simp [results, Try.results42, go_sem, hcc]
  · refine ⟨rfl, ?_⟩
    have B1 : Below w.heap.size w w1 := by
      refine Below.trans ?_ (hb1.mono ?_)
      · go_grown
      · go_size
    go_grown
set_option maxHeartbeats 1000000 in
theorem spec_mouldFor_yes (l wd h j s : Int) (w : World) (hv : fmtB l wd h j = true) (h2 : 0 ≤ s) (h3 : s ≤ 200) :
    Calls Try.prog 41 #[.agg #[.int .i64 l, .int .i64 wd, .int .i64 h, .int .i64 j], .int .i64 s] w fun e w' => e = .returned (.tuple #[.agg #[.int .i64 (leastI l s), .int .i64 (leastI wd s), .int .i64 (leastI h s), .int .i64 0], .int .i64 0]) ∧ Below w.heap.size w w' := by
  obtain ⟨b1, b2, b3, b4, b5, b6, b7, b8, b9⟩ := of_decide_eq_true hv
  go_enter Try.func41, Try.ntmps41
  go_wp2_with fail
  refine (spec_l02Ok _ _ _ _ _).mono ?_
  rintro e w1 ⟨rfl, hb1⟩
  have hz : w.heap.size + 1 < w1.heap.size := by have := hb1.size; simp at this; omega
  obtain ⟨hcc, hff⟩ := bcell hb1
  go_wp2
  refine wp_region_still_tail 13 (by kernel_rfl) (by kernel_rfl) ?_
  simp only [List.take_succ_cons, List.take_zero, List.drop_succ_cons, List.drop_zero]
  iterate 3 still_step
  still_call ((spec_l05Least _ _ _ (by omega) (by omega) (by omega) (by omega)).mono fun _ _ hh => ⟨hh.1, hh.2.symm⟩)
  iterate 3 still_step
  still_call ((spec_l05Least _ _ _ (by omega) (by omega) (by omega) (by omega)).mono fun _ _ hh => ⟨hh.1, hh.2.symm⟩)
  iterate 3 still_step
  still_call ((spec_l05Least _ _ _ (by omega) (by omega) (by omega) (by omega)).mono fun _ _ hh => ⟨hh.1, hh.2.symm⟩)
  repeat still_step
  refine wpStill_nil ?_
  change wpList _ _ _ _ _ w1.drew
  go_wp2
  refine bodyPost_ret (v := .tuple #[.agg #[.int .i64 (leastI l s), .int .i64 (leastI wd s), .int .i64 (leastI h s), .int .i64 0], .int .i64 0]) ?_ rfl ?_
  · simp [results, Try.results41, go_sem, hcc]
  · refine ⟨rfl, ?_⟩
    have B1 : Below w.heap.size w w1 := by
      refine Below.trans ?_ (hb1.mono ?_)
      · go_grown
      · go_size
    go_grown
theorem impl_mouldFor (l wd h j s : Int) (w : World) :
    Calls Try.prog 42 #[.agg #[.int .i64 l, .int .i64 wd, .int .i64 h, .int .i64 j], .int .i64 s] w fun e w' => e = .returned (.tuple #[mouldForV l wd h j s, .int .i64 (mouldForC l wd h j s)]) ∧ Below w.heap.size w w' := by
  unfold mouldForV mouldForC
  by_cases hv : fmtB l wd h j = true
  · by_cases hs : 0 ≤ s ∧ s ≤ 200
    · rw [if_pos ⟨hv, hs⟩, if_pos hv, if_pos hs]
      exact impl_mouldFor_yes l wd h j s w hv hs.1 hs.2
    · rw [if_neg (fun x => hs x.2), if_pos hv, if_neg hs]
      exact impl_mouldFor_range l wd h j s w hv hs
  · rw [if_neg (fun x => hv x.1), if_neg hv]
    exact impl_mouldFor_bad l wd h j s w (by simpa using hv)
theorem impl_mouldFor_form (l wd h j s : Int) : ∃ x y z : Int, mouldForV l wd h j s = .agg #[.int .i64 x, .int .i64 y, .int .i64 z, .int .i64 0] := by
  unfold mouldForV
  split
  · exact ⟨_, _, _, rfl⟩
  · exact ⟨_, _, _, rfl⟩
theorem spec_mouldFor (l wd h j s : Int) (w : World) :
    Calls Try.prog 41 #[.agg #[.int .i64 l, .int .i64 wd, .int .i64 h, .int .i64 j], .int .i64 s] w fun e w' => e = .returned (.tuple #[mouldForV l wd h j s, .int .i64 (mouldForC l wd h j s)]) ∧ Below w.heap.size w w' := by
  unfold mouldForV mouldForC
  by_cases hv : fmtB l wd h j = true
  · by_cases hs : 0 ≤ s ∧ s ≤ 200
    · rw [if_pos ⟨hv, hs⟩, if_pos hv, if_pos hs]
      exact spec_mouldFor_yes l wd h j s w hv hs.1 hs.2
    · rw [if_neg (fun x => hs x.2), if_pos hv, if_neg hs]
      exact spec_mouldFor_range l wd h j s w hv hs
  · rw [if_neg (fun x => hv x.1), if_neg hv]
    exact spec_mouldFor_bad l wd h j s w (by simpa using hv)
theorem spec_mouldFor_form (l wd h j s : Int) : ∃ x y z : Int, mouldForV l wd h j s = .agg #[.int .i64 x, .int .i64 y, .int .i64 z, .int .i64 0] := by
  unfold mouldForV
  split
  · exact ⟨_, _, _, rfl⟩
  · exact ⟨_, _, _, rfl⟩
end Go.Proofs.Ytekejjieclmcfaa
