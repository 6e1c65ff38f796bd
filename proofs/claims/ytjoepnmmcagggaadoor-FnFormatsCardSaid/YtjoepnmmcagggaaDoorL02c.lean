/-
  What is proved: contracts of LengthOf, of the program and of the reference. Conditions: the ranges named in each.
-/
import Derived.Test.YtjoepnmmcagggaaDoorL02b
namespace Go.Proofs.YtjoepnmmcagggaaDoor
open Go.RowKit
set_option linter.unusedVariables false

set_option maxHeartbeats 400000 in
theorem impl_lengthOf (l wd h j n : Int) (w : World) (hn1 : -9223372036854775808 ≤ n) (hn2 : n ≤ 9223372036854775807) :
    Calls Tryd.prog 44 #[.agg #[.int .i64 l, .int .i64 wd, .int .i64 h, .int .i64 j], .int .i64 n] w fun e w' => e = .returned (.tuple #[.agg #[.int .i64 (lengthNum l wd h j n), .int .i64 (lengthDen l wd h j n)], .int .i64 (fcode l wd h j n 1 200)]) ∧ Below w.heap.size w w' := by
  by_cases hc : fcode l wd h j n 1 200 = 0
  · have ev1 : lengthNum l wd h j n = (n * (l + j) - 4 * j) / Int.gcd (n * (l + j) - 4 * j) 4 := by unfold lengthNum; rw [if_pos hc]
    have ev2 : lengthDen l wd h j n = 4 / Int.gcd (n * (l + j) - 4 * j) 4 := by unfold lengthDen; rw [if_pos hc]
    rw [ev1, ev2]
    obtain ⟨⟨b1, b2, b3, b4, b5, b6, b7, b8, b9⟩, b10, b11⟩ := fcode_ok hc
    have ct : (fcode l wd h j n 1 200 != 0) = false := by simp [hc]
    have m1 : l + j ≤ n * (l + j) ∧ n * (l + j) ≤ 104000 := ⟨le_mul1 n (l + j) (by omega) b10, (mul_bd n (l + j) 200 520 (by omega) (by omega) (by omega) (by omega) (by omega)).2⟩
    generalize hcg : fcode l wd h j n 1 200 = c at *
    have Hc := hide hcg
    have Hc0 := hide hc
    clear hc hcg ev1 ev2
    go_enter Tryd.func44, Tryd.ntmps44
    go_wp2_with fail
    refine (impl_formatCode _ _ _ _ _ _ _ _).mono ?_
    rintro e w1 ⟨rfl, hb1⟩
    have hz : w.heap.size + 1 < w1.heap.size := by have := hb1.size; simp at this; omega
    obtain ⟨hcc, hff⟩ := bcell hb1
    rw [Hc.out]
    go_wp2_with fail
    refine (impl_lowest _ _ _ (by omega) (by omega) (by omega) (by omega)).mono ?_
    rintro e w2 ⟨rfl, hb2⟩
    have hz' : w.heap.size + 1 < w2.heap.size := by have := hb2.size; omega
    obtain ⟨hcc2, hff2⟩ := bcell hb2
    generalize hgg : (Int.gcd (n * (l + j) - 4 * j) 4 : Int) = g at *
    have Hg := hide hgg
    clear hgg
    go_wp2
    refine bodyPost_ret (v := .tuple #[.agg #[.int .i64 ((n * (l + j) - 4 * j) / g), .int .i64 (4 / g)], .int .i64 0]) ?_ rfl ?_
    · simp [results, Tryd.results44, go_sem, hcc, hcc2, hz]
    · refine ⟨by rw [Hg.out, Hc0.out], Below.setCell (Below.setCell ?_ (by simp) _) (by simp) _⟩
      exact ((((Below.refl _ _).alloc (Nat.le_refl _) _).alloc (by simp) _).trans (hb1.mono (by go_size))).trans (hb2.mono (by omega))
  · have ev1 : lengthNum l wd h j n = 0 := by unfold lengthNum; rw [if_neg hc]
    have ev2 : lengthDen l wd h j n = 0 := by unfold lengthDen; rw [if_neg hc]
    rw [ev1, ev2]
    have ct : (fcode l wd h j n 1 200 != 0) = true := by simp [hc]
    generalize hcg : fcode l wd h j n 1 200 = c at *
    have Hc := hide hcg
    clear hc hcg ev1 ev2
    go_enter Tryd.func44, Tryd.ntmps44
    go_wp2_with fail
    refine (impl_formatCode _ _ _ _ _ _ _ _).mono ?_
    rintro e w1 ⟨rfl, hb1⟩
    have hz : w.heap.size + 1 < w1.heap.size := by have := hb1.size; simp at this; omega
    obtain ⟨hcc, hff⟩ := bcell hb1
    rw [Hc.out]
    go_wp2
    refine bodyPost_ret (v := .tuple #[.agg #[.int .i64 0, .int .i64 0], .int .i64 c]) ?_ rfl ?_
    · simp [results, Tryd.results44, go_sem, hcc]
    · refine ⟨rfl, Below.setCell (Below.setCell ?_ (by simp) _) (by simp) _⟩
      exact (((Below.refl _ _).alloc (Nat.le_refl _) _).alloc (by simp) _).trans (hb1.mono (by go_size))
end Go.Proofs.YtjoepnmmcagggaaDoor
