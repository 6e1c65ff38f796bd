/-
  What is proved: the law FnExactLengthOf returns true and changes nothing that was there, for every input. No conditions beyond the arguments' own ranges.
-/
import Derived.Test.YtekejjieclmcfaaL02c
namespace Go.Proofs.Ytekejjieclmcfaa
open Go.RowKit
set_option linter.unusedVariables false

set_option maxHeartbeats 400000 in
theorem fnExactLengthOfWalk (a0p a0q a0r a0s : Int) (a1 : Int) (w : World) (w0p : (Lit.int .i64 a0p).wf = true) (w0q : (Lit.int .i64 a0q).wf = true) (w0r : (Lit.int .i64 a0r).wf = true) (w0s : (Lit.int .i64 a0s).wf = true) (w1 : (Lit.int .i64 a1).wf = true) :
    Calls Try.prog 16 #[.agg #[.int .i64 a0p, .int .i64 a0q, .int .i64 a0r, .int .i64 a0s], .int .i64 a1] w fun e w' => e = .returned (.bool true) ∧ Below w.heap.size w w' := by
  obtain ⟨n1, n2⟩ := bounds_i64 w1
  clear w0p w0q w0r w0s w1
  go_enter Try.func16, Try.ntmps16
  go_wp2_with fail
  refine (toFormat_ok _ _ _ _ _).mono ?_
  rintro e w1 ⟨rfl, hb1⟩
  have hz1 : w.heap.size < w1.heap.size := by have := hb1.size; (try simp at this); omega
  obtain ⟨hc1, hf1⟩ := bcell hb1
  have B1 : Below w.heap.size w w1 := by
    refine Below.trans ?_ (hb1.mono ?_)
    · go_grown
    · go_size
  go_wp2_with fail
  refine (spec_lengthOf _ _ _ _ _ _ n1 n2).mono ?_
  rintro e w2 ⟨rfl, hb2⟩
  have hz2 : w.heap.size < w2.heap.size := by have := hb2.size; (try simp at this); omega
  obtain ⟨hc2, hf2⟩ := bcell hb2
  have B2 : Below w.heap.size w w2 := by
    refine Below.trans ?_ (hb2.mono ?_)
    · go_grown
    · go_size
  go_wp2_with fail
  refine (toFormat_ok _ _ _ _ _).mono ?_
  rintro e w3 ⟨rfl, hb3⟩
  have hz3 : w.heap.size < w3.heap.size := by have := hb3.size; (try simp at this); omega
  obtain ⟨hc3, hf3⟩ := bcell hb3
  have hy3 : w2.heap.size < w3.heap.size := by have := hb3.size; (try simp at this); omega
  have B3 : Below w.heap.size w w3 := by
    refine Below.trans ?_ (hb3.mono ?_)
    · go_grown
    · go_size
  go_wp2_with fail
  refine (impl_lengthOf _ _ _ _ _ _ n1 n2).mono ?_
  rintro e w4 ⟨rfl, hb4⟩
  have hz4 : w.heap.size < w4.heap.size := by have := hb4.size; (try simp at this); omega
  obtain ⟨hc4, hf4⟩ := bcell hb4
  have hy4 : w2.heap.size < w4.heap.size := by have := hb4.size; omega
  have B4 : Below w.heap.size w w4 := by
    refine Below.trans ?_ (hb4.mono ?_)
    · go_grown
    · go_size
  generalize lengthNum a0p a0q a0r a0s a1 = v at *
  generalize lengthDen a0p a0q a0r a0s a1 = v1 at *
  generalize fcode a0p a0q a0r a0s a1 1 200 = v2 at *
  go_wp2
  go_ret
  exact ⟨rfl, by go_grown⟩
end Go.Proofs.Ytekejjieclmcfaa
