/-
  What is proved: the law FnExactMouldText returns true and changes nothing that was there, for every input. No conditions beyond the arguments' own ranges.
-/
import Derived.Test.YtjoepnmmcagggaaDoorTexts
namespace Go.Proofs.YtjoepnmmcagggaaDoor
open Go.RowKit
set_option linter.unusedVariables false

set_option maxHeartbeats 400000 in
theorem fnExactMouldTextWalk (a0p a0q a0r a0s : Int) (w : World) (w0p : (Lit.int .i64 a0p).wf = true) (w0q : (Lit.int .i64 a0q).wf = true) (w0r : (Lit.int .i64 a0r).wf = true) (w0s : (Lit.int .i64 a0s).wf = true) (hp : Pow10 w) :
    Calls Tryd.prog 6 #[.agg #[.int .i64 a0p, .int .i64 a0q, .int .i64 a0r, .int .i64 a0s]] w fun e w' => e = .returned (.bool true) ∧ Below w.heap.size w w' := by
  have HP := hide hp
  clear w0p w0q w0r w0s hp
  obtain ⟨v, hv⟩ : ∃ v, mldT a0p a0q a0r a0s = v := ⟨_, rfl⟩
  have HV := hide hv
  have hne : (v.toList != v.toList) = false := by simp
  clear hv
  go_enter Tryd.func6, Tryd.ntmps6
  go_wp2_with fail
  refine (toMould_ok _ _ _ _ _).mono ?_
  rintro e w1 ⟨rfl, hb1⟩
  have hz1 : w.heap.size < w1.heap.size := by have := hb1.size; (try simp at this); omega
  obtain ⟨hc1, hf1⟩ := bcell hb1
  go_wp2_with fail
  refine (spec_mouldText _ _ _ _ _).mono ?_
  rintro e w2 ⟨rfl, hb2⟩
  rw [HV.out]
  have hz2 : w.heap.size < w2.heap.size := by have := hb2.size; (try simp at this); omega
  obtain ⟨hc2, hf2⟩ := bcell hb2
  go_wp2_with fail
  refine (toMould_ok _ _ _ _ _).mono ?_
  rintro e w3 ⟨rfl, hb3⟩
  have hz3 : w.heap.size < w3.heap.size := by have := hb3.size; (try simp at this); omega
  obtain ⟨hc3, hf3⟩ := bcell hb3
  go_wp2_with fail
  have BP := hide (((((Below.refl w.heap.size w).alloc (Nat.le_refl _) _).trans (hb1.mono (by go_size))).trans (hb2.mono (by go_size))).trans (hb3.mono (by go_size)))
  refine (impl_mouldText _ _ _ _ _ (HP.out.below BP.out)).mono ?_
  rintro e w4 ⟨rfl, hb4⟩
  rw [HV.out]
  have hz4 : w.heap.size < w4.heap.size := by have := hb4.size; (try simp at this); omega
  obtain ⟨hc4, hf4⟩ := bcell hb4
  go_wp2
  go_ret
  exact ⟨rfl, (((((Below.refl _ _).alloc (Nat.le_refl _) _).trans (hb1.mono (by go_size))).trans (hb2.mono (by go_size))).trans (hb3.mono (by go_size))).trans (hb4.mono (by go_size))⟩
end Go.Proofs.YtjoepnmmcagggaaDoor
