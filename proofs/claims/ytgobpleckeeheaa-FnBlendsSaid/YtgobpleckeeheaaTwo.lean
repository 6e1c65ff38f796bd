/-
  What is proved: the parts of two clays with a shrinkage, of the program and of the reference. Conditions: names that fit in memory.
-/
import Derived.Test.YtgobpleckeeheaaClayOk
import Derived.Test.YtgobpleckeeheaaGcd
import Derived.Deep.RegionWith
namespace Go.Proofs.Ytgobpleckeeheaa
open Go.RowKit
set_option linter.unusedVariables false

def absB (n : Int) : Int := if n < 0 then -n else n
def TwoIn (a b s : Int) : Prop := (a ≤ s ∧ s ≤ b) ∨ (b ≤ s ∧ s ≤ a)
instance (a b s : Int) : Decidable (TwoIn a b s) := by unfold TwoIn; infer_instance
def twoC (x y : Clay) (s : Int) : Int := if x.Ok ∧ y.Ok then (if 0 ≤ s ∧ s ≤ 200 then (if x.s = y.s then 6 else if TwoIn x.s y.s s then 0 else 3) else 2) else 1
def twoX (x y : Clay) (s : Int) : Int := if twoC x y s = 0 then absB (y.s - s) / (Int.gcd (absB (y.s - s)) (absB (x.s - s)) : Int) else 0
def twoY (x y : Clay) (s : Int) : Int := if twoC x y s = 0 then absB (x.s - s) / (Int.gcd (absB (y.s - s)) (absB (x.s - s)) : Int) else 0
theorem spec_min_lo (a b : Int) (w : World) (h : a < b) : Calls Try.prog 67 #[.int .i64 a, .int .i64 b] w fun e w' => e = .returned (.int .i64 a) ∧ w = w' := by
  go_enter Try.func67, Try.ntmps67
  go_wp2
  go_ret
  exact ⟨rfl, rfl⟩
theorem spec_min_hi (a b : Int) (w : World) (h : b < a) : Calls Try.prog 67 #[.int .i64 a, .int .i64 b] w fun e w' => e = .returned (.int .i64 b) ∧ w = w' := by
  go_enter Try.func67, Try.ntmps67
  go_wp2
  go_ret
  exact ⟨rfl, rfl⟩
theorem spec_max_lo (a b : Int) (w : World) (h : a < b) : Calls Try.prog 68 #[.int .i64 a, .int .i64 b] w fun e w' => e = .returned (.int .i64 b) ∧ w = w' := by
  go_enter Try.func68, Try.ntmps68
  go_wp2
  go_ret
  exact ⟨rfl, rfl⟩
theorem spec_max_hi (a b : Int) (w : World) (h : b < a) : Calls Try.prog 68 #[.int .i64 a, .int .i64 b] w fun e w' => e = .returned (.int .i64 a) ∧ w = w' := by
  go_enter Try.func68, Try.ntmps68
  go_wp2
  go_ret
  exact ⟨rfl, rfl⟩
set_option maxRecDepth 100000 in
set_option maxHeartbeats 2000000 in
theorem impl_two_a (a0 b0 : ByteArray) (a1 a2 a3 a4 b1 b2 b3 b4 s : Int) (w : World) (ha : a0.size ≤ maxLen) (hb : b0.size ≤ maxLen) (h1 : Clay.ok ⟨a0, a1, a2, a3, a4⟩ = false) :
    Calls Try.prog 15 #[.agg #[.string a0, .int .i64 a1, .int .i64 a2, .int .i64 a3, .int .i64 a4], .agg #[.string b0, .int .i64 b1, .int .i64 b2, .int .i64 b3, .int .i64 b4], .int .i64 s] w fun e w' => e = .returned (.tuple #[.int .i64 0, .int .i64 0, .int .i64 1]) ∧ Below w.heap.size w w' := by
  go_enter Try.func15, Try.ntmps15
  have HB0 := hide (((Below.refl w.heap.size w).alloc (Nat.le_refl _) (.cells #[.string a0, .int .i64 a1, .int .i64 a2, .int .i64 a3, .int .i64 a4] 39)).alloc (by simp) (.cells #[.string b0, .int .i64 b1, .int .i64 b2, .int .i64 b3, .int .i64 b4] 39))
  go_wp2_with fail
  refine (impl_isClay a0 a1 a2 a3 a4 _ ha).mono ?_
  rintro e w1 ⟨rfl, hk1⟩
  rw [h1]
  have ac0 := (hk1.cell (p := ⟨w.heap.size, 0, none⟩) (by simp <;> omega)).trans (show _ = some (.string a0) from by simp [go_sem])
  have ac1 := (hk1.cell (p := ⟨w.heap.size, 1, none⟩) (by simp <;> omega)).trans (show _ = some (.int .i64 a1) from by simp [go_sem])
  have ac2 := (hk1.cell (p := ⟨w.heap.size, 2, none⟩) (by simp <;> omega)).trans (show _ = some (.int .i64 a2) from by simp [go_sem])
  have ac3 := (hk1.cell (p := ⟨w.heap.size, 3, none⟩) (by simp <;> omega)).trans (show _ = some (.int .i64 a3) from by simp [go_sem])
  have ac4 := (hk1.cell (p := ⟨w.heap.size, 4, none⟩) (by simp <;> omega)).trans (show _ = some (.int .i64 a4) from by simp [go_sem])
  have bc0 := (hk1.cell (p := ⟨w.heap.size + 1, 0, none⟩) (by simp <;> omega)).trans (show _ = some (.string b0) from by simp [go_sem])
  have bc1 := (hk1.cell (p := ⟨w.heap.size + 1, 1, none⟩) (by simp <;> omega)).trans (show _ = some (.int .i64 b1) from by simp [go_sem])
  have bc2 := (hk1.cell (p := ⟨w.heap.size + 1, 2, none⟩) (by simp <;> omega)).trans (show _ = some (.int .i64 b2) from by simp [go_sem])
  have bc3 := (hk1.cell (p := ⟨w.heap.size + 1, 3, none⟩) (by simp <;> omega)).trans (show _ = some (.int .i64 b3) from by simp [go_sem])
  have bc4 := (hk1.cell (p := ⟨w.heap.size + 1, 4, none⟩) (by simp <;> omega)).trans (show _ = some (.int .i64 b4) from by simp [go_sem])
  have hz1 : w.heap.size + 1 < w1.heap.size := by have := hk1.size; simp at this; omega
  have HB1 := hide (HB0.out.trans (hk1.mono (by simp <;> omega)))
  clear hk1
  go_wp2
  refine bodyPost_ret (v := .tuple #[.int .i64 0, .int .i64 0, .int .i64 1]) ?_ rfl ⟨rfl, ?_⟩
  · simp [results, Try.results15, go_sem]
  · exact HB1.out
set_option maxRecDepth 100000 in
set_option maxHeartbeats 2000000 in
theorem impl_two_b (a0 b0 : ByteArray) (a1 a2 a3 a4 b1 b2 b3 b4 s : Int) (w : World) (ha : a0.size ≤ maxLen) (hb : b0.size ≤ maxLen) (h1 : Clay.ok ⟨a0, a1, a2, a3, a4⟩ = true) (h2 : Clay.ok ⟨b0, b1, b2, b3, b4⟩ = false) :
    Calls Try.prog 15 #[.agg #[.string a0, .int .i64 a1, .int .i64 a2, .int .i64 a3, .int .i64 a4], .agg #[.string b0, .int .i64 b1, .int .i64 b2, .int .i64 b3, .int .i64 b4], .int .i64 s] w fun e w' => e = .returned (.tuple #[.int .i64 0, .int .i64 0, .int .i64 1]) ∧ Below w.heap.size w w' := by
  go_enter Try.func15, Try.ntmps15
  have HB0 := hide (((Below.refl w.heap.size w).alloc (Nat.le_refl _) (.cells #[.string a0, .int .i64 a1, .int .i64 a2, .int .i64 a3, .int .i64 a4] 39)).alloc (by simp) (.cells #[.string b0, .int .i64 b1, .int .i64 b2, .int .i64 b3, .int .i64 b4] 39))
  go_wp2_with fail
  refine (impl_isClay a0 a1 a2 a3 a4 _ ha).mono ?_
  rintro e w1 ⟨rfl, hk1⟩
  rw [h1]
  have ac0 := (hk1.cell (p := ⟨w.heap.size, 0, none⟩) (by simp <;> omega)).trans (show _ = some (.string a0) from by simp [go_sem])
  have ac1 := (hk1.cell (p := ⟨w.heap.size, 1, none⟩) (by simp <;> omega)).trans (show _ = some (.int .i64 a1) from by simp [go_sem])
  have ac2 := (hk1.cell (p := ⟨w.heap.size, 2, none⟩) (by simp <;> omega)).trans (show _ = some (.int .i64 a2) from by simp [go_sem])
  have ac3 := (hk1.cell (p := ⟨w.heap.size, 3, none⟩) (by simp <;> omega)).trans (show _ = some (.int .i64 a3) from by simp [go_sem])
  have ac4 := (hk1.cell (p := ⟨w.heap.size, 4, none⟩) (by simp <;> omega)).trans (show _ = some (.int .i64 a4) from by simp [go_sem])
  have bc0 := (hk1.cell (p := ⟨w.heap.size + 1, 0, none⟩) (by simp <;> omega)).trans (show _ = some (.string b0) from by simp [go_sem])
  have bc1 := (hk1.cell (p := ⟨w.heap.size + 1, 1, none⟩) (by simp <;> omega)).trans (show _ = some (.int .i64 b1) from by simp [go_sem])
  have bc2 := (hk1.cell (p := ⟨w.heap.size + 1, 2, none⟩) (by simp <;> omega)).trans (show _ = some (.int .i64 b2) from by simp [go_sem])
  have bc3 := (hk1.cell (p := ⟨w.heap.size + 1, 3, none⟩) (by simp <;> omega)).trans (show _ = some (.int .i64 b3) from by simp [go_sem])
  have bc4 := (hk1.cell (p := ⟨w.heap.size + 1, 4, none⟩) (by simp <;> omega)).trans (show _ = some (.int .i64 b4) from by simp [go_sem])
  have hz1 : w.heap.size + 1 < w1.heap.size := by have := hk1.size; simp at this; omega
  have HB1 := hide (HB0.out.trans (hk1.mono (by simp <;> omega)))
  clear hk1
  go_wp2_with fail
  refine (impl_isClay b0 b1 b2 b3 b4 _ hb).mono ?_
  rintro e w2 ⟨rfl, hk2⟩
  rw [h2]
  replace ac0 := (hk2.cell (p := ⟨w.heap.size, 0, none⟩) (show w.heap.size < w1.heap.size from by omega)).trans ac0
  replace ac1 := (hk2.cell (p := ⟨w.heap.size, 1, none⟩) (show w.heap.size < w1.heap.size from by omega)).trans ac1
  replace ac2 := (hk2.cell (p := ⟨w.heap.size, 2, none⟩) (show w.heap.size < w1.heap.size from by omega)).trans ac2
  replace ac3 := (hk2.cell (p := ⟨w.heap.size, 3, none⟩) (show w.heap.size < w1.heap.size from by omega)).trans ac3
  replace ac4 := (hk2.cell (p := ⟨w.heap.size, 4, none⟩) (show w.heap.size < w1.heap.size from by omega)).trans ac4
  replace bc0 := (hk2.cell (p := ⟨w.heap.size + 1, 0, none⟩) (show w.heap.size + 1 < w1.heap.size from by omega)).trans bc0
  replace bc1 := (hk2.cell (p := ⟨w.heap.size + 1, 1, none⟩) (show w.heap.size + 1 < w1.heap.size from by omega)).trans bc1
  replace bc2 := (hk2.cell (p := ⟨w.heap.size + 1, 2, none⟩) (show w.heap.size + 1 < w1.heap.size from by omega)).trans bc2
  replace bc3 := (hk2.cell (p := ⟨w.heap.size + 1, 3, none⟩) (show w.heap.size + 1 < w1.heap.size from by omega)).trans bc3
  replace bc4 := (hk2.cell (p := ⟨w.heap.size + 1, 4, none⟩) (show w.heap.size + 1 < w1.heap.size from by omega)).trans bc4
  have hz2 : w.heap.size + 1 < w2.heap.size := by have := hk2.size; omega
  have HB2 := hide (HB1.out.trans (hk2.mono HB1.out.size))
  clear hk2
  go_wp2
  refine bodyPost_ret (v := .tuple #[.int .i64 0, .int .i64 0, .int .i64 1]) ?_ rfl ⟨rfl, ?_⟩
  · simp [results, Try.results15, go_sem]
  · exact HB2.out
set_option maxRecDepth 100000 in
set_option maxHeartbeats 2000000 in
theorem impl_two_r (a0 b0 : ByteArray) (a1 a2 a3 a4 b1 b2 b3 b4 s : Int) (w : World) (ha : a0.size ≤ maxLen) (hb : b0.size ≤ maxLen) (h1 : Clay.ok ⟨a0, a1, a2, a3, a4⟩ = true) (h2 : Clay.ok ⟨b0, b1, b2, b3, b4⟩ = true) (h3 : ¬ (0 ≤ s ∧ s ≤ 200)) :
    Calls Try.prog 15 #[.agg #[.string a0, .int .i64 a1, .int .i64 a2, .int .i64 a3, .int .i64 a4], .agg #[.string b0, .int .i64 b1, .int .i64 b2, .int .i64 b3, .int .i64 b4], .int .i64 s] w fun e w' => e = .returned (.tuple #[.int .i64 0, .int .i64 0, .int .i64 2]) ∧ Below w.heap.size w w' := by
  go_enter Try.func15, Try.ntmps15
  have HB0 := hide (((Below.refl w.heap.size w).alloc (Nat.le_refl _) (.cells #[.string a0, .int .i64 a1, .int .i64 a2, .int .i64 a3, .int .i64 a4] 39)).alloc (by simp) (.cells #[.string b0, .int .i64 b1, .int .i64 b2, .int .i64 b3, .int .i64 b4] 39))
  go_wp2_with fail
  refine (impl_isClay a0 a1 a2 a3 a4 _ ha).mono ?_
  rintro e w1 ⟨rfl, hk1⟩
  rw [h1]
  have ac0 := (hk1.cell (p := ⟨w.heap.size, 0, none⟩) (by simp <;> omega)).trans (show _ = some (.string a0) from by simp [go_sem])
  have ac1 := (hk1.cell (p := ⟨w.heap.size, 1, none⟩) (by simp <;> omega)).trans (show _ = some (.int .i64 a1) from by simp [go_sem])
  have ac2 := (hk1.cell (p := ⟨w.heap.size, 2, none⟩) (by simp <;> omega)).trans (show _ = some (.int .i64 a2) from by simp [go_sem])
  have ac3 := (hk1.cell (p := ⟨w.heap.size, 3, none⟩) (by simp <;> omega)).trans (show _ = some (.int .i64 a3) from by simp [go_sem])
  have ac4 := (hk1.cell (p := ⟨w.heap.size, 4, none⟩) (by simp <;> omega)).trans (show _ = some (.int .i64 a4) from by simp [go_sem])
  have bc0 := (hk1.cell (p := ⟨w.heap.size + 1, 0, none⟩) (by simp <;> omega)).trans (show _ = some (.string b0) from by simp [go_sem])
  have bc1 := (hk1.cell (p := ⟨w.heap.size + 1, 1, none⟩) (by simp <;> omega)).trans (show _ = some (.int .i64 b1) from by simp [go_sem])
  have bc2 := (hk1.cell (p := ⟨w.heap.size + 1, 2, none⟩) (by simp <;> omega)).trans (show _ = some (.int .i64 b2) from by simp [go_sem])
  have bc3 := (hk1.cell (p := ⟨w.heap.size + 1, 3, none⟩) (by simp <;> omega)).trans (show _ = some (.int .i64 b3) from by simp [go_sem])
  have bc4 := (hk1.cell (p := ⟨w.heap.size + 1, 4, none⟩) (by simp <;> omega)).trans (show _ = some (.int .i64 b4) from by simp [go_sem])
  have hz1 : w.heap.size + 1 < w1.heap.size := by have := hk1.size; simp at this; omega
  have HB1 := hide (HB0.out.trans (hk1.mono (by simp <;> omega)))
  clear hk1
  go_wp2_with fail
  refine (impl_isClay b0 b1 b2 b3 b4 _ hb).mono ?_
  rintro e w2 ⟨rfl, hk2⟩
  rw [h2]
  replace ac0 := (hk2.cell (p := ⟨w.heap.size, 0, none⟩) (show w.heap.size < w1.heap.size from by omega)).trans ac0
  replace ac1 := (hk2.cell (p := ⟨w.heap.size, 1, none⟩) (show w.heap.size < w1.heap.size from by omega)).trans ac1
  replace ac2 := (hk2.cell (p := ⟨w.heap.size, 2, none⟩) (show w.heap.size < w1.heap.size from by omega)).trans ac2
  replace ac3 := (hk2.cell (p := ⟨w.heap.size, 3, none⟩) (show w.heap.size < w1.heap.size from by omega)).trans ac3
  replace ac4 := (hk2.cell (p := ⟨w.heap.size, 4, none⟩) (show w.heap.size < w1.heap.size from by omega)).trans ac4
  replace bc0 := (hk2.cell (p := ⟨w.heap.size + 1, 0, none⟩) (show w.heap.size + 1 < w1.heap.size from by omega)).trans bc0
  replace bc1 := (hk2.cell (p := ⟨w.heap.size + 1, 1, none⟩) (show w.heap.size + 1 < w1.heap.size from by omega)).trans bc1
  replace bc2 := (hk2.cell (p := ⟨w.heap.size + 1, 2, none⟩) (show w.heap.size + 1 < w1.heap.size from by omega)).trans bc2
  replace bc3 := (hk2.cell (p := ⟨w.heap.size + 1, 3, none⟩) (show w.heap.size + 1 < w1.heap.size from by omega)).trans bc3
  replace bc4 := (hk2.cell (p := ⟨w.heap.size + 1, 4, none⟩) (show w.heap.size + 1 < w1.heap.size from by omega)).trans bc4
  have hz2 : w.heap.size + 1 < w2.heap.size := by have := hk2.size; omega
  have HB2 := hide (HB1.out.trans (hk2.mono HB1.out.size))
  clear hk2
  go_wp2_with fail
  refine (impl_in_no _ _ _ _ h3).mono ?_
  rintro e v1 ⟨rfl, rfl⟩
  go_wp2
  refine bodyPost_ret (v := .tuple #[.int .i64 0, .int .i64 0, .int .i64 2]) ?_ rfl ⟨rfl, ?_⟩
  · simp [results, Try.results15, go_sem]
  · exact HB2.out
set_option maxRecDepth 100000 in
set_option maxHeartbeats 2000000 in
theorem impl_two_s (a0 b0 : ByteArray) (a1 a2 a3 a4 b1 b2 b3 b4 s : Int) (w : World) (ha : a0.size ≤ maxLen) (hb : b0.size ≤ maxLen) (h1 : Clay.ok ⟨a0, a1, a2, a3, a4⟩ = true) (h2 : Clay.ok ⟨b0, b1, b2, b3, b4⟩ = true) (h3 : 0 ≤ s ∧ s ≤ 200) (h4 : a1 = b1) :
    Calls Try.prog 15 #[.agg #[.string a0, .int .i64 a1, .int .i64 a2, .int .i64 a3, .int .i64 a4], .agg #[.string b0, .int .i64 b1, .int .i64 b2, .int .i64 b3, .int .i64 b4], .int .i64 s] w fun e w' => e = .returned (.tuple #[.int .i64 0, .int .i64 0, .int .i64 6]) ∧ Below w.heap.size w w' := by
  have d4 : (a1 == b1) = true := by simp [h4]
  clear h4
  go_enter Try.func15, Try.ntmps15
  have HB0 := hide (((Below.refl w.heap.size w).alloc (Nat.le_refl _) (.cells #[.string a0, .int .i64 a1, .int .i64 a2, .int .i64 a3, .int .i64 a4] 39)).alloc (by simp) (.cells #[.string b0, .int .i64 b1, .int .i64 b2, .int .i64 b3, .int .i64 b4] 39))
  go_wp2_with fail
  refine (impl_isClay a0 a1 a2 a3 a4 _ ha).mono ?_
  rintro e w1 ⟨rfl, hk1⟩
  rw [h1]
  have ac0 := (hk1.cell (p := ⟨w.heap.size, 0, none⟩) (by simp <;> omega)).trans (show _ = some (.string a0) from by simp [go_sem])
  have ac1 := (hk1.cell (p := ⟨w.heap.size, 1, none⟩) (by simp <;> omega)).trans (show _ = some (.int .i64 a1) from by simp [go_sem])
  have ac2 := (hk1.cell (p := ⟨w.heap.size, 2, none⟩) (by simp <;> omega)).trans (show _ = some (.int .i64 a2) from by simp [go_sem])
  have ac3 := (hk1.cell (p := ⟨w.heap.size, 3, none⟩) (by simp <;> omega)).trans (show _ = some (.int .i64 a3) from by simp [go_sem])
  have ac4 := (hk1.cell (p := ⟨w.heap.size, 4, none⟩) (by simp <;> omega)).trans (show _ = some (.int .i64 a4) from by simp [go_sem])
  have bc0 := (hk1.cell (p := ⟨w.heap.size + 1, 0, none⟩) (by simp <;> omega)).trans (show _ = some (.string b0) from by simp [go_sem])
  have bc1 := (hk1.cell (p := ⟨w.heap.size + 1, 1, none⟩) (by simp <;> omega)).trans (show _ = some (.int .i64 b1) from by simp [go_sem])
  have bc2 := (hk1.cell (p := ⟨w.heap.size + 1, 2, none⟩) (by simp <;> omega)).trans (show _ = some (.int .i64 b2) from by simp [go_sem])
  have bc3 := (hk1.cell (p := ⟨w.heap.size + 1, 3, none⟩) (by simp <;> omega)).trans (show _ = some (.int .i64 b3) from by simp [go_sem])
  have bc4 := (hk1.cell (p := ⟨w.heap.size + 1, 4, none⟩) (by simp <;> omega)).trans (show _ = some (.int .i64 b4) from by simp [go_sem])
  have hz1 : w.heap.size + 1 < w1.heap.size := by have := hk1.size; simp at this; omega
  have HB1 := hide (HB0.out.trans (hk1.mono (by simp <;> omega)))
  clear hk1
  go_wp2_with fail
  refine (impl_isClay b0 b1 b2 b3 b4 _ hb).mono ?_
  rintro e w2 ⟨rfl, hk2⟩
  rw [h2]
  replace ac0 := (hk2.cell (p := ⟨w.heap.size, 0, none⟩) (show w.heap.size < w1.heap.size from by omega)).trans ac0
  replace ac1 := (hk2.cell (p := ⟨w.heap.size, 1, none⟩) (show w.heap.size < w1.heap.size from by omega)).trans ac1
  replace ac2 := (hk2.cell (p := ⟨w.heap.size, 2, none⟩) (show w.heap.size < w1.heap.size from by omega)).trans ac2
  replace ac3 := (hk2.cell (p := ⟨w.heap.size, 3, none⟩) (show w.heap.size < w1.heap.size from by omega)).trans ac3
  replace ac4 := (hk2.cell (p := ⟨w.heap.size, 4, none⟩) (show w.heap.size < w1.heap.size from by omega)).trans ac4
  replace bc0 := (hk2.cell (p := ⟨w.heap.size + 1, 0, none⟩) (show w.heap.size + 1 < w1.heap.size from by omega)).trans bc0
  replace bc1 := (hk2.cell (p := ⟨w.heap.size + 1, 1, none⟩) (show w.heap.size + 1 < w1.heap.size from by omega)).trans bc1
  replace bc2 := (hk2.cell (p := ⟨w.heap.size + 1, 2, none⟩) (show w.heap.size + 1 < w1.heap.size from by omega)).trans bc2
  replace bc3 := (hk2.cell (p := ⟨w.heap.size + 1, 3, none⟩) (show w.heap.size + 1 < w1.heap.size from by omega)).trans bc3
  replace bc4 := (hk2.cell (p := ⟨w.heap.size + 1, 4, none⟩) (show w.heap.size + 1 < w1.heap.size from by omega)).trans bc4
  have hz2 : w.heap.size + 1 < w2.heap.size := by have := hk2.size; omega
  have HB2 := hide (HB1.out.trans (hk2.mono HB1.out.size))
  clear hk2
  go_wp2_with fail
  refine (impl_in_yes _ _ _ _ h3.1 h3.2).mono ?_
  rintro e v1 ⟨rfl, rfl⟩
  go_wp2
  refine bodyPost_ret (v := .tuple #[.int .i64 0, .int .i64 0, .int .i64 6]) ?_ rfl ⟨rfl, ?_⟩
  · simp [results, Try.results15, go_sem]
  · exact HB2.out
set_option maxRecDepth 100000 in
set_option maxHeartbeats 2000000 in
theorem impl_two_nlo (a0 b0 : ByteArray) (a1 a2 a3 a4 b1 b2 b3 b4 s : Int) (w : World) (ha : a0.size ≤ maxLen) (hb : b0.size ≤ maxLen) (h1 : Clay.ok ⟨a0, a1, a2, a3, a4⟩ = true) (h2 : Clay.ok ⟨b0, b1, b2, b3, b4⟩ = true) (h3 : 0 ≤ s ∧ s ≤ 200) (hlt : a1 < b1) (h5 : ¬ (a1 ≤ s ∧ s ≤ b1)) :
    Calls Try.prog 15 #[.agg #[.string a0, .int .i64 a1, .int .i64 a2, .int .i64 a3, .int .i64 a4], .agg #[.string b0, .int .i64 b1, .int .i64 b2, .int .i64 b3, .int .i64 b4], .int .i64 s] w fun e w' => e = .returned (.tuple #[.int .i64 0, .int .i64 0, .int .i64 3]) ∧ Below w.heap.size w w' := by
  have d4 : (a1 == b1) = false := by simp; omega
  go_enter Try.func15, Try.ntmps15
  have HB0 := hide (((Below.refl w.heap.size w).alloc (Nat.le_refl _) (.cells #[.string a0, .int .i64 a1, .int .i64 a2, .int .i64 a3, .int .i64 a4] 39)).alloc (by simp) (.cells #[.string b0, .int .i64 b1, .int .i64 b2, .int .i64 b3, .int .i64 b4] 39))
  go_wp2_with fail
  refine (impl_isClay a0 a1 a2 a3 a4 _ ha).mono ?_
  rintro e w1 ⟨rfl, hk1⟩
  rw [h1]
  have ac0 := (hk1.cell (p := ⟨w.heap.size, 0, none⟩) (by simp <;> omega)).trans (show _ = some (.string a0) from by simp [go_sem])
  have ac1 := (hk1.cell (p := ⟨w.heap.size, 1, none⟩) (by simp <;> omega)).trans (show _ = some (.int .i64 a1) from by simp [go_sem])
  have ac2 := (hk1.cell (p := ⟨w.heap.size, 2, none⟩) (by simp <;> omega)).trans (show _ = some (.int .i64 a2) from by simp [go_sem])
  have ac3 := (hk1.cell (p := ⟨w.heap.size, 3, none⟩) (by simp <;> omega)).trans (show _ = some (.int .i64 a3) from by simp [go_sem])
  have ac4 := (hk1.cell (p := ⟨w.heap.size, 4, none⟩) (by simp <;> omega)).trans (show _ = some (.int .i64 a4) from by simp [go_sem])
  have bc0 := (hk1.cell (p := ⟨w.heap.size + 1, 0, none⟩) (by simp <;> omega)).trans (show _ = some (.string b0) from by simp [go_sem])
  have bc1 := (hk1.cell (p := ⟨w.heap.size + 1, 1, none⟩) (by simp <;> omega)).trans (show _ = some (.int .i64 b1) from by simp [go_sem])
  have bc2 := (hk1.cell (p := ⟨w.heap.size + 1, 2, none⟩) (by simp <;> omega)).trans (show _ = some (.int .i64 b2) from by simp [go_sem])
  have bc3 := (hk1.cell (p := ⟨w.heap.size + 1, 3, none⟩) (by simp <;> omega)).trans (show _ = some (.int .i64 b3) from by simp [go_sem])
  have bc4 := (hk1.cell (p := ⟨w.heap.size + 1, 4, none⟩) (by simp <;> omega)).trans (show _ = some (.int .i64 b4) from by simp [go_sem])
  have hz1 : w.heap.size + 1 < w1.heap.size := by have := hk1.size; simp at this; omega
  have HB1 := hide (HB0.out.trans (hk1.mono (by simp <;> omega)))
  clear hk1
  go_wp2_with fail
  refine (impl_isClay b0 b1 b2 b3 b4 _ hb).mono ?_
  rintro e w2 ⟨rfl, hk2⟩
  rw [h2]
  replace ac0 := (hk2.cell (p := ⟨w.heap.size, 0, none⟩) (show w.heap.size < w1.heap.size from by omega)).trans ac0
  replace ac1 := (hk2.cell (p := ⟨w.heap.size, 1, none⟩) (show w.heap.size < w1.heap.size from by omega)).trans ac1
  replace ac2 := (hk2.cell (p := ⟨w.heap.size, 2, none⟩) (show w.heap.size < w1.heap.size from by omega)).trans ac2
  replace ac3 := (hk2.cell (p := ⟨w.heap.size, 3, none⟩) (show w.heap.size < w1.heap.size from by omega)).trans ac3
  replace ac4 := (hk2.cell (p := ⟨w.heap.size, 4, none⟩) (show w.heap.size < w1.heap.size from by omega)).trans ac4
  replace bc0 := (hk2.cell (p := ⟨w.heap.size + 1, 0, none⟩) (show w.heap.size + 1 < w1.heap.size from by omega)).trans bc0
  replace bc1 := (hk2.cell (p := ⟨w.heap.size + 1, 1, none⟩) (show w.heap.size + 1 < w1.heap.size from by omega)).trans bc1
  replace bc2 := (hk2.cell (p := ⟨w.heap.size + 1, 2, none⟩) (show w.heap.size + 1 < w1.heap.size from by omega)).trans bc2
  replace bc3 := (hk2.cell (p := ⟨w.heap.size + 1, 3, none⟩) (show w.heap.size + 1 < w1.heap.size from by omega)).trans bc3
  replace bc4 := (hk2.cell (p := ⟨w.heap.size + 1, 4, none⟩) (show w.heap.size + 1 < w1.heap.size from by omega)).trans bc4
  have hz2 : w.heap.size + 1 < w2.heap.size := by have := hk2.size; omega
  have HB2 := hide (HB1.out.trans (hk2.mono HB1.out.size))
  clear hk2
  go_wp2_with fail
  refine (impl_in_yes _ _ _ _ h3.1 h3.2).mono ?_
  rintro e v1 ⟨rfl, rfl⟩
  go_wp2_with fail
  refine (impl_in_no _ _ _ _ h5).mono ?_
  rintro e v2 ⟨rfl, rfl⟩
  go_wp2
  refine bodyPost_ret (v := .tuple #[.int .i64 0, .int .i64 0, .int .i64 3]) ?_ rfl ⟨rfl, ?_⟩
  · simp [results, Try.results15, go_sem]
  · exact HB2.out
set_option maxRecDepth 100000 in
set_option maxHeartbeats 2000000 in
theorem impl_two_ylo (a0 b0 : ByteArray) (a1 a2 a3 a4 b1 b2 b3 b4 s : Int) (w : World) (ha : a0.size ≤ maxLen) (hb : b0.size ≤ maxLen) (h1 : Clay.ok ⟨a0, a1, a2, a3, a4⟩ = true) (h2 : Clay.ok ⟨b0, b1, b2, b3, b4⟩ = true) (h3 : 0 ≤ s ∧ s ≤ 200) (hlt : a1 < b1) (h5 : a1 ≤ s ∧ s ≤ b1) (hs : a1 < s ∧ s < b1) (ka : 0 ≤ a1 ∧ a1 ≤ 200) (kb : 0 ≤ b1 ∧ b1 ≤ 200) :
    Calls Try.prog 15 #[.agg #[.string a0, .int .i64 a1, .int .i64 a2, .int .i64 a3, .int .i64 a4], .agg #[.string b0, .int .i64 b1, .int .i64 b2, .int .i64 b3, .int .i64 b4], .int .i64 s] w fun e w' => e = .returned (.tuple #[.int .i64 ((b1 - s) / (Int.gcd (b1 - s) (s - a1) : Int)), .int .i64 ((s - a1) / (Int.gcd (b1 - s) (s - a1) : Int)), .int .i64 0]) ∧ Below w.heap.size w w' := by
  have d4 : (a1 == b1) = false := by simp; omega
  have hgn : Int.gcd (b1 - s) (s - a1) ≠ 0 := fun q => by rw [Int.gcd_eq_zero_iff] at q; omega
  have hg1 : 0 < (Int.gcd (b1 - s) (s - a1) : Int) := by omega
  have hq1 := div_le (b1 - s) _ (by omega) hg1
  have hq2 := div_le (s - a1) _ (by omega) hg1
  have eg : ((Int.gcd (b1 - s) (s - a1) : Int) == 0) = false := by simp; omega
  have hgl : (Int.gcd (b1 - s) (s - a1) : Int) ≤ 200 := by
    rcases Int.lt_or_le 0 (s - a1) with q | q
    · have := gcd_le (b1 - s) (s - a1) q
      omega
    · have e : (s - a1) = 0 := by omega
      rw [e, Int.gcd_zero_right]
      omega
  obtain ⟨G, hG⟩ : ∃ G, (Int.gcd (b1 - s) (s - a1) : Int) = G := ⟨_, rfl⟩
  rw [hG] at hg1 hq1 hq2 eg hgl ⊢
  have HG := hide hG
  clear hgn hG
  go_enter Try.func15, Try.ntmps15
  have HB0 := hide (((Below.refl w.heap.size w).alloc (Nat.le_refl _) (.cells #[.string a0, .int .i64 a1, .int .i64 a2, .int .i64 a3, .int .i64 a4] 39)).alloc (by simp) (.cells #[.string b0, .int .i64 b1, .int .i64 b2, .int .i64 b3, .int .i64 b4] 39))
  go_wp2_with fail
  refine (impl_isClay a0 a1 a2 a3 a4 _ ha).mono ?_
  rintro e w1 ⟨rfl, hk1⟩
  rw [h1]
  have ac0 := (hk1.cell (p := ⟨w.heap.size, 0, none⟩) (by simp <;> omega)).trans (show _ = some (.string a0) from by simp [go_sem])
  have ac1 := (hk1.cell (p := ⟨w.heap.size, 1, none⟩) (by simp <;> omega)).trans (show _ = some (.int .i64 a1) from by simp [go_sem])
  have ac2 := (hk1.cell (p := ⟨w.heap.size, 2, none⟩) (by simp <;> omega)).trans (show _ = some (.int .i64 a2) from by simp [go_sem])
  have ac3 := (hk1.cell (p := ⟨w.heap.size, 3, none⟩) (by simp <;> omega)).trans (show _ = some (.int .i64 a3) from by simp [go_sem])
  have ac4 := (hk1.cell (p := ⟨w.heap.size, 4, none⟩) (by simp <;> omega)).trans (show _ = some (.int .i64 a4) from by simp [go_sem])
  have bc0 := (hk1.cell (p := ⟨w.heap.size + 1, 0, none⟩) (by simp <;> omega)).trans (show _ = some (.string b0) from by simp [go_sem])
  have bc1 := (hk1.cell (p := ⟨w.heap.size + 1, 1, none⟩) (by simp <;> omega)).trans (show _ = some (.int .i64 b1) from by simp [go_sem])
  have bc2 := (hk1.cell (p := ⟨w.heap.size + 1, 2, none⟩) (by simp <;> omega)).trans (show _ = some (.int .i64 b2) from by simp [go_sem])
  have bc3 := (hk1.cell (p := ⟨w.heap.size + 1, 3, none⟩) (by simp <;> omega)).trans (show _ = some (.int .i64 b3) from by simp [go_sem])
  have bc4 := (hk1.cell (p := ⟨w.heap.size + 1, 4, none⟩) (by simp <;> omega)).trans (show _ = some (.int .i64 b4) from by simp [go_sem])
  have hz1 : w.heap.size + 1 < w1.heap.size := by have := hk1.size; simp at this; omega
  have HB1 := hide (HB0.out.trans (hk1.mono (by simp <;> omega)))
  clear hk1
  go_wp2_with fail
  refine (impl_isClay b0 b1 b2 b3 b4 _ hb).mono ?_
  rintro e w2 ⟨rfl, hk2⟩
  rw [h2]
  replace ac0 := (hk2.cell (p := ⟨w.heap.size, 0, none⟩) (show w.heap.size < w1.heap.size from by omega)).trans ac0
  replace ac1 := (hk2.cell (p := ⟨w.heap.size, 1, none⟩) (show w.heap.size < w1.heap.size from by omega)).trans ac1
  replace ac2 := (hk2.cell (p := ⟨w.heap.size, 2, none⟩) (show w.heap.size < w1.heap.size from by omega)).trans ac2
  replace ac3 := (hk2.cell (p := ⟨w.heap.size, 3, none⟩) (show w.heap.size < w1.heap.size from by omega)).trans ac3
  replace ac4 := (hk2.cell (p := ⟨w.heap.size, 4, none⟩) (show w.heap.size < w1.heap.size from by omega)).trans ac4
  replace bc0 := (hk2.cell (p := ⟨w.heap.size + 1, 0, none⟩) (show w.heap.size + 1 < w1.heap.size from by omega)).trans bc0
  replace bc1 := (hk2.cell (p := ⟨w.heap.size + 1, 1, none⟩) (show w.heap.size + 1 < w1.heap.size from by omega)).trans bc1
  replace bc2 := (hk2.cell (p := ⟨w.heap.size + 1, 2, none⟩) (show w.heap.size + 1 < w1.heap.size from by omega)).trans bc2
  replace bc3 := (hk2.cell (p := ⟨w.heap.size + 1, 3, none⟩) (show w.heap.size + 1 < w1.heap.size from by omega)).trans bc3
  replace bc4 := (hk2.cell (p := ⟨w.heap.size + 1, 4, none⟩) (show w.heap.size + 1 < w1.heap.size from by omega)).trans bc4
  have hz2 : w.heap.size + 1 < w2.heap.size := by have := hk2.size; omega
  have HB2 := hide (HB1.out.trans (hk2.mono HB1.out.size))
  clear hk2
  go_wp2_with fail
  refine (impl_in_yes _ _ _ _ h3.1 h3.2).mono ?_
  rintro e v1 ⟨rfl, rfl⟩
  go_wp2_with fail
  refine (impl_in_yes _ _ _ _ h5.1 h5.2).mono ?_
  rintro e v2 ⟨rfl, rfl⟩
  go_wp2
  go_quiet (fail)
  go_wp2_with fail
  refine (impl_gcd (b1 - s) (s - a1) _ (by omega) (by omega) (by omega) (by omega)).mono ?_
  rintro e v3 ⟨rfl, q, rfl⟩
  rw [HG.out]
  go_wp2
  go_region
  go_wp2
  refine bodyPost_ret (v := .tuple #[.int .i64 ((b1 - s) / G), .int .i64 ((s - a1) / G), .int .i64 0]) ?_ rfl ⟨rfl, ?_⟩
  · simp [results, Try.results15, go_sem]
  · exact (below_drewN HB2.out (nq + q)).drew
set_option maxRecDepth 100000 in
set_option maxHeartbeats 2000000 in
theorem impl_two_ealo (a0 b0 : ByteArray) (a1 a2 a3 a4 b1 b2 b3 b4 s : Int) (w : World) (ha : a0.size ≤ maxLen) (hb : b0.size ≤ maxLen) (h1 : Clay.ok ⟨a0, a1, a2, a3, a4⟩ = true) (h2 : Clay.ok ⟨b0, b1, b2, b3, b4⟩ = true) (hlt : a1 < b1) (ka : 0 ≤ a1 ∧ a1 ≤ 200) (kb : 0 ≤ b1 ∧ b1 ≤ 200) :
    Calls Try.prog 15 #[.agg #[.string a0, .int .i64 a1, .int .i64 a2, .int .i64 a3, .int .i64 a4], .agg #[.string b0, .int .i64 b1, .int .i64 b2, .int .i64 b3, .int .i64 b4], .int .i64 a1] w fun e w' => e = .returned (.tuple #[.int .i64 1, .int .i64 0, .int .i64 0]) ∧ Below w.heap.size w w' := by
  have d4 : (a1 == b1) = false := by simp; omega
  have hgn : (Int.gcd (b1 - a1) 0 : Int) = (b1 - a1) := by
    rw [Int.gcd_zero_right]
    omega
  have e1 : (b1 - a1) / (b1 - a1) = 1 := Int.ediv_self (by omega)
  have e2 : (0 : Int) / (b1 - a1) = 0 := Int.zero_ediv _
  have eg : ((b1 - a1) == 0) = false := by simp; omega
  have HG := hide hgn
  clear hgn
  go_enter Try.func15, Try.ntmps15
  have HB0 := hide (((Below.refl w.heap.size w).alloc (Nat.le_refl _) (.cells #[.string a0, .int .i64 a1, .int .i64 a2, .int .i64 a3, .int .i64 a4] 39)).alloc (by simp) (.cells #[.string b0, .int .i64 b1, .int .i64 b2, .int .i64 b3, .int .i64 b4] 39))
  go_wp2_with fail
  refine (impl_isClay a0 a1 a2 a3 a4 _ ha).mono ?_
  rintro e w1 ⟨rfl, hk1⟩
  rw [h1]
  have ac0 := (hk1.cell (p := ⟨w.heap.size, 0, none⟩) (by simp <;> omega)).trans (show _ = some (.string a0) from by simp [go_sem])
  have ac1 := (hk1.cell (p := ⟨w.heap.size, 1, none⟩) (by simp <;> omega)).trans (show _ = some (.int .i64 a1) from by simp [go_sem])
  have ac2 := (hk1.cell (p := ⟨w.heap.size, 2, none⟩) (by simp <;> omega)).trans (show _ = some (.int .i64 a2) from by simp [go_sem])
  have ac3 := (hk1.cell (p := ⟨w.heap.size, 3, none⟩) (by simp <;> omega)).trans (show _ = some (.int .i64 a3) from by simp [go_sem])
  have ac4 := (hk1.cell (p := ⟨w.heap.size, 4, none⟩) (by simp <;> omega)).trans (show _ = some (.int .i64 a4) from by simp [go_sem])
  have bc0 := (hk1.cell (p := ⟨w.heap.size + 1, 0, none⟩) (by simp <;> omega)).trans (show _ = some (.string b0) from by simp [go_sem])
  have bc1 := (hk1.cell (p := ⟨w.heap.size + 1, 1, none⟩) (by simp <;> omega)).trans (show _ = some (.int .i64 b1) from by simp [go_sem])
  have bc2 := (hk1.cell (p := ⟨w.heap.size + 1, 2, none⟩) (by simp <;> omega)).trans (show _ = some (.int .i64 b2) from by simp [go_sem])
  have bc3 := (hk1.cell (p := ⟨w.heap.size + 1, 3, none⟩) (by simp <;> omega)).trans (show _ = some (.int .i64 b3) from by simp [go_sem])
  have bc4 := (hk1.cell (p := ⟨w.heap.size + 1, 4, none⟩) (by simp <;> omega)).trans (show _ = some (.int .i64 b4) from by simp [go_sem])
  have hz1 : w.heap.size + 1 < w1.heap.size := by have := hk1.size; simp at this; omega
  have HB1 := hide (HB0.out.trans (hk1.mono (by simp <;> omega)))
  clear hk1
  go_wp2_with fail
  refine (impl_isClay b0 b1 b2 b3 b4 _ hb).mono ?_
  rintro e w2 ⟨rfl, hk2⟩
  rw [h2]
  replace ac0 := (hk2.cell (p := ⟨w.heap.size, 0, none⟩) (show w.heap.size < w1.heap.size from by omega)).trans ac0
  replace ac1 := (hk2.cell (p := ⟨w.heap.size, 1, none⟩) (show w.heap.size < w1.heap.size from by omega)).trans ac1
  replace ac2 := (hk2.cell (p := ⟨w.heap.size, 2, none⟩) (show w.heap.size < w1.heap.size from by omega)).trans ac2
  replace ac3 := (hk2.cell (p := ⟨w.heap.size, 3, none⟩) (show w.heap.size < w1.heap.size from by omega)).trans ac3
  replace ac4 := (hk2.cell (p := ⟨w.heap.size, 4, none⟩) (show w.heap.size < w1.heap.size from by omega)).trans ac4
  replace bc0 := (hk2.cell (p := ⟨w.heap.size + 1, 0, none⟩) (show w.heap.size + 1 < w1.heap.size from by omega)).trans bc0
  replace bc1 := (hk2.cell (p := ⟨w.heap.size + 1, 1, none⟩) (show w.heap.size + 1 < w1.heap.size from by omega)).trans bc1
  replace bc2 := (hk2.cell (p := ⟨w.heap.size + 1, 2, none⟩) (show w.heap.size + 1 < w1.heap.size from by omega)).trans bc2
  replace bc3 := (hk2.cell (p := ⟨w.heap.size + 1, 3, none⟩) (show w.heap.size + 1 < w1.heap.size from by omega)).trans bc3
  replace bc4 := (hk2.cell (p := ⟨w.heap.size + 1, 4, none⟩) (show w.heap.size + 1 < w1.heap.size from by omega)).trans bc4
  have hz2 : w.heap.size + 1 < w2.heap.size := by have := hk2.size; omega
  have HB2 := hide (HB1.out.trans (hk2.mono HB1.out.size))
  clear hk2
  go_wp2_with fail
  refine (impl_in_yes _ _ _ _ ka.1 ka.2).mono ?_
  rintro e v1 ⟨rfl, rfl⟩
  go_wp2_with fail
  refine (impl_in_yes _ _ _ _ (by omega) (by omega)).mono ?_
  rintro e v2 ⟨rfl, rfl⟩
  go_wp2
  go_quiet (fail)
  go_wp2_with fail
  refine (impl_gcd (b1 - a1) 0 _ (by omega) (by omega) (by omega) (by omega)).mono ?_
  rintro e v3 ⟨rfl, q, rfl⟩
  rw [HG.out]
  generalize hD : (b1 - a1) = D at *
  go_wp2
  go_region
  go_wp2
  refine bodyPost_ret (v := .tuple #[.int .i64 1, .int .i64 0, .int .i64 0]) ?_ rfl ⟨rfl, ?_⟩
  · simp [results, Try.results15, go_sem, e1]
  · exact (below_drewN HB2.out (nq + q)).drew
set_option maxRecDepth 100000 in
set_option maxHeartbeats 2000000 in
theorem impl_two_eblo (a0 b0 : ByteArray) (a1 a2 a3 a4 b1 b2 b3 b4 s : Int) (w : World) (ha : a0.size ≤ maxLen) (hb : b0.size ≤ maxLen) (h1 : Clay.ok ⟨a0, a1, a2, a3, a4⟩ = true) (h2 : Clay.ok ⟨b0, b1, b2, b3, b4⟩ = true) (hlt : a1 < b1) (ka : 0 ≤ a1 ∧ a1 ≤ 200) (kb : 0 ≤ b1 ∧ b1 ≤ 200) :
    Calls Try.prog 15 #[.agg #[.string a0, .int .i64 a1, .int .i64 a2, .int .i64 a3, .int .i64 a4], .agg #[.string b0, .int .i64 b1, .int .i64 b2, .int .i64 b3, .int .i64 b4], .int .i64 b1] w fun e w' => e = .returned (.tuple #[.int .i64 0, .int .i64 1, .int .i64 0]) ∧ Below w.heap.size w w' := by
  have d4 : (a1 == b1) = false := by simp; omega
  have hgn : (Int.gcd 0 (b1 - a1) : Int) = (b1 - a1) := by
    rw [Int.gcd_zero_left]
    omega
  have e1 : (b1 - a1) / (b1 - a1) = 1 := Int.ediv_self (by omega)
  have e2 : (0 : Int) / (b1 - a1) = 0 := Int.zero_ediv _
  have eg : ((b1 - a1) == 0) = false := by simp; omega
  have HG := hide hgn
  clear hgn
  go_enter Try.func15, Try.ntmps15
  have HB0 := hide (((Below.refl w.heap.size w).alloc (Nat.le_refl _) (.cells #[.string a0, .int .i64 a1, .int .i64 a2, .int .i64 a3, .int .i64 a4] 39)).alloc (by simp) (.cells #[.string b0, .int .i64 b1, .int .i64 b2, .int .i64 b3, .int .i64 b4] 39))
  go_wp2_with fail
  refine (impl_isClay a0 a1 a2 a3 a4 _ ha).mono ?_
  rintro e w1 ⟨rfl, hk1⟩
  rw [h1]
  have ac0 := (hk1.cell (p := ⟨w.heap.size, 0, none⟩) (by simp <;> omega)).trans (show _ = some (.string a0) from by simp [go_sem])
  have ac1 := (hk1.cell (p := ⟨w.heap.size, 1, none⟩) (by simp <;> omega)).trans (show _ = some (.int .i64 a1) from by simp [go_sem])
  have ac2 := (hk1.cell (p := ⟨w.heap.size, 2, none⟩) (by simp <;> omega)).trans (show _ = some (.int .i64 a2) from by simp [go_sem])
  have ac3 := (hk1.cell (p := ⟨w.heap.size, 3, none⟩) (by simp <;> omega)).trans (show _ = some (.int .i64 a3) from by simp [go_sem])
  have ac4 := (hk1.cell (p := ⟨w.heap.size, 4, none⟩) (by simp <;> omega)).trans (show _ = some (.int .i64 a4) from by simp [go_sem])
  have bc0 := (hk1.cell (p := ⟨w.heap.size + 1, 0, none⟩) (by simp <;> omega)).trans (show _ = some (.string b0) from by simp [go_sem])
  have bc1 := (hk1.cell (p := ⟨w.heap.size + 1, 1, none⟩) (by simp <;> omega)).trans (show _ = some (.int .i64 b1) from by simp [go_sem])
  have bc2 := (hk1.cell (p := ⟨w.heap.size + 1, 2, none⟩) (by simp <;> omega)).trans (show _ = some (.int .i64 b2) from by simp [go_sem])
  have bc3 := (hk1.cell (p := ⟨w.heap.size + 1, 3, none⟩) (by simp <;> omega)).trans (show _ = some (.int .i64 b3) from by simp [go_sem])
  have bc4 := (hk1.cell (p := ⟨w.heap.size + 1, 4, none⟩) (by simp <;> omega)).trans (show _ = some (.int .i64 b4) from by simp [go_sem])
  have hz1 : w.heap.size + 1 < w1.heap.size := by have := hk1.size; simp at this; omega
  have HB1 := hide (HB0.out.trans (hk1.mono (by simp <;> omega)))
  clear hk1
  go_wp2_with fail
  refine (impl_isClay b0 b1 b2 b3 b4 _ hb).mono ?_
  rintro e w2 ⟨rfl, hk2⟩
  rw [h2]
  replace ac0 := (hk2.cell (p := ⟨w.heap.size, 0, none⟩) (show w.heap.size < w1.heap.size from by omega)).trans ac0
  replace ac1 := (hk2.cell (p := ⟨w.heap.size, 1, none⟩) (show w.heap.size < w1.heap.size from by omega)).trans ac1
  replace ac2 := (hk2.cell (p := ⟨w.heap.size, 2, none⟩) (show w.heap.size < w1.heap.size from by omega)).trans ac2
  replace ac3 := (hk2.cell (p := ⟨w.heap.size, 3, none⟩) (show w.heap.size < w1.heap.size from by omega)).trans ac3
  replace ac4 := (hk2.cell (p := ⟨w.heap.size, 4, none⟩) (show w.heap.size < w1.heap.size from by omega)).trans ac4
  replace bc0 := (hk2.cell (p := ⟨w.heap.size + 1, 0, none⟩) (show w.heap.size + 1 < w1.heap.size from by omega)).trans bc0
  replace bc1 := (hk2.cell (p := ⟨w.heap.size + 1, 1, none⟩) (show w.heap.size + 1 < w1.heap.size from by omega)).trans bc1
  replace bc2 := (hk2.cell (p := ⟨w.heap.size + 1, 2, none⟩) (show w.heap.size + 1 < w1.heap.size from by omega)).trans bc2
  replace bc3 := (hk2.cell (p := ⟨w.heap.size + 1, 3, none⟩) (show w.heap.size + 1 < w1.heap.size from by omega)).trans bc3
  replace bc4 := (hk2.cell (p := ⟨w.heap.size + 1, 4, none⟩) (show w.heap.size + 1 < w1.heap.size from by omega)).trans bc4
  have hz2 : w.heap.size + 1 < w2.heap.size := by have := hk2.size; omega
  have HB2 := hide (HB1.out.trans (hk2.mono HB1.out.size))
  clear hk2
  go_wp2_with fail
  refine (impl_in_yes _ _ _ _ kb.1 kb.2).mono ?_
  rintro e v1 ⟨rfl, rfl⟩
  go_wp2_with fail
  refine (impl_in_yes _ _ _ _ (by omega) (by omega)).mono ?_
  rintro e v2 ⟨rfl, rfl⟩
  go_wp2
  go_quiet (fail)
  go_wp2_with fail
  refine (impl_gcd 0 (b1 - a1) _ (by omega) (by omega) (by omega) (by omega)).mono ?_
  rintro e v3 ⟨rfl, q, rfl⟩
  rw [HG.out]
  generalize hD : (b1 - a1) = D at *
  go_wp2
  go_region
  go_wp2
  refine bodyPost_ret (v := .tuple #[.int .i64 0, .int .i64 1, .int .i64 0]) ?_ rfl ⟨rfl, ?_⟩
  · simp [results, Try.results15, go_sem, e1]
  · exact (below_drewN HB2.out (nq + q)).drew
set_option maxRecDepth 100000 in
set_option maxHeartbeats 2000000 in
theorem impl_two_nhi (a0 b0 : ByteArray) (a1 a2 a3 a4 b1 b2 b3 b4 s : Int) (w : World) (ha : a0.size ≤ maxLen) (hb : b0.size ≤ maxLen) (h1 : Clay.ok ⟨a0, a1, a2, a3, a4⟩ = true) (h2 : Clay.ok ⟨b0, b1, b2, b3, b4⟩ = true) (h3 : 0 ≤ s ∧ s ≤ 200) (hlt : b1 < a1) (h5 : ¬ (b1 ≤ s ∧ s ≤ a1)) :
    Calls Try.prog 15 #[.agg #[.string a0, .int .i64 a1, .int .i64 a2, .int .i64 a3, .int .i64 a4], .agg #[.string b0, .int .i64 b1, .int .i64 b2, .int .i64 b3, .int .i64 b4], .int .i64 s] w fun e w' => e = .returned (.tuple #[.int .i64 0, .int .i64 0, .int .i64 3]) ∧ Below w.heap.size w w' := by
  have d4 : (a1 == b1) = false := by simp; omega
  go_enter Try.func15, Try.ntmps15
  have HB0 := hide (((Below.refl w.heap.size w).alloc (Nat.le_refl _) (.cells #[.string a0, .int .i64 a1, .int .i64 a2, .int .i64 a3, .int .i64 a4] 39)).alloc (by simp) (.cells #[.string b0, .int .i64 b1, .int .i64 b2, .int .i64 b3, .int .i64 b4] 39))
  go_wp2_with fail
  refine (impl_isClay a0 a1 a2 a3 a4 _ ha).mono ?_
  rintro e w1 ⟨rfl, hk1⟩
  rw [h1]
  have ac0 := (hk1.cell (p := ⟨w.heap.size, 0, none⟩) (by simp <;> omega)).trans (show _ = some (.string a0) from by simp [go_sem])
  have ac1 := (hk1.cell (p := ⟨w.heap.size, 1, none⟩) (by simp <;> omega)).trans (show _ = some (.int .i64 a1) from by simp [go_sem])
  have ac2 := (hk1.cell (p := ⟨w.heap.size, 2, none⟩) (by simp <;> omega)).trans (show _ = some (.int .i64 a2) from by simp [go_sem])
  have ac3 := (hk1.cell (p := ⟨w.heap.size, 3, none⟩) (by simp <;> omega)).trans (show _ = some (.int .i64 a3) from by simp [go_sem])
  have ac4 := (hk1.cell (p := ⟨w.heap.size, 4, none⟩) (by simp <;> omega)).trans (show _ = some (.int .i64 a4) from by simp [go_sem])
  have bc0 := (hk1.cell (p := ⟨w.heap.size + 1, 0, none⟩) (by simp <;> omega)).trans (show _ = some (.string b0) from by simp [go_sem])
  have bc1 := (hk1.cell (p := ⟨w.heap.size + 1, 1, none⟩) (by simp <;> omega)).trans (show _ = some (.int .i64 b1) from by simp [go_sem])
  have bc2 := (hk1.cell (p := ⟨w.heap.size + 1, 2, none⟩) (by simp <;> omega)).trans (show _ = some (.int .i64 b2) from by simp [go_sem])
  have bc3 := (hk1.cell (p := ⟨w.heap.size + 1, 3, none⟩) (by simp <;> omega)).trans (show _ = some (.int .i64 b3) from by simp [go_sem])
  have bc4 := (hk1.cell (p := ⟨w.heap.size + 1, 4, none⟩) (by simp <;> omega)).trans (show _ = some (.int .i64 b4) from by simp [go_sem])
  have hz1 : w.heap.size + 1 < w1.heap.size := by have := hk1.size; simp at this; omega
  have HB1 := hide (HB0.out.trans (hk1.mono (by simp <;> omega)))
  clear hk1
  go_wp2_with fail
  refine (impl_isClay b0 b1 b2 b3 b4 _ hb).mono ?_
  rintro e w2 ⟨rfl, hk2⟩
  rw [h2]
  replace ac0 := (hk2.cell (p := ⟨w.heap.size, 0, none⟩) (show w.heap.size < w1.heap.size from by omega)).trans ac0
  replace ac1 := (hk2.cell (p := ⟨w.heap.size, 1, none⟩) (show w.heap.size < w1.heap.size from by omega)).trans ac1
  replace ac2 := (hk2.cell (p := ⟨w.heap.size, 2, none⟩) (show w.heap.size < w1.heap.size from by omega)).trans ac2
  replace ac3 := (hk2.cell (p := ⟨w.heap.size, 3, none⟩) (show w.heap.size < w1.heap.size from by omega)).trans ac3
  replace ac4 := (hk2.cell (p := ⟨w.heap.size, 4, none⟩) (show w.heap.size < w1.heap.size from by omega)).trans ac4
  replace bc0 := (hk2.cell (p := ⟨w.heap.size + 1, 0, none⟩) (show w.heap.size + 1 < w1.heap.size from by omega)).trans bc0
  replace bc1 := (hk2.cell (p := ⟨w.heap.size + 1, 1, none⟩) (show w.heap.size + 1 < w1.heap.size from by omega)).trans bc1
  replace bc2 := (hk2.cell (p := ⟨w.heap.size + 1, 2, none⟩) (show w.heap.size + 1 < w1.heap.size from by omega)).trans bc2
  replace bc3 := (hk2.cell (p := ⟨w.heap.size + 1, 3, none⟩) (show w.heap.size + 1 < w1.heap.size from by omega)).trans bc3
  replace bc4 := (hk2.cell (p := ⟨w.heap.size + 1, 4, none⟩) (show w.heap.size + 1 < w1.heap.size from by omega)).trans bc4
  have hz2 : w.heap.size + 1 < w2.heap.size := by have := hk2.size; omega
  have HB2 := hide (HB1.out.trans (hk2.mono HB1.out.size))
  clear hk2
  go_wp2_with fail
  refine (impl_in_yes _ _ _ _ h3.1 h3.2).mono ?_
  rintro e v1 ⟨rfl, rfl⟩
  go_wp2_with fail
  refine (impl_in_no _ _ _ _ h5).mono ?_
  rintro e v2 ⟨rfl, rfl⟩
  go_wp2
  refine bodyPost_ret (v := .tuple #[.int .i64 0, .int .i64 0, .int .i64 3]) ?_ rfl ⟨rfl, ?_⟩
  · simp [results, Try.results15, go_sem]
  · exact HB2.out
set_option maxRecDepth 100000 in
set_option maxHeartbeats 2000000 in
theorem impl_two_yhi (a0 b0 : ByteArray) (a1 a2 a3 a4 b1 b2 b3 b4 s : Int) (w : World) (ha : a0.size ≤ maxLen) (hb : b0.size ≤ maxLen) (h1 : Clay.ok ⟨a0, a1, a2, a3, a4⟩ = true) (h2 : Clay.ok ⟨b0, b1, b2, b3, b4⟩ = true) (h3 : 0 ≤ s ∧ s ≤ 200) (hlt : b1 < a1) (h5 : b1 ≤ s ∧ s ≤ a1) (hs : b1 < s ∧ s < a1) (ka : 0 ≤ a1 ∧ a1 ≤ 200) (kb : 0 ≤ b1 ∧ b1 ≤ 200) :
    Calls Try.prog 15 #[.agg #[.string a0, .int .i64 a1, .int .i64 a2, .int .i64 a3, .int .i64 a4], .agg #[.string b0, .int .i64 b1, .int .i64 b2, .int .i64 b3, .int .i64 b4], .int .i64 s] w fun e w' => e = .returned (.tuple #[.int .i64 ((s - b1) / (Int.gcd (s - b1) (a1 - s) : Int)), .int .i64 ((a1 - s) / (Int.gcd (s - b1) (a1 - s) : Int)), .int .i64 0]) ∧ Below w.heap.size w w' := by
  have d4 : (a1 == b1) = false := by simp; omega
  have hgn : Int.gcd (s - b1) (a1 - s) ≠ 0 := fun q => by rw [Int.gcd_eq_zero_iff] at q; omega
  have hg1 : 0 < (Int.gcd (s - b1) (a1 - s) : Int) := by omega
  have hq1 := div_le (s - b1) _ (by omega) hg1
  have hq2 := div_le (a1 - s) _ (by omega) hg1
  have eg : ((Int.gcd (s - b1) (a1 - s) : Int) == 0) = false := by simp; omega
  have hgl : (Int.gcd (s - b1) (a1 - s) : Int) ≤ 200 := by
    rcases Int.lt_or_le 0 (a1 - s) with q | q
    · have := gcd_le (s - b1) (a1 - s) q
      omega
    · have e : (a1 - s) = 0 := by omega
      rw [e, Int.gcd_zero_right]
      omega
  obtain ⟨G, hG⟩ : ∃ G, (Int.gcd (s - b1) (a1 - s) : Int) = G := ⟨_, rfl⟩
  rw [hG] at hg1 hq1 hq2 eg hgl ⊢
  have HG := hide hG
  clear hgn hG
  go_enter Try.func15, Try.ntmps15
  have HB0 := hide (((Below.refl w.heap.size w).alloc (Nat.le_refl _) (.cells #[.string a0, .int .i64 a1, .int .i64 a2, .int .i64 a3, .int .i64 a4] 39)).alloc (by simp) (.cells #[.string b0, .int .i64 b1, .int .i64 b2, .int .i64 b3, .int .i64 b4] 39))
  go_wp2_with fail
  refine (impl_isClay a0 a1 a2 a3 a4 _ ha).mono ?_
  rintro e w1 ⟨rfl, hk1⟩
  rw [h1]
  have ac0 := (hk1.cell (p := ⟨w.heap.size, 0, none⟩) (by simp <;> omega)).trans (show _ = some (.string a0) from by simp [go_sem])
  have ac1 := (hk1.cell (p := ⟨w.heap.size, 1, none⟩) (by simp <;> omega)).trans (show _ = some (.int .i64 a1) from by simp [go_sem])
  have ac2 := (hk1.cell (p := ⟨w.heap.size, 2, none⟩) (by simp <;> omega)).trans (show _ = some (.int .i64 a2) from by simp [go_sem])
  have ac3 := (hk1.cell (p := ⟨w.heap.size, 3, none⟩) (by simp <;> omega)).trans (show _ = some (.int .i64 a3) from by simp [go_sem])
  have ac4 := (hk1.cell (p := ⟨w.heap.size, 4, none⟩) (by simp <;> omega)).trans (show _ = some (.int .i64 a4) from by simp [go_sem])
  have bc0 := (hk1.cell (p := ⟨w.heap.size + 1, 0, none⟩) (by simp <;> omega)).trans (show _ = some (.string b0) from by simp [go_sem])
  have bc1 := (hk1.cell (p := ⟨w.heap.size + 1, 1, none⟩) (by simp <;> omega)).trans (show _ = some (.int .i64 b1) from by simp [go_sem])
  have bc2 := (hk1.cell (p := ⟨w.heap.size + 1, 2, none⟩) (by simp <;> omega)).trans (show _ = some (.int .i64 b2) from by simp [go_sem])
  have bc3 := (hk1.cell (p := ⟨w.heap.size + 1, 3, none⟩) (by simp <;> omega)).trans (show _ = some (.int .i64 b3) from by simp [go_sem])
  have bc4 := (hk1.cell (p := ⟨w.heap.size + 1, 4, none⟩) (by simp <;> omega)).trans (show _ = some (.int .i64 b4) from by simp [go_sem])
  have hz1 : w.heap.size + 1 < w1.heap.size := by have := hk1.size; simp at this; omega
  have HB1 := hide (HB0.out.trans (hk1.mono (by simp <;> omega)))
  clear hk1
  go_wp2_with fail
  refine (impl_isClay b0 b1 b2 b3 b4 _ hb).mono ?_
  rintro e w2 ⟨rfl, hk2⟩
  rw [h2]
  replace ac0 := (hk2.cell (p := ⟨w.heap.size, 0, none⟩) (show w.heap.size < w1.heap.size from by omega)).trans ac0
  replace ac1 := (hk2.cell (p := ⟨w.heap.size, 1, none⟩) (show w.heap.size < w1.heap.size from by omega)).trans ac1
  replace ac2 := (hk2.cell (p := ⟨w.heap.size, 2, none⟩) (show w.heap.size < w1.heap.size from by omega)).trans ac2
  replace ac3 := (hk2.cell (p := ⟨w.heap.size, 3, none⟩) (show w.heap.size < w1.heap.size from by omega)).trans ac3
  replace ac4 := (hk2.cell (p := ⟨w.heap.size, 4, none⟩) (show w.heap.size < w1.heap.size from by omega)).trans ac4
  replace bc0 := (hk2.cell (p := ⟨w.heap.size + 1, 0, none⟩) (show w.heap.size + 1 < w1.heap.size from by omega)).trans bc0
  replace bc1 := (hk2.cell (p := ⟨w.heap.size + 1, 1, none⟩) (show w.heap.size + 1 < w1.heap.size from by omega)).trans bc1
  replace bc2 := (hk2.cell (p := ⟨w.heap.size + 1, 2, none⟩) (show w.heap.size + 1 < w1.heap.size from by omega)).trans bc2
  replace bc3 := (hk2.cell (p := ⟨w.heap.size + 1, 3, none⟩) (show w.heap.size + 1 < w1.heap.size from by omega)).trans bc3
  replace bc4 := (hk2.cell (p := ⟨w.heap.size + 1, 4, none⟩) (show w.heap.size + 1 < w1.heap.size from by omega)).trans bc4
  have hz2 : w.heap.size + 1 < w2.heap.size := by have := hk2.size; omega
  have HB2 := hide (HB1.out.trans (hk2.mono HB1.out.size))
  clear hk2
  go_wp2_with fail
  refine (impl_in_yes _ _ _ _ h3.1 h3.2).mono ?_
  rintro e v1 ⟨rfl, rfl⟩
  go_wp2_with fail
  refine (impl_in_yes _ _ _ _ h5.1 h5.2).mono ?_
  rintro e v2 ⟨rfl, rfl⟩
  go_wp2
  go_quiet (fail)
  go_wp2_with fail
  refine (impl_gcd (s - b1) (a1 - s) _ (by omega) (by omega) (by omega) (by omega)).mono ?_
  rintro e v3 ⟨rfl, q, rfl⟩
  rw [HG.out]
  go_wp2
  go_region
  go_wp2
  refine bodyPost_ret (v := .tuple #[.int .i64 ((s - b1) / G), .int .i64 ((a1 - s) / G), .int .i64 0]) ?_ rfl ⟨rfl, ?_⟩
  · simp [results, Try.results15, go_sem]
  · exact (below_drewN HB2.out (nq + q)).drew
set_option maxRecDepth 100000 in
set_option maxHeartbeats 2000000 in
theorem impl_two_eahi (a0 b0 : ByteArray) (a1 a2 a3 a4 b1 b2 b3 b4 s : Int) (w : World) (ha : a0.size ≤ maxLen) (hb : b0.size ≤ maxLen) (h1 : Clay.ok ⟨a0, a1, a2, a3, a4⟩ = true) (h2 : Clay.ok ⟨b0, b1, b2, b3, b4⟩ = true) (hlt : b1 < a1) (ka : 0 ≤ a1 ∧ a1 ≤ 200) (kb : 0 ≤ b1 ∧ b1 ≤ 200) :
    Calls Try.prog 15 #[.agg #[.string a0, .int .i64 a1, .int .i64 a2, .int .i64 a3, .int .i64 a4], .agg #[.string b0, .int .i64 b1, .int .i64 b2, .int .i64 b3, .int .i64 b4], .int .i64 a1] w fun e w' => e = .returned (.tuple #[.int .i64 1, .int .i64 0, .int .i64 0]) ∧ Below w.heap.size w w' := by
  have d4 : (a1 == b1) = false := by simp; omega
  have hgn : (Int.gcd (a1 - b1) 0 : Int) = (a1 - b1) := by
    rw [Int.gcd_zero_right]
    omega
  have e1 : (a1 - b1) / (a1 - b1) = 1 := Int.ediv_self (by omega)
  have e2 : (0 : Int) / (a1 - b1) = 0 := Int.zero_ediv _
  have eg : ((a1 - b1) == 0) = false := by simp; omega
  have HG := hide hgn
  clear hgn
  go_enter Try.func15, Try.ntmps15
  have HB0 := hide (((Below.refl w.heap.size w).alloc (Nat.le_refl _) (.cells #[.string a0, .int .i64 a1, .int .i64 a2, .int .i64 a3, .int .i64 a4] 39)).alloc (by simp) (.cells #[.string b0, .int .i64 b1, .int .i64 b2, .int .i64 b3, .int .i64 b4] 39))
  go_wp2_with fail
  refine (impl_isClay a0 a1 a2 a3 a4 _ ha).mono ?_
  rintro e w1 ⟨rfl, hk1⟩
  rw [h1]
  have ac0 := (hk1.cell (p := ⟨w.heap.size, 0, none⟩) (by simp <;> omega)).trans (show _ = some (.string a0) from by simp [go_sem])
  have ac1 := (hk1.cell (p := ⟨w.heap.size, 1, none⟩) (by simp <;> omega)).trans (show _ = some (.int .i64 a1) from by simp [go_sem])
  have ac2 := (hk1.cell (p := ⟨w.heap.size, 2, none⟩) (by simp <;> omega)).trans (show _ = some (.int .i64 a2) from by simp [go_sem])
  have ac3 := (hk1.cell (p := ⟨w.heap.size, 3, none⟩) (by simp <;> omega)).trans (show _ = some (.int .i64 a3) from by simp [go_sem])
  have ac4 := (hk1.cell (p := ⟨w.heap.size, 4, none⟩) (by simp <;> omega)).trans (show _ = some (.int .i64 a4) from by simp [go_sem])
  have bc0 := (hk1.cell (p := ⟨w.heap.size + 1, 0, none⟩) (by simp <;> omega)).trans (show _ = some (.string b0) from by simp [go_sem])
  have bc1 := (hk1.cell (p := ⟨w.heap.size + 1, 1, none⟩) (by simp <;> omega)).trans (show _ = some (.int .i64 b1) from by simp [go_sem])
  have bc2 := (hk1.cell (p := ⟨w.heap.size + 1, 2, none⟩) (by simp <;> omega)).trans (show _ = some (.int .i64 b2) from by simp [go_sem])
  have bc3 := (hk1.cell (p := ⟨w.heap.size + 1, 3, none⟩) (by simp <;> omega)).trans (show _ = some (.int .i64 b3) from by simp [go_sem])
  have bc4 := (hk1.cell (p := ⟨w.heap.size + 1, 4, none⟩) (by simp <;> omega)).trans (show _ = some (.int .i64 b4) from by simp [go_sem])
  have hz1 : w.heap.size + 1 < w1.heap.size := by have := hk1.size; simp at this; omega
  have HB1 := hide (HB0.out.trans (hk1.mono (by simp <;> omega)))
  clear hk1
  go_wp2_with fail
  refine (impl_isClay b0 b1 b2 b3 b4 _ hb).mono ?_
  rintro e w2 ⟨rfl, hk2⟩
  rw [h2]
  replace ac0 := (hk2.cell (p := ⟨w.heap.size, 0, none⟩) (show w.heap.size < w1.heap.size from by omega)).trans ac0
  replace ac1 := (hk2.cell (p := ⟨w.heap.size, 1, none⟩) (show w.heap.size < w1.heap.size from by omega)).trans ac1
  replace ac2 := (hk2.cell (p := ⟨w.heap.size, 2, none⟩) (show w.heap.size < w1.heap.size from by omega)).trans ac2
  replace ac3 := (hk2.cell (p := ⟨w.heap.size, 3, none⟩) (show w.heap.size < w1.heap.size from by omega)).trans ac3
  replace ac4 := (hk2.cell (p := ⟨w.heap.size, 4, none⟩) (show w.heap.size < w1.heap.size from by omega)).trans ac4
  replace bc0 := (hk2.cell (p := ⟨w.heap.size + 1, 0, none⟩) (show w.heap.size + 1 < w1.heap.size from by omega)).trans bc0
  replace bc1 := (hk2.cell (p := ⟨w.heap.size + 1, 1, none⟩) (show w.heap.size + 1 < w1.heap.size from by omega)).trans bc1
  replace bc2 := (hk2.cell (p := ⟨w.heap.size + 1, 2, none⟩) (show w.heap.size + 1 < w1.heap.size from by omega)).trans bc2
  replace bc3 := (hk2.cell (p := ⟨w.heap.size + 1, 3, none⟩) (show w.heap.size + 1 < w1.heap.size from by omega)).trans bc3
  replace bc4 := (hk2.cell (p := ⟨w.heap.size + 1, 4, none⟩) (show w.heap.size + 1 < w1.heap.size from by omega)).trans bc4
  have hz2 : w.heap.size + 1 < w2.heap.size := by have := hk2.size; omega
  have HB2 := hide (HB1.out.trans (hk2.mono HB1.out.size))
  clear hk2
  go_wp2_with fail
  refine (impl_in_yes _ _ _ _ ka.1 ka.2).mono ?_
  rintro e v1 ⟨rfl, rfl⟩
  go_wp2_with fail
  refine (impl_in_yes _ _ _ _ (by omega) (by omega)).mono ?_
  rintro e v2 ⟨rfl, rfl⟩
  go_wp2
  go_quiet (fail)
  go_wp2_with fail
  refine (impl_gcd (a1 - b1) 0 _ (by omega) (by omega) (by omega) (by omega)).mono ?_
  rintro e v3 ⟨rfl, q, rfl⟩
  rw [HG.out]
  generalize hD : (a1 - b1) = D at *
  go_wp2
  go_region
  go_wp2
  refine bodyPost_ret (v := .tuple #[.int .i64 1, .int .i64 0, .int .i64 0]) ?_ rfl ⟨rfl, ?_⟩
  · simp [results, Try.results15, go_sem, e1]
  · exact (below_drewN HB2.out (nq + q)).drew
set_option maxRecDepth 100000 in
set_option maxHeartbeats 2000000 in
theorem impl_two_ebhi (a0 b0 : ByteArray) (a1 a2 a3 a4 b1 b2 b3 b4 s : Int) (w : World) (ha : a0.size ≤ maxLen) (hb : b0.size ≤ maxLen) (h1 : Clay.ok ⟨a0, a1, a2, a3, a4⟩ = true) (h2 : Clay.ok ⟨b0, b1, b2, b3, b4⟩ = true) (hlt : b1 < a1) (ka : 0 ≤ a1 ∧ a1 ≤ 200) (kb : 0 ≤ b1 ∧ b1 ≤ 200) :
    Calls Try.prog 15 #[.agg #[.string a0, .int .i64 a1, .int .i64 a2, .int .i64 a3, .int .i64 a4], .agg #[.string b0, .int .i64 b1, .int .i64 b2, .int .i64 b3, .int .i64 b4], .int .i64 b1] w fun e w' => e = .returned (.tuple #[.int .i64 0, .int .i64 1, .int .i64 0]) ∧ Below w.heap.size w w' := by
  have d4 : (a1 == b1) = false := by simp; omega
  have hgn : (Int.gcd 0 (a1 - b1) : Int) = (a1 - b1) := by
    rw [Int.gcd_zero_left]
    omega
  have e1 : (a1 - b1) / (a1 - b1) = 1 := Int.ediv_self (by omega)
  have e2 : (0 : Int) / (a1 - b1) = 0 := Int.zero_ediv _
  have eg : ((a1 - b1) == 0) = false := by simp; omega
  have HG := hide hgn
  clear hgn
  go_enter Try.func15, Try.ntmps15
  have HB0 := hide (((Below.refl w.heap.size w).alloc (Nat.le_refl _) (.cells #[.string a0, .int .i64 a1, .int .i64 a2, .int .i64 a3, .int .i64 a4] 39)).alloc (by simp) (.cells #[.string b0, .int .i64 b1, .int .i64 b2, .int .i64 b3, .int .i64 b4] 39))
  go_wp2_with fail
  refine (impl_isClay a0 a1 a2 a3 a4 _ ha).mono ?_
  rintro e w1 ⟨rfl, hk1⟩
  rw [h1]
  have ac0 := (hk1.cell (p := ⟨w.heap.size, 0, none⟩) (by simp <;> omega)).trans (show _ = some (.string a0) from by simp [go_sem])
  have ac1 := (hk1.cell (p := ⟨w.heap.size, 1, none⟩) (by simp <;> omega)).trans (show _ = some (.int .i64 a1) from by simp [go_sem])
  have ac2 := (hk1.cell (p := ⟨w.heap.size, 2, none⟩) (by simp <;> omega)).trans (show _ = some (.int .i64 a2) from by simp [go_sem])
  have ac3 := (hk1.cell (p := ⟨w.heap.size, 3, none⟩) (by simp <;> omega)).trans (show _ = some (.int .i64 a3) from by simp [go_sem])
  have ac4 := (hk1.cell (p := ⟨w.heap.size, 4, none⟩) (by simp <;> omega)).trans (show _ = some (.int .i64 a4) from by simp [go_sem])
  have bc0 := (hk1.cell (p := ⟨w.heap.size + 1, 0, none⟩) (by simp <;> omega)).trans (show _ = some (.string b0) from by simp [go_sem])
  have bc1 := (hk1.cell (p := ⟨w.heap.size + 1, 1, none⟩) (by simp <;> omega)).trans (show _ = some (.int .i64 b1) from by simp [go_sem])
  have bc2 := (hk1.cell (p := ⟨w.heap.size + 1, 2, none⟩) (by simp <;> omega)).trans (show _ = some (.int .i64 b2) from by simp [go_sem])
  have bc3 := (hk1.cell (p := ⟨w.heap.size + 1, 3, none⟩) (by simp <;> omega)).trans (show _ = some (.int .i64 b3) from by simp [go_sem])
  have bc4 := (hk1.cell (p := ⟨w.heap.size + 1, 4, none⟩) (by simp <;> omega)).trans (show _ = some (.int .i64 b4) from by simp [go_sem])
  have hz1 : w.heap.size + 1 < w1.heap.size := by have := hk1.size; simp at this; omega
  have HB1 := hide (HB0.out.trans (hk1.mono (by simp <;> omega)))
  clear hk1
  go_wp2_with fail
  refine (impl_isClay b0 b1 b2 b3 b4 _ hb).mono ?_
  rintro e w2 ⟨rfl, hk2⟩
  rw [h2]
  replace ac0 := (hk2.cell (p := ⟨w.heap.size, 0, none⟩) (show w.heap.size < w1.heap.size from by omega)).trans ac0
  replace ac1 := (hk2.cell (p := ⟨w.heap.size, 1, none⟩) (show w.heap.size < w1.heap.size from by omega)).trans ac1
  replace ac2 := (hk2.cell (p := ⟨w.heap.size, 2, none⟩) (show w.heap.size < w1.heap.size from by omega)).trans ac2
  replace ac3 := (hk2.cell (p := ⟨w.heap.size, 3, none⟩) (show w.heap.size < w1.heap.size from by omega)).trans ac3
  replace ac4 := (hk2.cell (p := ⟨w.heap.size, 4, none⟩) (show w.heap.size < w1.heap.size from by omega)).trans ac4
  replace bc0 := (hk2.cell (p := ⟨w.heap.size + 1, 0, none⟩) (show w.heap.size + 1 < w1.heap.size from by omega)).trans bc0
  replace bc1 := (hk2.cell (p := ⟨w.heap.size + 1, 1, none⟩) (show w.heap.size + 1 < w1.heap.size from by omega)).trans bc1
  replace bc2 := (hk2.cell (p := ⟨w.heap.size + 1, 2, none⟩) (show w.heap.size + 1 < w1.heap.size from by omega)).trans bc2
  replace bc3 := (hk2.cell (p := ⟨w.heap.size + 1, 3, none⟩) (show w.heap.size + 1 < w1.heap.size from by omega)).trans bc3
  replace bc4 := (hk2.cell (p := ⟨w.heap.size + 1, 4, none⟩) (show w.heap.size + 1 < w1.heap.size from by omega)).trans bc4
  have hz2 : w.heap.size + 1 < w2.heap.size := by have := hk2.size; omega
  have HB2 := hide (HB1.out.trans (hk2.mono HB1.out.size))
  clear hk2
  go_wp2_with fail
  refine (impl_in_yes _ _ _ _ kb.1 kb.2).mono ?_
  rintro e v1 ⟨rfl, rfl⟩
  go_wp2_with fail
  refine (impl_in_yes _ _ _ _ (by omega) (by omega)).mono ?_
  rintro e v2 ⟨rfl, rfl⟩
  go_wp2
  go_quiet (fail)
  go_wp2_with fail
  refine (impl_gcd 0 (a1 - b1) _ (by omega) (by omega) (by omega) (by omega)).mono ?_
  rintro e v3 ⟨rfl, q, rfl⟩
  rw [HG.out]
  generalize hD : (a1 - b1) = D at *
  go_wp2
  go_region
  go_wp2
  refine bodyPost_ret (v := .tuple #[.int .i64 0, .int .i64 1, .int .i64 0]) ?_ rfl ⟨rfl, ?_⟩
  · simp [results, Try.results15, go_sem, e1]
  · exact (below_drewN HB2.out (nq + q)).drew
set_option maxRecDepth 100000 in
set_option maxHeartbeats 2000000 in
theorem spec_two_a (a0 b0 : ByteArray) (a1 a2 a3 a4 b1 b2 b3 b4 s : Int) (w : World) (ha : a0.size ≤ maxLen) (hb : b0.size ≤ maxLen) (h1 : Clay.ok ⟨a0, a1, a2, a3, a4⟩ = false) :
    Calls Try.prog 16 #[.agg #[.string a0, .int .i64 a1, .int .i64 a2, .int .i64 a3, .int .i64 a4], .agg #[.string b0, .int .i64 b1, .int .i64 b2, .int .i64 b3, .int .i64 b4], .int .i64 s] w fun e w' => e = .returned (.tuple #[.int .i64 0, .int .i64 0, .int .i64 1]) ∧ Below w.heap.size w w' := by
  go_enter Try.func16, Try.ntmps16
  have HB0 := hide (((Below.refl w.heap.size w).alloc (Nat.le_refl _) (.cells #[.string a0, .int .i64 a1, .int .i64 a2, .int .i64 a3, .int .i64 a4] 39)).alloc (by simp) (.cells #[.string b0, .int .i64 b1, .int .i64 b2, .int .i64 b3, .int .i64 b4] 39))
  go_wp2_with fail
  refine (spec_isClay a0 a1 a2 a3 a4 _ _ _ ha (by simp [go_sem]) (by simp [go_sem]) (by simp [go_sem]) (by simp [go_sem]) (by simp [go_sem])).mono ?_
  rintro e w1 ⟨rfl, rfl⟩
  rw [h1]
  go_wp2
  refine bodyPost_ret (v := .tuple #[.int .i64 0, .int .i64 0, .int .i64 1]) ?_ rfl ⟨rfl, ?_⟩
  · simp [results, Try.results16, go_sem]
  · exact HB0.out
set_option maxRecDepth 100000 in
set_option maxHeartbeats 2000000 in
theorem spec_two_b (a0 b0 : ByteArray) (a1 a2 a3 a4 b1 b2 b3 b4 s : Int) (w : World) (ha : a0.size ≤ maxLen) (hb : b0.size ≤ maxLen) (h1 : Clay.ok ⟨a0, a1, a2, a3, a4⟩ = true) (h2 : Clay.ok ⟨b0, b1, b2, b3, b4⟩ = false) :
    Calls Try.prog 16 #[.agg #[.string a0, .int .i64 a1, .int .i64 a2, .int .i64 a3, .int .i64 a4], .agg #[.string b0, .int .i64 b1, .int .i64 b2, .int .i64 b3, .int .i64 b4], .int .i64 s] w fun e w' => e = .returned (.tuple #[.int .i64 0, .int .i64 0, .int .i64 1]) ∧ Below w.heap.size w w' := by
  go_enter Try.func16, Try.ntmps16
  have HB0 := hide (((Below.refl w.heap.size w).alloc (Nat.le_refl _) (.cells #[.string a0, .int .i64 a1, .int .i64 a2, .int .i64 a3, .int .i64 a4] 39)).alloc (by simp) (.cells #[.string b0, .int .i64 b1, .int .i64 b2, .int .i64 b3, .int .i64 b4] 39))
  go_wp2_with fail
  refine (spec_isClay a0 a1 a2 a3 a4 _ _ _ ha (by simp [go_sem]) (by simp [go_sem]) (by simp [go_sem]) (by simp [go_sem]) (by simp [go_sem])).mono ?_
  rintro e w1 ⟨rfl, rfl⟩
  rw [h1]
  go_wp2_with fail
  refine (spec_isClay b0 b1 b2 b3 b4 _ _ _ hb (by simp [go_sem]) (by simp [go_sem]) (by simp [go_sem]) (by simp [go_sem]) (by simp [go_sem])).mono ?_
  rintro e w2 ⟨rfl, rfl⟩
  rw [h2]
  go_wp2
  refine bodyPost_ret (v := .tuple #[.int .i64 0, .int .i64 0, .int .i64 1]) ?_ rfl ⟨rfl, ?_⟩
  · simp [results, Try.results16, go_sem]
  · exact HB0.out
set_option maxRecDepth 100000 in
set_option maxHeartbeats 2000000 in
theorem spec_two_r (a0 b0 : ByteArray) (a1 a2 a3 a4 b1 b2 b3 b4 s : Int) (w : World) (ha : a0.size ≤ maxLen) (hb : b0.size ≤ maxLen) (h1 : Clay.ok ⟨a0, a1, a2, a3, a4⟩ = true) (h2 : Clay.ok ⟨b0, b1, b2, b3, b4⟩ = true) (h3 : ¬ (0 ≤ s ∧ s ≤ 200)) :
    Calls Try.prog 16 #[.agg #[.string a0, .int .i64 a1, .int .i64 a2, .int .i64 a3, .int .i64 a4], .agg #[.string b0, .int .i64 b1, .int .i64 b2, .int .i64 b3, .int .i64 b4], .int .i64 s] w fun e w' => e = .returned (.tuple #[.int .i64 0, .int .i64 0, .int .i64 2]) ∧ Below w.heap.size w w' := by
  go_enter Try.func16, Try.ntmps16
  have HB0 := hide (((Below.refl w.heap.size w).alloc (Nat.le_refl _) (.cells #[.string a0, .int .i64 a1, .int .i64 a2, .int .i64 a3, .int .i64 a4] 39)).alloc (by simp) (.cells #[.string b0, .int .i64 b1, .int .i64 b2, .int .i64 b3, .int .i64 b4] 39))
  go_wp2_with fail
  refine (spec_isClay a0 a1 a2 a3 a4 _ _ _ ha (by simp [go_sem]) (by simp [go_sem]) (by simp [go_sem]) (by simp [go_sem]) (by simp [go_sem])).mono ?_
  rintro e w1 ⟨rfl, rfl⟩
  rw [h1]
  go_wp2_with fail
  refine (spec_isClay b0 b1 b2 b3 b4 _ _ _ hb (by simp [go_sem]) (by simp [go_sem]) (by simp [go_sem]) (by simp [go_sem]) (by simp [go_sem])).mono ?_
  rintro e w2 ⟨rfl, rfl⟩
  rw [h2]
  go_wp2_with fail
  refine (spec_in_no _ _ _ _ h3).mono ?_
  rintro e v1 ⟨rfl, rfl⟩
  go_wp2
  refine bodyPost_ret (v := .tuple #[.int .i64 0, .int .i64 0, .int .i64 2]) ?_ rfl ⟨rfl, ?_⟩
  · simp [results, Try.results16, go_sem]
  · exact HB0.out
set_option maxRecDepth 100000 in
set_option maxHeartbeats 2000000 in
theorem spec_two_s (a0 b0 : ByteArray) (a1 a2 a3 a4 b1 b2 b3 b4 s : Int) (w : World) (ha : a0.size ≤ maxLen) (hb : b0.size ≤ maxLen) (h1 : Clay.ok ⟨a0, a1, a2, a3, a4⟩ = true) (h2 : Clay.ok ⟨b0, b1, b2, b3, b4⟩ = true) (h3 : 0 ≤ s ∧ s ≤ 200) (h4 : a1 = b1) :
    Calls Try.prog 16 #[.agg #[.string a0, .int .i64 a1, .int .i64 a2, .int .i64 a3, .int .i64 a4], .agg #[.string b0, .int .i64 b1, .int .i64 b2, .int .i64 b3, .int .i64 b4], .int .i64 s] w fun e w' => e = .returned (.tuple #[.int .i64 0, .int .i64 0, .int .i64 6]) ∧ Below w.heap.size w w' := by
  have d4 : (a1 == b1) = true := by simp [h4]
  clear h4
  go_enter Try.func16, Try.ntmps16
  have HB0 := hide (((Below.refl w.heap.size w).alloc (Nat.le_refl _) (.cells #[.string a0, .int .i64 a1, .int .i64 a2, .int .i64 a3, .int .i64 a4] 39)).alloc (by simp) (.cells #[.string b0, .int .i64 b1, .int .i64 b2, .int .i64 b3, .int .i64 b4] 39))
  go_wp2_with fail
  refine (spec_isClay a0 a1 a2 a3 a4 _ _ _ ha (by simp [go_sem]) (by simp [go_sem]) (by simp [go_sem]) (by simp [go_sem]) (by simp [go_sem])).mono ?_
  rintro e w1 ⟨rfl, rfl⟩
  rw [h1]
  go_wp2_with fail
  refine (spec_isClay b0 b1 b2 b3 b4 _ _ _ hb (by simp [go_sem]) (by simp [go_sem]) (by simp [go_sem]) (by simp [go_sem]) (by simp [go_sem])).mono ?_
  rintro e w2 ⟨rfl, rfl⟩
  rw [h2]
  go_wp2_with fail
  refine (spec_in_yes _ _ _ _ h3.1 h3.2).mono ?_
  rintro e v1 ⟨rfl, rfl⟩
  go_wp2
  refine bodyPost_ret (v := .tuple #[.int .i64 0, .int .i64 0, .int .i64 6]) ?_ rfl ⟨rfl, ?_⟩
  · simp [results, Try.results16, go_sem]
  · exact HB0.out
set_option maxRecDepth 100000 in
set_option maxHeartbeats 2000000 in
theorem spec_two_nlo (a0 b0 : ByteArray) (a1 a2 a3 a4 b1 b2 b3 b4 s : Int) (w : World) (ha : a0.size ≤ maxLen) (hb : b0.size ≤ maxLen) (h1 : Clay.ok ⟨a0, a1, a2, a3, a4⟩ = true) (h2 : Clay.ok ⟨b0, b1, b2, b3, b4⟩ = true) (h3 : 0 ≤ s ∧ s ≤ 200) (hlt : a1 < b1) (h5 : ¬ (a1 ≤ s ∧ s ≤ b1)) :
    Calls Try.prog 16 #[.agg #[.string a0, .int .i64 a1, .int .i64 a2, .int .i64 a3, .int .i64 a4], .agg #[.string b0, .int .i64 b1, .int .i64 b2, .int .i64 b3, .int .i64 b4], .int .i64 s] w fun e w' => e = .returned (.tuple #[.int .i64 0, .int .i64 0, .int .i64 3]) ∧ Below w.heap.size w w' := by
  have d4 : (a1 == b1) = false := by simp; omega
  go_enter Try.func16, Try.ntmps16
  have HB0 := hide (((Below.refl w.heap.size w).alloc (Nat.le_refl _) (.cells #[.string a0, .int .i64 a1, .int .i64 a2, .int .i64 a3, .int .i64 a4] 39)).alloc (by simp) (.cells #[.string b0, .int .i64 b1, .int .i64 b2, .int .i64 b3, .int .i64 b4] 39))
  go_wp2_with fail
  refine (spec_isClay a0 a1 a2 a3 a4 _ _ _ ha (by simp [go_sem]) (by simp [go_sem]) (by simp [go_sem]) (by simp [go_sem]) (by simp [go_sem])).mono ?_
  rintro e w1 ⟨rfl, rfl⟩
  rw [h1]
  go_wp2_with fail
  refine (spec_isClay b0 b1 b2 b3 b4 _ _ _ hb (by simp [go_sem]) (by simp [go_sem]) (by simp [go_sem]) (by simp [go_sem]) (by simp [go_sem])).mono ?_
  rintro e w2 ⟨rfl, rfl⟩
  rw [h2]
  go_wp2_with fail
  refine (spec_in_yes _ _ _ _ h3.1 h3.2).mono ?_
  rintro e v1 ⟨rfl, rfl⟩
  go_wp2
  go_quiet (first
    | (go_at_call 67; exact Calls.quiet_of_same ((spec_min_lo _ _ _ hlt).mono fun _ _ hh => ⟨hh.1, hh.2.symm⟩))
    | (go_at_call 68; exact Calls.quiet_of_same ((spec_max_lo _ _ _ hlt).mono fun _ _ hh => ⟨hh.1, hh.2.symm⟩))
    | (go_at_call 66; exact Calls.quiet_of_same ((spec_in_no _ _ _ _ h5).mono fun _ _ hh => ⟨hh.1, hh.2.symm⟩)))
  go_wp2
  refine bodyPost_ret (v := .tuple #[.int .i64 0, .int .i64 0, .int .i64 3]) ?_ rfl ⟨rfl, ?_⟩
  · simp [results, Try.results16, go_sem]
  · exact below_drewN HB0.out _
set_option maxRecDepth 100000 in
set_option maxHeartbeats 2000000 in
theorem spec_two_ylo (a0 b0 : ByteArray) (a1 a2 a3 a4 b1 b2 b3 b4 s : Int) (w : World) (ha : a0.size ≤ maxLen) (hb : b0.size ≤ maxLen) (h1 : Clay.ok ⟨a0, a1, a2, a3, a4⟩ = true) (h2 : Clay.ok ⟨b0, b1, b2, b3, b4⟩ = true) (h3 : 0 ≤ s ∧ s ≤ 200) (hlt : a1 < b1) (h5 : a1 ≤ s ∧ s ≤ b1) (ka : 0 ≤ a1 ∧ a1 ≤ 200) (kb : 0 ≤ b1 ∧ b1 ≤ 200) :
    Calls Try.prog 16 #[.agg #[.string a0, .int .i64 a1, .int .i64 a2, .int .i64 a3, .int .i64 a4], .agg #[.string b0, .int .i64 b1, .int .i64 b2, .int .i64 b3, .int .i64 b4], .int .i64 s] w fun e w' => e = .returned (.tuple #[.int .i64 ((b1 - s) / (Int.gcd (b1 - s) (s - a1) : Int)), .int .i64 ((s - a1) / (Int.gcd (b1 - s) (s - a1) : Int)), .int .i64 0]) ∧ Below w.heap.size w w' := by
  have d4 : (a1 == b1) = false := by simp; omega
  have hgn : Int.gcd (b1 - s) (s - a1) ≠ 0 := fun q => by rw [Int.gcd_eq_zero_iff] at q; omega
  have hg1 : 0 < (Int.gcd (b1 - s) (s - a1) : Int) := by omega
  have hq1 := div_le (b1 - s) _ (by omega) hg1
  have hq2 := div_le (s - a1) _ (by omega) hg1
  have eg : ((Int.gcd (b1 - s) (s - a1) : Int) == 0) = false := by simp; omega
  have hgl : (Int.gcd (b1 - s) (s - a1) : Int) ≤ 200 := by
    rcases Int.lt_or_le 0 (s - a1) with q | q
    · have := gcd_le (b1 - s) (s - a1) q
      omega
    · have e : (s - a1) = 0 := by omega
      rw [e, Int.gcd_zero_right]
      omega
  obtain ⟨G, hG⟩ : ∃ G, (Int.gcd (b1 - s) (s - a1) : Int) = G := ⟨_, rfl⟩
  rw [hG] at hg1 hq1 hq2 eg hgl ⊢
  have HG := hide hG
  clear hgn hG
  go_enter Try.func16, Try.ntmps16
  have HB0 := hide (((Below.refl w.heap.size w).alloc (Nat.le_refl _) (.cells #[.string a0, .int .i64 a1, .int .i64 a2, .int .i64 a3, .int .i64 a4] 39)).alloc (by simp) (.cells #[.string b0, .int .i64 b1, .int .i64 b2, .int .i64 b3, .int .i64 b4] 39))
  go_wp2_with fail
  refine (spec_isClay a0 a1 a2 a3 a4 _ _ _ ha (by simp [go_sem]) (by simp [go_sem]) (by simp [go_sem]) (by simp [go_sem]) (by simp [go_sem])).mono ?_
  rintro e w1 ⟨rfl, rfl⟩
  rw [h1]
  go_wp2_with fail
  refine (spec_isClay b0 b1 b2 b3 b4 _ _ _ hb (by simp [go_sem]) (by simp [go_sem]) (by simp [go_sem]) (by simp [go_sem]) (by simp [go_sem])).mono ?_
  rintro e w2 ⟨rfl, rfl⟩
  rw [h2]
  go_wp2_with fail
  refine (spec_in_yes _ _ _ _ h3.1 h3.2).mono ?_
  rintro e v1 ⟨rfl, rfl⟩
  go_wp2
  go_quiet (first
    | (go_at_call 67; exact Calls.quiet_of_same ((spec_min_lo _ _ _ hlt).mono fun _ _ hh => ⟨hh.1, hh.2.symm⟩))
    | (go_at_call 68; exact Calls.quiet_of_same ((spec_max_lo _ _ _ hlt).mono fun _ _ hh => ⟨hh.1, hh.2.symm⟩))
    | (go_at_call 66; exact Calls.quiet_of_same ((spec_in_yes _ _ _ _ h5.1 h5.2).mono fun _ _ hh => ⟨hh.1, hh.2.symm⟩)))
  go_wp2_with fail
  refine (spec_l02Size (s - b1) _ (by omega) (by omega)).mono ?_
  rintro e v3 ⟨rfl, rfl⟩
  rw [show ((s - b1).natAbs : Int) = (b1 - s) from by omega]
  go_wp2_with fail
  refine (spec_l02Size (a1 - s) _ (by omega) (by omega)).mono ?_
  rintro e v3 ⟨rfl, rfl⟩
  rw [show ((a1 - s).natAbs : Int) = (s - a1) from by omega]
  go_wp2_with fail
  refine (spec_l02Gcd (b1 - s) (s - a1) _ (by omega) (by omega) (by omega) (by omega)).mono ?_
  rintro e v4 ⟨rfl, rfl⟩
  rw [HG.out]
  go_wp2
  go_region
  go_wp2
  refine bodyPost_ret (v := .tuple #[.int .i64 ((b1 - s) / G), .int .i64 ((s - a1) / G), .int .i64 0]) ?_ rfl ⟨rfl, ?_⟩
  · simp [results, Try.results16, go_sem]
  · exact (below_drewN HB0.out _).drew
set_option maxRecDepth 100000 in
set_option maxHeartbeats 2000000 in
theorem spec_two_nhi (a0 b0 : ByteArray) (a1 a2 a3 a4 b1 b2 b3 b4 s : Int) (w : World) (ha : a0.size ≤ maxLen) (hb : b0.size ≤ maxLen) (h1 : Clay.ok ⟨a0, a1, a2, a3, a4⟩ = true) (h2 : Clay.ok ⟨b0, b1, b2, b3, b4⟩ = true) (h3 : 0 ≤ s ∧ s ≤ 200) (hlt : b1 < a1) (h5 : ¬ (b1 ≤ s ∧ s ≤ a1)) :
    Calls Try.prog 16 #[.agg #[.string a0, .int .i64 a1, .int .i64 a2, .int .i64 a3, .int .i64 a4], .agg #[.string b0, .int .i64 b1, .int .i64 b2, .int .i64 b3, .int .i64 b4], .int .i64 s] w fun e w' => e = .returned (.tuple #[.int .i64 0, .int .i64 0, .int .i64 3]) ∧ Below w.heap.size w w' := by
  have d4 : (a1 == b1) = false := by simp; omega
  go_enter Try.func16, Try.ntmps16
  have HB0 := hide (((Below.refl w.heap.size w).alloc (Nat.le_refl _) (.cells #[.string a0, .int .i64 a1, .int .i64 a2, .int .i64 a3, .int .i64 a4] 39)).alloc (by simp) (.cells #[.string b0, .int .i64 b1, .int .i64 b2, .int .i64 b3, .int .i64 b4] 39))
  go_wp2_with fail
  refine (spec_isClay a0 a1 a2 a3 a4 _ _ _ ha (by simp [go_sem]) (by simp [go_sem]) (by simp [go_sem]) (by simp [go_sem]) (by simp [go_sem])).mono ?_
  rintro e w1 ⟨rfl, rfl⟩
  rw [h1]
  go_wp2_with fail
  refine (spec_isClay b0 b1 b2 b3 b4 _ _ _ hb (by simp [go_sem]) (by simp [go_sem]) (by simp [go_sem]) (by simp [go_sem]) (by simp [go_sem])).mono ?_
  rintro e w2 ⟨rfl, rfl⟩
  rw [h2]
  go_wp2_with fail
  refine (spec_in_yes _ _ _ _ h3.1 h3.2).mono ?_
  rintro e v1 ⟨rfl, rfl⟩
  go_wp2
  go_quiet (first
    | (go_at_call 67; exact Calls.quiet_of_same ((spec_min_hi _ _ _ hlt).mono fun _ _ hh => ⟨hh.1, hh.2.symm⟩))
    | (go_at_call 68; exact Calls.quiet_of_same ((spec_max_hi _ _ _ hlt).mono fun _ _ hh => ⟨hh.1, hh.2.symm⟩))
    | (go_at_call 66; exact Calls.quiet_of_same ((spec_in_no _ _ _ _ h5).mono fun _ _ hh => ⟨hh.1, hh.2.symm⟩)))
  go_wp2
  refine bodyPost_ret (v := .tuple #[.int .i64 0, .int .i64 0, .int .i64 3]) ?_ rfl ⟨rfl, ?_⟩
  · simp [results, Try.results16, go_sem]
  · exact below_drewN HB0.out _
set_option maxRecDepth 100000 in
set_option maxHeartbeats 2000000 in
theorem spec_two_yhi (a0 b0 : ByteArray) (a1 a2 a3 a4 b1 b2 b3 b4 s : Int) (w : World) (ha : a0.size ≤ maxLen) (hb : b0.size ≤ maxLen) (h1 : Clay.ok ⟨a0, a1, a2, a3, a4⟩ = true) (h2 : Clay.ok ⟨b0, b1, b2, b3, b4⟩ = true) (h3 : 0 ≤ s ∧ s ≤ 200) (hlt : b1 < a1) (h5 : b1 ≤ s ∧ s ≤ a1) (ka : 0 ≤ a1 ∧ a1 ≤ 200) (kb : 0 ≤ b1 ∧ b1 ≤ 200) :
    Calls Try.prog 16 #[.agg #[.string a0, .int .i64 a1, .int .i64 a2, .int .i64 a3, .int .i64 a4], .agg #[.string b0, .int .i64 b1, .int .i64 b2, .int .i64 b3, .int .i64 b4], .int .i64 s] w fun e w' => e = .returned (.tuple #[.int .i64 ((s - b1) / (Int.gcd (s - b1) (a1 - s) : Int)), .int .i64 ((a1 - s) / (Int.gcd (s - b1) (a1 - s) : Int)), .int .i64 0]) ∧ Below w.heap.size w w' := by
  have d4 : (a1 == b1) = false := by simp; omega
  have hgn : Int.gcd (s - b1) (a1 - s) ≠ 0 := fun q => by rw [Int.gcd_eq_zero_iff] at q; omega
  have hg1 : 0 < (Int.gcd (s - b1) (a1 - s) : Int) := by omega
  have hq1 := div_le (s - b1) _ (by omega) hg1
  have hq2 := div_le (a1 - s) _ (by omega) hg1
  have eg : ((Int.gcd (s - b1) (a1 - s) : Int) == 0) = false := by simp; omega
  have hgl : (Int.gcd (s - b1) (a1 - s) : Int) ≤ 200 := by
    rcases Int.lt_or_le 0 (a1 - s) with q | q
    · have := gcd_le (s - b1) (a1 - s) q
      omega
    · have e : (a1 - s) = 0 := by omega
      rw [e, Int.gcd_zero_right]
      omega
  obtain ⟨G, hG⟩ : ∃ G, (Int.gcd (s - b1) (a1 - s) : Int) = G := ⟨_, rfl⟩
  rw [hG] at hg1 hq1 hq2 eg hgl ⊢
  have HG := hide hG
  clear hgn hG
  go_enter Try.func16, Try.ntmps16
  have HB0 := hide (((Below.refl w.heap.size w).alloc (Nat.le_refl _) (.cells #[.string a0, .int .i64 a1, .int .i64 a2, .int .i64 a3, .int .i64 a4] 39)).alloc (by simp) (.cells #[.string b0, .int .i64 b1, .int .i64 b2, .int .i64 b3, .int .i64 b4] 39))
  go_wp2_with fail
  refine (spec_isClay a0 a1 a2 a3 a4 _ _ _ ha (by simp [go_sem]) (by simp [go_sem]) (by simp [go_sem]) (by simp [go_sem]) (by simp [go_sem])).mono ?_
  rintro e w1 ⟨rfl, rfl⟩
  rw [h1]
  go_wp2_with fail
  refine (spec_isClay b0 b1 b2 b3 b4 _ _ _ hb (by simp [go_sem]) (by simp [go_sem]) (by simp [go_sem]) (by simp [go_sem]) (by simp [go_sem])).mono ?_
  rintro e w2 ⟨rfl, rfl⟩
  rw [h2]
  go_wp2_with fail
  refine (spec_in_yes _ _ _ _ h3.1 h3.2).mono ?_
  rintro e v1 ⟨rfl, rfl⟩
  go_wp2
  go_quiet (first
    | (go_at_call 67; exact Calls.quiet_of_same ((spec_min_hi _ _ _ hlt).mono fun _ _ hh => ⟨hh.1, hh.2.symm⟩))
    | (go_at_call 68; exact Calls.quiet_of_same ((spec_max_hi _ _ _ hlt).mono fun _ _ hh => ⟨hh.1, hh.2.symm⟩))
    | (go_at_call 66; exact Calls.quiet_of_same ((spec_in_yes _ _ _ _ h5.1 h5.2).mono fun _ _ hh => ⟨hh.1, hh.2.symm⟩)))
  go_wp2_with fail
  refine (spec_l02Size (s - b1) _ (by omega) (by omega)).mono ?_
  rintro e v3 ⟨rfl, rfl⟩
  rw [show ((s - b1).natAbs : Int) = (s - b1) from by omega]
  go_wp2_with fail
  refine (spec_l02Size (a1 - s) _ (by omega) (by omega)).mono ?_
  rintro e v3 ⟨rfl, rfl⟩
  rw [show ((a1 - s).natAbs : Int) = (a1 - s) from by omega]
  go_wp2_with fail
  refine (spec_l02Gcd (s - b1) (a1 - s) _ (by omega) (by omega) (by omega) (by omega)).mono ?_
  rintro e v4 ⟨rfl, rfl⟩
  rw [HG.out]
  go_wp2
  go_region
  go_wp2
  refine bodyPost_ret (v := .tuple #[.int .i64 ((s - b1) / G), .int .i64 ((a1 - s) / G), .int .i64 0]) ?_ rfl ⟨rfl, ?_⟩
  · simp [results, Try.results16, go_sem]
  · exact (below_drewN HB0.out _).drew
end Go.Proofs.Ytgobpleckeeheaa
