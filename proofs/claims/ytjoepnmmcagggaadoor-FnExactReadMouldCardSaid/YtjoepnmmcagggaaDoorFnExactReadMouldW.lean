/-
  What is proved: the law FnExactReadMould returns true and changes nothing that was there, for every text. Conditions: the library's own variables hold what they are laid with.
-/
import Derived.Test.YtjoepnmmcagggaaDoorReadFS
namespace Go.Proofs.YtjoepnmmcagggaaDoor
open Go.RowKit
set_option linter.unusedVariables false

theorem quad_val {o : Option (Int × Int × Int × Int)} {w w' : World} {e : Ending} (h : QuadPost o w e w') : ∃ b, b = o.isSome ∧ e = .returned (.tuple #[.agg #[.int .i64 (o.getD (0, 0, 0, 0)).1, .int .i64 (o.getD (0, 0, 0, 0)).2.1, .int .i64 (o.getD (0, 0, 0, 0)).2.2.1, .int .i64 (o.getD (0, 0, 0, 0)).2.2.2], .bool b]) ∧ Below w.heap.size w w' := by
  obtain ⟨hb, ⟨rfl, rfl⟩ | ⟨x, y, z, j, rfl, rfl⟩⟩ := h
  · exact ⟨_, rfl, rfl, hb⟩
  · exact ⟨_, rfl, rfl, hb⟩
set_option maxHeartbeats 1000000 in
theorem fnExactReadMouldWalk (s : ByteArray) (w : World) (ws : s.size ≤ maxLen) (hT : Pow10 w ∧ ErrSyn w ∧ MaxLenIs w) :
    Calls Tryd.prog 11 #[.string s] w fun e w' => e = .returned (.bool true) ∧ Below w.heap.size w w' := by
  have hMz : 3 < w.heap.size := by obtain ⟨m, hm⟩ := hT.2.2; exact cell_lt hm
  have HP := hide hT.1
  have HY := hide hT.2.1
  have HM := hide hT.2.2
  clear hT
  by_cases h : 1048576 < s.size
  · have hd : decide (1048576 < (s.size : Int)) = true := by simp; omega
    go_enter Tryd.func11, Tryd.ntmps11
    go_wp2
    go_ret
    exact ⟨rfl, Below.refl _ _⟩
  have hd : decide (1048576 < (s.size : Int)) = false := by simp; omega
  have hs : s.size ≤ 1048576 := by omega
  obtain ⟨x, hx⟩ : ∃ x, ((mldL s.data.toList).getD (0, 0, 0, 0)).1 = x := ⟨_, rfl⟩
  obtain ⟨y, hy⟩ : ∃ x, ((mldL s.data.toList).getD (0, 0, 0, 0)).2.1 = x := ⟨_, rfl⟩
  obtain ⟨z, hz⟩ : ∃ x, ((mldL s.data.toList).getD (0, 0, 0, 0)).2.2.1 = x := ⟨_, rfl⟩
  obtain ⟨j, hj⟩ : ∃ x, ((mldL s.data.toList).getD (0, 0, 0, 0)).2.2.2 = x := ⟨_, rfl⟩
  obtain ⟨o, ho⟩ : ∃ x, (mldL s.data.toList).isSome = x := ⟨_, rfl⟩
  have HX := hide hx
  have HYY := hide hy
  have HZ := hide hz
  have HJ := hide hj
  have HO := hide ho
  clear hx hy hz hj ho h ws
  have B0 := hide (Below.refl w.heap.size w)
  go_enter Tryd.func11, Tryd.ntmps11
  go_wp2_with fail
  refine (spec_readMould s _ hs).mono ?_
  intro e w1 hq
  obtain ⟨b, hb0, rfl, hb1⟩ := quad_val hq
  rw [HO.out] at hb0
  replace hb0 := hb0.symm
  subst hb0
  rw [HX.out, HYY.out, HZ.out, HJ.out]
  have B1 := hide hb1
  obtain ⟨u2, hu2⟩ : ∃ u, w1.alloc (.cells #[.int .i64 x, .int .i64 y, .int .i64 z, .int .i64 j] 40) = u := ⟨_, rfl⟩
  have B2 := hide (show Below w.heap.size w u2 from by rw [← hu2]; exact B1.out.alloc B1.out.size _)
  have f0 : u2.cell? ⟨w1.heap.size, 0, none⟩ = some (.int .i64 x) := by rw [← hu2]; simp [go_sem]
  have f1 : u2.cell? ⟨w1.heap.size, 1, none⟩ = some (.int .i64 y) := by rw [← hu2]; simp [go_sem]
  have f2 : u2.cell? ⟨w1.heap.size, 2, none⟩ = some (.int .i64 z) := by rw [← hu2]; simp [go_sem]
  have f3 : u2.cell? ⟨w1.heap.size, 3, none⟩ = some (.int .i64 j) := by rw [← hu2]; simp [go_sem]
  have e2 : w1.heap.size < u2.heap.size := by rw [← hu2]; simp
  have HU2 := hide hu2
  clear hu2 hb1 hq
  go_wp2_with fail
  rw [HU2.out]
  refine (impl_readMould s _ (by omega) (HM.out.below hMz B2.out) (HP.out.below B2.out) (HY.out.below B2.out)).mono ?_
  intro e w3 hq
  obtain ⟨b, hb0, rfl, hb3⟩ := quad_val hq
  rw [HO.out] at hb0
  replace hb0 := hb0.symm
  subst hb0
  rw [HX.out, HYY.out, HZ.out, HJ.out]
  have B3 := hide (B2.out.trans (hb3.mono B2.out.size))
  replace f0 := (hb3.cell (p := ⟨w1.heap.size, 0, none⟩) e2).trans f0
  replace f1 := (hb3.cell (p := ⟨w1.heap.size, 1, none⟩) e2).trans f1
  replace f2 := (hb3.cell (p := ⟨w1.heap.size, 2, none⟩) e2).trans f2
  replace f3 := (hb3.cell (p := ⟨w1.heap.size, 3, none⟩) e2).trans f3
  have e3 : w1.heap.size < w3.heap.size := Nat.lt_of_lt_of_le e2 hb3.size
  have ne3 : w1.heap.size ≠ w3.heap.size := by omega
  clear hb3 hq
  go_wp2_with fail
  refine (eqMould_same x y z j _).mono ?_
  rintro e w4 ⟨rfl, hb4⟩
  have B4 := hide ((B3.out.alloc B3.out.size _).trans (hb4.mono (by have := B3.out.size; simp; omega)))
  clear hb4
  cases o
  all_goals
    go_wp2
    go_ret
    exact ⟨rfl, B4.out⟩
end Go.Proofs.YtjoepnmmcagggaaDoor
