/-
  What is proved: the law FnExactReadClay returns true and changes nothing that was there, for every text. Conditions: the library's own variables hold what they are laid with.
-/
import Derived.Test.YtjoepnmmcagggaaDoorReadClayS4
namespace Go.Proofs.YtjoepnmmcagggaaDoor
open Go.RowKit
set_option linter.unusedVariables false

def zeroClay : Clay := ⟨⟨#[]⟩, 0, 0, 0, 0⟩
theorem clay_val {o : Option Clay} {w w' : World} {e : Ending} (h : ClayPost o w e w') : ∃ b, b = o.isSome ∧ e = .returned (.tuple #[.agg #[.string (o.getD zeroClay).n, .int .i64 (o.getD zeroClay).s, .int .i64 (o.getD zeroClay).l, .int .i64 (o.getD zeroClay).d, .int .i64 (o.getD zeroClay).p], .bool b]) ∧ Below w.heap.size w w' := by
  obtain ⟨hb, ⟨rfl, rfl⟩ | ⟨n, s, l, d, p, rfl, rfl⟩⟩ := h
  · exact ⟨_, rfl, rfl, hb⟩
  · exact ⟨_, rfl, rfl, hb⟩
set_option maxHeartbeats 1000000 in
theorem fnExactReadClayWalk (s : ByteArray) (w : World) (ws : s.size ≤ maxLen) (hT : Pow10 w ∧ ErrSyn w ∧ MaxLenIs w) :
    Calls Tryd.prog 9 #[.string s] w fun e w' => e = .returned (.bool true) ∧ Below w.heap.size w w' := by
  have hMz : 3 < w.heap.size := by obtain ⟨m, hm⟩ := hT.2.2; exact cell_lt hm
  have HP := hide hT.1
  have HY := hide hT.2.1
  have HM := hide hT.2.2
  clear hT
  by_cases h : 1048576 < s.size
  · have hd : decide (1048576 < (s.size : Int)) = true := by simp; omega
    go_enter Tryd.func9, Tryd.ntmps9
    go_wp2
    go_ret
    exact ⟨rfl, Below.refl _ _⟩
  have hd : decide (1048576 < (s.size : Int)) = false := by simp; omega
  have hs : s.size ≤ 1048576 := by omega
  obtain ⟨nn, hnn⟩ : ∃ x, ((clyL s.data.toList).getD zeroClay).n = x := ⟨_, rfl⟩
  have HNNV := hide hnn
  clear hnn
  obtain ⟨x, hx⟩ : ∃ x, ((clyL s.data.toList).getD zeroClay).s = x := ⟨_, rfl⟩
  have HXV := hide hx
  clear hx
  obtain ⟨y, hy⟩ : ∃ x, ((clyL s.data.toList).getD zeroClay).l = x := ⟨_, rfl⟩
  have HYV := hide hy
  clear hy
  obtain ⟨z, hz⟩ : ∃ x, ((clyL s.data.toList).getD zeroClay).d = x := ⟨_, rfl⟩
  have HZV := hide hz
  clear hz
  obtain ⟨j, hj⟩ : ∃ x, ((clyL s.data.toList).getD zeroClay).p = x := ⟨_, rfl⟩
  have HJV := hide hj
  clear hj
  obtain ⟨o, ho⟩ : ∃ x, (clyL s.data.toList).isSome = x := ⟨_, rfl⟩
  have HO := hide ho
  clear ho h ws
  have B0 := hide (Below.refl w.heap.size w)
  go_enter Tryd.func9, Tryd.ntmps9
  go_wp2_with fail
  refine (spec_readClay s _ hs).mono ?_
  intro e w1 hq
  obtain ⟨b, hb0, rfl, hb1⟩ := clay_val hq
  rw [HO.out] at hb0
  replace hb0 := hb0.symm
  subst hb0
  rw [HNNV.out, HXV.out, HYV.out, HZV.out, HJV.out]
  have B1 := hide hb1
  obtain ⟨u2, hu2⟩ : ∃ u, w1.alloc (.cells #[.string nn, .int .i64 x, .int .i64 y, .int .i64 z, .int .i64 j] 28) = u := ⟨_, rfl⟩
  have B2 := hide (show Below w.heap.size w u2 from by rw [← hu2]; exact B1.out.alloc B1.out.size _)
  have f0 : u2.cell? ⟨w1.heap.size, 0, none⟩ = some (.string nn) := by rw [← hu2]; simp [go_sem]
  have f1 : u2.cell? ⟨w1.heap.size, 1, none⟩ = some (.int .i64 x) := by rw [← hu2]; simp [go_sem]
  have f2 : u2.cell? ⟨w1.heap.size, 2, none⟩ = some (.int .i64 y) := by rw [← hu2]; simp [go_sem]
  have f3 : u2.cell? ⟨w1.heap.size, 3, none⟩ = some (.int .i64 z) := by rw [← hu2]; simp [go_sem]
  have f4 : u2.cell? ⟨w1.heap.size, 4, none⟩ = some (.int .i64 j) := by rw [← hu2]; simp [go_sem]
  have e2 : w1.heap.size < u2.heap.size := by rw [← hu2]; simp
  have HU2 := hide hu2
  clear hu2 hb1 hq
  go_wp2_with fail
  rw [HU2.out]
  refine (impl_readClay s _ hs (HM.out.below hMz B2.out) (HP.out.below B2.out) (HY.out.below B2.out)).mono ?_
  intro e w3 hq
  obtain ⟨b, hb0, rfl, hb3⟩ := clay_val hq
  rw [HO.out] at hb0
  replace hb0 := hb0.symm
  subst hb0
  rw [HNNV.out, HXV.out, HYV.out, HZV.out, HJV.out]
  have B3 := hide (B2.out.trans (hb3.mono B2.out.size))
  replace f0 := (hb3.cell (p := ⟨w1.heap.size, 0, none⟩) e2).trans f0
  replace f1 := (hb3.cell (p := ⟨w1.heap.size, 1, none⟩) e2).trans f1
  replace f2 := (hb3.cell (p := ⟨w1.heap.size, 2, none⟩) e2).trans f2
  replace f3 := (hb3.cell (p := ⟨w1.heap.size, 3, none⟩) e2).trans f3
  replace f4 := (hb3.cell (p := ⟨w1.heap.size, 4, none⟩) e2).trans f4
  have e3 : w1.heap.size < w3.heap.size := Nat.lt_of_lt_of_le e2 hb3.size
  have ne3 : w1.heap.size ≠ w3.heap.size := by omega
  clear hb3 hq
  go_wp2_with fail
  refine (eqClay_same nn x y z j _).mono ?_
  rintro e w4 ⟨rfl, hb4⟩
  have B4 := hide ((B3.out.alloc B3.out.size _).trans (hb4.mono (by have := B3.out.size; simp; omega)))
  clear hb4
  cases o
  all_goals
    go_wp2
    go_ret
    exact ⟨rfl, B4.out⟩
end Go.Proofs.YtjoepnmmcagggaaDoor
