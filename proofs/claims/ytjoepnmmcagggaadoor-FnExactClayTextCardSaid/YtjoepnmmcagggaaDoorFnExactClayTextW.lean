/-
  What is proved: the law FnExactClayText returns true and changes nothing that was there, for every clay. Condition: the library's own table holds what its initialiser lays.
-/
import Derived.Test.YtjoepnmmcagggaaDoorClayT
import Derived.Test.YtjoepnmmcagggaaDoorClayM
import Derived.Test.YtjoepnmmcagggaaDoorAgg5
namespace Go.Proofs.YtjoepnmmcagggaaDoor
open Go.RowKit
set_option linter.unusedVariables false

set_option maxHeartbeats 1000000 in
theorem fnExactClayTextWalk (x0 : ByteArray) (x1 x2 x3 x4 : Int) (w : World) (w0 : x0.size ≤ maxLen) (w1 : (Lit.int .i64 x1).wf = true) (w2 : (Lit.int .i64 x2).wf = true) (w3 : (Lit.int .i64 x3).wf = true) (w4 : (Lit.int .i64 x4).wf = true) (hp : Pow10 w) :
    Calls Tryd.prog 4 #[.agg #[.string x0, .int .i64 x1, .int .i64 x2, .int .i64 x3, .int .i64 x4]] w fun e w' => e = .returned (.bool true) ∧ Below w.heap.size w w' := by
  have HP := hide hp
  clear w1 w2 w3 w4 hp
  obtain ⟨v, hv⟩ : ∃ v, clayT ⟨x0, x1, x2, x3, x4⟩ = v := ⟨_, rfl⟩
  have HV := hide hv
  have hne : (v.toList != v.toList) = false := by simp
  have HB0 := hide ((Below.refl w.heap.size w).alloc (Nat.le_refl _) (.cells #[.string x0, .int .i64 x1, .int .i64 x2, .int .i64 x3, .int .i64 x4] 25))
  clear hv
  go_enter Tryd.func4, Tryd.ntmps4
  go_wp2_with fail
  refine (szClay_ok x0 x1 x2 x3 x4 1048576 _ (by omega) (by omega) w0).mono ?_
  rintro e u1 ⟨⟨t, rfl, ht⟩, hb⟩
  have q0 := (hb.cell (p := ⟨w.heap.size, 0, none⟩) (by simp)).trans (show _ = some (.string x0) from by simp [go_sem])
  have q1 := (hb.cell (p := ⟨w.heap.size, 1, none⟩) (by simp)).trans (show _ = some (.int .i64 x1) from by simp [go_sem])
  have q2 := (hb.cell (p := ⟨w.heap.size, 2, none⟩) (by simp)).trans (show _ = some (.int .i64 x2) from by simp [go_sem])
  have q3 := (hb.cell (p := ⟨w.heap.size, 3, none⟩) (by simp)).trans (show _ = some (.int .i64 x3) from by simp [go_sem])
  have q4 := (hb.cell (p := ⟨w.heap.size, 4, none⟩) (by simp)).trans (show _ = some (.int .i64 x4) from by simp [go_sem])
  have hz : w.heap.size < u1.heap.size := by have := hb.size; simp at this; omega
  have HB1 := hide (HB0.out.trans (hb.mono (by simp)))
  clear hb
  rcases ht with rfl | ⟨h1, h2⟩
  · go_wp2
    go_ret
    exact ⟨rfl, HB1.out⟩
  have hd : decide (t < 0) = false := by simp; omega
  go_wp2_with fail
  refine (toClay_ok x0 x1 x2 x3 x4 _).mono ?_
  rintro e u2 ⟨rfl, hb⟩
  replace q0 := (hb.cell (p := ⟨w.heap.size, 0, none⟩) hz).trans q0
  replace q1 := (hb.cell (p := ⟨w.heap.size, 1, none⟩) hz).trans q1
  replace q2 := (hb.cell (p := ⟨w.heap.size, 2, none⟩) hz).trans q2
  replace q3 := (hb.cell (p := ⟨w.heap.size, 3, none⟩) hz).trans q3
  replace q4 := (hb.cell (p := ⟨w.heap.size, 4, none⟩) hz).trans q4
  replace hz : w.heap.size < u2.heap.size := Nat.lt_of_lt_of_le hz hb.size
  have HB2 := hide (HB1.out.trans (hb.mono HB1.out.size))
  clear hb
  go_wp2_with fail
  refine (spec_clayText x0 x1 x2 x3 x4 _ w0).mono ?_
  rintro e u3 ⟨rfl, hb⟩
  rw [HV.out]
  replace q0 := (hb.cell (p := ⟨w.heap.size, 0, none⟩) hz).trans q0
  replace q1 := (hb.cell (p := ⟨w.heap.size, 1, none⟩) hz).trans q1
  replace q2 := (hb.cell (p := ⟨w.heap.size, 2, none⟩) hz).trans q2
  replace q3 := (hb.cell (p := ⟨w.heap.size, 3, none⟩) hz).trans q3
  replace q4 := (hb.cell (p := ⟨w.heap.size, 4, none⟩) hz).trans q4
  replace hz : w.heap.size < u3.heap.size := Nat.lt_of_lt_of_le hz hb.size
  have HB3 := hide (HB2.out.trans (hb.mono HB2.out.size))
  clear hb
  go_wp2_with fail
  refine (toClay_ok x0 x1 x2 x3 x4 _).mono ?_
  rintro e u4 ⟨rfl, hb⟩
  replace q0 := (hb.cell (p := ⟨w.heap.size, 0, none⟩) hz).trans q0
  replace q1 := (hb.cell (p := ⟨w.heap.size, 1, none⟩) hz).trans q1
  replace q2 := (hb.cell (p := ⟨w.heap.size, 2, none⟩) hz).trans q2
  replace q3 := (hb.cell (p := ⟨w.heap.size, 3, none⟩) hz).trans q3
  replace q4 := (hb.cell (p := ⟨w.heap.size, 4, none⟩) hz).trans q4
  replace hz : w.heap.size < u4.heap.size := Nat.lt_of_lt_of_le hz hb.size
  have HB4 := hide (HB3.out.trans (hb.mono HB3.out.size))
  clear hb
  go_wp2_with fail
  refine (impl_clayText x0 x1 x2 x3 x4 _ w0 (HP.out.below HB4.out)).mono ?_
  rintro e u5 ⟨rfl, hb⟩
  rw [HV.out]
  replace q0 := (hb.cell (p := ⟨w.heap.size, 0, none⟩) hz).trans q0
  replace q1 := (hb.cell (p := ⟨w.heap.size, 1, none⟩) hz).trans q1
  replace q2 := (hb.cell (p := ⟨w.heap.size, 2, none⟩) hz).trans q2
  replace q3 := (hb.cell (p := ⟨w.heap.size, 3, none⟩) hz).trans q3
  replace q4 := (hb.cell (p := ⟨w.heap.size, 4, none⟩) hz).trans q4
  replace hz : w.heap.size < u5.heap.size := Nat.lt_of_lt_of_le hz hb.size
  have HB5 := hide (HB4.out.trans (hb.mono HB4.out.size))
  clear hb
  go_wp2
  go_ret
  exact ⟨rfl, HB5.out⟩
end Go.Proofs.YtjoepnmmcagggaaDoor
