/-
  What is proved: the shrinkage, the lime and the price of a blend, of the program and of the reference. Conditions: lengths that fit.
-/
import Derived.Test.YtfjdhjbfingofaaGreatDoorMean
namespace Go.Proofs.YtfjdhjbfingofaaGreatDoor
open Go.RowKit
set_option linter.unusedVariables false

theorem fn_ShrinkOf (x0 : ByteArray) (x1 x2 x3 x4 : Int) (w : World) : Calls Tryz.prog 32 #[.agg #[.string x0, .int .i64 x1, .int .i64 x2, .int .i64 x3, .int .i64 x4]] w fun e w' => e = .returned (.int .i64 (valOf 0 ⟨x0, x1, x2, x3, x4⟩)) ∧ Below w.heap.size w w' := by
  go_enter Tryz.func32, Tryz.ntmps32
  go_wp2
  go_ret
  exact ⟨rfl, by go_grown⟩
theorem impl_ShrinkOf (A B : Option Addr) (n c m d : Nat) (zs : List Clay) (ps : List Int) (X Y K : Int) (w : World) (hX : mnum (valOf 0) zs ps = X) (hY : mden (valOf 0) zs ps = Y) (hK : scode zs ps = K) (hn : n ≤ 16777216) (hnc : n ≤ c) (hm : m ≤ 16777216) (hl : zs.length = n) (hl2 : ps.length = m) (ha : Row Clay.enc 5 w A zs) (hb : Row encI 1 w B ps) (hM : Names zs) :
    Calls Tryz.prog 6 #[.slice A n c, .slice B m d] w fun e w' => e = .returned (.tuple #[.agg #[.int .i64 X, .int .i64 Y], .int .i64 K]) ∧ Below w.heap.size w w' := by
  have HA := hide ha
  have HB := hide hb
  have HL := hide hl
  have HL2 := hide hl2
  have HM := hide hM
  have HX := hide hX
  have HY := hide hY
  have HK := hide hK
  clear ha hb hl hl2 hM hX hY hK
  go_enter Tryz.func6, Tryz.ntmps6
  have HB0 := hide ((Below.refl w.heap.size w).alloc (Nat.le_refl _) (.cells #[.int .i64 0, .int .i64 0] 29))
  go_wp2_with fail
  refine (impl_mean _ (valOf 0) (fun args w => by simp [go_sem]) fn_ShrinkOf (small_valOf 0) _ _ _ _ _ _ zs ps _ hn hnc hm HL.out HL2.out (HA.out.below HB0.out) (HB.out.below HB0.out) HM.out).mono ?_
  rintro e w1 ⟨rfl, hb1⟩
  rw [HX.out, HY.out, HK.out]
  have r0 := (hb1.cell (p := ⟨w.heap.size, 0, none⟩) (by simp)).trans (show _ = some (.int .i64 0) from by simp [go_sem])
  have r1 := (hb1.cell (p := ⟨w.heap.size, 1, none⟩) (by simp)).trans (show _ = some (.int .i64 0) from by simp [go_sem])
  have q0 := ((bcell hb1).2 w.heap.size 0 (by simp)).trans (show _ = false from by simp [go_sem])
  have q1 := ((bcell hb1).2 w.heap.size 1 (by simp)).trans (show _ = false from by simp [go_sem])
  have hz : w.heap.size < w1.heap.size := by have := hb1.size; simp at this; omega
  have HB1 := hide (HB0.out.trans (hb1.mono (by simp)))
  clear hb1
  go_wp2
  refine bodyPost_ret (v := .tuple #[.agg #[.int .i64 X, .int .i64 Y], .int .i64 K]) ?_ rfl ?_
  · simp [results, Tryz.results6, go_sem, r0, r1]
  · refine ⟨rfl, ?_⟩
    have BX := HB1.out
    go_grown
theorem spec_ShrinkOf (A B : Option Addr) (n c m d : Nat) (zs : List Clay) (ps : List Int) (X Y K : Int) (w : World) (hX : mnum (valOf 0) zs ps = X) (hY : mden (valOf 0) zs ps = Y) (hK : scode zs ps = K) (hn : n ≤ 16777216) (hnc : n ≤ c) (hm : m ≤ 16777216) (hl : zs.length = n) (hl2 : ps.length = m) (ha : Row Clay.enc 5 w A zs) (hb : Row encI 1 w B ps) (hM : Names zs) :
    Calls Tryz.prog 7 #[.slice A n c, .slice B m d] w fun e w' => e = .returned (.tuple #[.agg #[.int .i64 X, .int .i64 Y], .int .i64 K]) ∧ Below w.heap.size w w' := by
  have HA := hide ha
  have HB := hide hb
  have HL := hide hl
  have HL2 := hide hl2
  have HM := hide hM
  have HX := hide hX
  have HY := hide hY
  have HK := hide hK
  clear ha hb hl hl2 hM hX hY hK
  go_enter Tryz.func7, Tryz.ntmps7
  have HB0 := hide ((Below.refl w.heap.size w).alloc (Nat.le_refl _) (.cells #[.int .i64 0, .int .i64 0] 29))
  go_wp2_with fail
  refine (spec_mean 0 (by omega) _ _ _ _ _ _ zs ps _ hn hm HL.out HL2.out (HA.out.below HB0.out) (HB.out.below HB0.out) HM.out).mono ?_
  rintro e w1 ⟨rfl, hb1⟩
  rw [HX.out, HY.out, HK.out]
  have r0 := (hb1.cell (p := ⟨w.heap.size, 0, none⟩) (by simp)).trans (show _ = some (.int .i64 0) from by simp [go_sem])
  have r1 := (hb1.cell (p := ⟨w.heap.size, 1, none⟩) (by simp)).trans (show _ = some (.int .i64 0) from by simp [go_sem])
  have q0 := ((bcell hb1).2 w.heap.size 0 (by simp)).trans (show _ = false from by simp [go_sem])
  have q1 := ((bcell hb1).2 w.heap.size 1 (by simp)).trans (show _ = false from by simp [go_sem])
  have hz : w.heap.size < w1.heap.size := by have := hb1.size; simp at this; omega
  have HB1 := hide (HB0.out.trans (hb1.mono (by simp)))
  clear hb1
  go_wp2
  refine bodyPost_ret (v := .tuple #[.agg #[.int .i64 X, .int .i64 Y], .int .i64 K]) ?_ rfl ?_
  · simp [results, Tryz.results7, go_sem, r0, r1]
  · refine ⟨rfl, ?_⟩
    have BX := HB1.out
    go_grown
theorem fn_LimeOf (x0 : ByteArray) (x1 x2 x3 x4 : Int) (w : World) : Calls Tryz.prog 34 #[.agg #[.string x0, .int .i64 x1, .int .i64 x2, .int .i64 x3, .int .i64 x4]] w fun e w' => e = .returned (.int .i64 (valOf 1 ⟨x0, x1, x2, x3, x4⟩)) ∧ Below w.heap.size w w' := by
  go_enter Tryz.func34, Tryz.ntmps34
  go_wp2
  go_ret
  exact ⟨rfl, by go_grown⟩
theorem impl_LimeOf (A B : Option Addr) (n c m d : Nat) (zs : List Clay) (ps : List Int) (X Y K : Int) (w : World) (hX : mnum (valOf 1) zs ps = X) (hY : mden (valOf 1) zs ps = Y) (hK : scode zs ps = K) (hn : n ≤ 16777216) (hnc : n ≤ c) (hm : m ≤ 16777216) (hl : zs.length = n) (hl2 : ps.length = m) (ha : Row Clay.enc 5 w A zs) (hb : Row encI 1 w B ps) (hM : Names zs) :
    Calls Tryz.prog 8 #[.slice A n c, .slice B m d] w fun e w' => e = .returned (.tuple #[.agg #[.int .i64 X, .int .i64 Y], .int .i64 K]) ∧ Below w.heap.size w w' := by
  have HA := hide ha
  have HB := hide hb
  have HL := hide hl
  have HL2 := hide hl2
  have HM := hide hM
  have HX := hide hX
  have HY := hide hY
  have HK := hide hK
  clear ha hb hl hl2 hM hX hY hK
  go_enter Tryz.func8, Tryz.ntmps8
  have HB0 := hide ((Below.refl w.heap.size w).alloc (Nat.le_refl _) (.cells #[.int .i64 0, .int .i64 0] 29))
  go_wp2_with fail
  refine (impl_mean _ (valOf 1) (fun args w => by simp [go_sem]) fn_LimeOf (small_valOf 1) _ _ _ _ _ _ zs ps _ hn hnc hm HL.out HL2.out (HA.out.below HB0.out) (HB.out.below HB0.out) HM.out).mono ?_
  rintro e w1 ⟨rfl, hb1⟩
  rw [HX.out, HY.out, HK.out]
  have r0 := (hb1.cell (p := ⟨w.heap.size, 0, none⟩) (by simp)).trans (show _ = some (.int .i64 0) from by simp [go_sem])
  have r1 := (hb1.cell (p := ⟨w.heap.size, 1, none⟩) (by simp)).trans (show _ = some (.int .i64 0) from by simp [go_sem])
  have q0 := ((bcell hb1).2 w.heap.size 0 (by simp)).trans (show _ = false from by simp [go_sem])
  have q1 := ((bcell hb1).2 w.heap.size 1 (by simp)).trans (show _ = false from by simp [go_sem])
  have hz : w.heap.size < w1.heap.size := by have := hb1.size; simp at this; omega
  have HB1 := hide (HB0.out.trans (hb1.mono (by simp)))
  clear hb1
  go_wp2
  refine bodyPost_ret (v := .tuple #[.agg #[.int .i64 X, .int .i64 Y], .int .i64 K]) ?_ rfl ?_
  · simp [results, Tryz.results8, go_sem, r0, r1]
  · refine ⟨rfl, ?_⟩
    have BX := HB1.out
    go_grown
theorem spec_LimeOf (A B : Option Addr) (n c m d : Nat) (zs : List Clay) (ps : List Int) (X Y K : Int) (w : World) (hX : mnum (valOf 1) zs ps = X) (hY : mden (valOf 1) zs ps = Y) (hK : scode zs ps = K) (hn : n ≤ 16777216) (hnc : n ≤ c) (hm : m ≤ 16777216) (hl : zs.length = n) (hl2 : ps.length = m) (ha : Row Clay.enc 5 w A zs) (hb : Row encI 1 w B ps) (hM : Names zs) :
    Calls Tryz.prog 9 #[.slice A n c, .slice B m d] w fun e w' => e = .returned (.tuple #[.agg #[.int .i64 X, .int .i64 Y], .int .i64 K]) ∧ Below w.heap.size w w' := by
  have HA := hide ha
  have HB := hide hb
  have HL := hide hl
  have HL2 := hide hl2
  have HM := hide hM
  have HX := hide hX
  have HY := hide hY
  have HK := hide hK
  clear ha hb hl hl2 hM hX hY hK
  go_enter Tryz.func9, Tryz.ntmps9
  have HB0 := hide ((Below.refl w.heap.size w).alloc (Nat.le_refl _) (.cells #[.int .i64 0, .int .i64 0] 29))
  go_wp2_with fail
  refine (spec_mean 1 (by omega) _ _ _ _ _ _ zs ps _ hn hm HL.out HL2.out (HA.out.below HB0.out) (HB.out.below HB0.out) HM.out).mono ?_
  rintro e w1 ⟨rfl, hb1⟩
  rw [HX.out, HY.out, HK.out]
  have r0 := (hb1.cell (p := ⟨w.heap.size, 0, none⟩) (by simp)).trans (show _ = some (.int .i64 0) from by simp [go_sem])
  have r1 := (hb1.cell (p := ⟨w.heap.size, 1, none⟩) (by simp)).trans (show _ = some (.int .i64 0) from by simp [go_sem])
  have q0 := ((bcell hb1).2 w.heap.size 0 (by simp)).trans (show _ = false from by simp [go_sem])
  have q1 := ((bcell hb1).2 w.heap.size 1 (by simp)).trans (show _ = false from by simp [go_sem])
  have hz : w.heap.size < w1.heap.size := by have := hb1.size; simp at this; omega
  have HB1 := hide (HB0.out.trans (hb1.mono (by simp)))
  clear hb1
  go_wp2
  refine bodyPost_ret (v := .tuple #[.agg #[.int .i64 X, .int .i64 Y], .int .i64 K]) ?_ rfl ?_
  · simp [results, Tryz.results9, go_sem, r0, r1]
  · refine ⟨rfl, ?_⟩
    have BX := HB1.out
    go_grown
theorem fn_BlendPrice (x0 : ByteArray) (x1 x2 x3 x4 : Int) (w : World) : Calls Tryz.prog 35 #[.agg #[.string x0, .int .i64 x1, .int .i64 x2, .int .i64 x3, .int .i64 x4]] w fun e w' => e = .returned (.int .i64 (valOf 3 ⟨x0, x1, x2, x3, x4⟩)) ∧ Below w.heap.size w w' := by
  go_enter Tryz.func35, Tryz.ntmps35
  go_wp2
  go_ret
  exact ⟨rfl, by go_grown⟩
theorem impl_BlendPrice (A B : Option Addr) (n c m d : Nat) (zs : List Clay) (ps : List Int) (X Y K : Int) (w : World) (hX : mnum (valOf 3) zs ps = X) (hY : mden (valOf 3) zs ps = Y) (hK : scode zs ps = K) (hn : n ≤ 16777216) (hnc : n ≤ c) (hm : m ≤ 16777216) (hl : zs.length = n) (hl2 : ps.length = m) (ha : Row Clay.enc 5 w A zs) (hb : Row encI 1 w B ps) (hM : Names zs) :
    Calls Tryz.prog 10 #[.slice A n c, .slice B m d] w fun e w' => e = .returned (.tuple #[.agg #[.int .i64 X, .int .i64 Y], .int .i64 K]) ∧ Below w.heap.size w w' := by
  have HA := hide ha
  have HB := hide hb
  have HL := hide hl
  have HL2 := hide hl2
  have HM := hide hM
  have HX := hide hX
  have HY := hide hY
  have HK := hide hK
  clear ha hb hl hl2 hM hX hY hK
  go_enter Tryz.func10, Tryz.ntmps10
  have HB0 := hide ((Below.refl w.heap.size w).alloc (Nat.le_refl _) (.cells #[.int .i64 0, .int .i64 0] 29))
  go_wp2_with fail
  refine (impl_mean _ (valOf 3) (fun args w => by simp [go_sem]) fn_BlendPrice (small_valOf 3) _ _ _ _ _ _ zs ps _ hn hnc hm HL.out HL2.out (HA.out.below HB0.out) (HB.out.below HB0.out) HM.out).mono ?_
  rintro e w1 ⟨rfl, hb1⟩
  rw [HX.out, HY.out, HK.out]
  have r0 := (hb1.cell (p := ⟨w.heap.size, 0, none⟩) (by simp)).trans (show _ = some (.int .i64 0) from by simp [go_sem])
  have r1 := (hb1.cell (p := ⟨w.heap.size, 1, none⟩) (by simp)).trans (show _ = some (.int .i64 0) from by simp [go_sem])
  have q0 := ((bcell hb1).2 w.heap.size 0 (by simp)).trans (show _ = false from by simp [go_sem])
  have q1 := ((bcell hb1).2 w.heap.size 1 (by simp)).trans (show _ = false from by simp [go_sem])
  have hz : w.heap.size < w1.heap.size := by have := hb1.size; simp at this; omega
  have HB1 := hide (HB0.out.trans (hb1.mono (by simp)))
  clear hb1
  go_wp2
  refine bodyPost_ret (v := .tuple #[.agg #[.int .i64 X, .int .i64 Y], .int .i64 K]) ?_ rfl ?_
  · simp [results, Tryz.results10, go_sem, r0, r1]
  · refine ⟨rfl, ?_⟩
    have BX := HB1.out
    go_grown
theorem spec_BlendPrice (A B : Option Addr) (n c m d : Nat) (zs : List Clay) (ps : List Int) (X Y K : Int) (w : World) (hX : mnum (valOf 3) zs ps = X) (hY : mden (valOf 3) zs ps = Y) (hK : scode zs ps = K) (hn : n ≤ 16777216) (hnc : n ≤ c) (hm : m ≤ 16777216) (hl : zs.length = n) (hl2 : ps.length = m) (ha : Row Clay.enc 5 w A zs) (hb : Row encI 1 w B ps) (hM : Names zs) :
    Calls Tryz.prog 11 #[.slice A n c, .slice B m d] w fun e w' => e = .returned (.tuple #[.agg #[.int .i64 X, .int .i64 Y], .int .i64 K]) ∧ Below w.heap.size w w' := by
  have HA := hide ha
  have HB := hide hb
  have HL := hide hl
  have HL2 := hide hl2
  have HM := hide hM
  have HX := hide hX
  have HY := hide hY
  have HK := hide hK
  clear ha hb hl hl2 hM hX hY hK
  go_enter Tryz.func11, Tryz.ntmps11
  have HB0 := hide ((Below.refl w.heap.size w).alloc (Nat.le_refl _) (.cells #[.int .i64 0, .int .i64 0] 29))
  go_wp2_with fail
  refine (spec_mean 3 (by omega) _ _ _ _ _ _ zs ps _ hn hm HL.out HL2.out (HA.out.below HB0.out) (HB.out.below HB0.out) HM.out).mono ?_
  rintro e w1 ⟨rfl, hb1⟩
  rw [HX.out, HY.out, HK.out]
  have r0 := (hb1.cell (p := ⟨w.heap.size, 0, none⟩) (by simp)).trans (show _ = some (.int .i64 0) from by simp [go_sem])
  have r1 := (hb1.cell (p := ⟨w.heap.size, 1, none⟩) (by simp)).trans (show _ = some (.int .i64 0) from by simp [go_sem])
  have q0 := ((bcell hb1).2 w.heap.size 0 (by simp)).trans (show _ = false from by simp [go_sem])
  have q1 := ((bcell hb1).2 w.heap.size 1 (by simp)).trans (show _ = false from by simp [go_sem])
  have hz : w.heap.size < w1.heap.size := by have := hb1.size; simp at this; omega
  have HB1 := hide (HB0.out.trans (hb1.mono (by simp)))
  clear hb1
  go_wp2
  refine bodyPost_ret (v := .tuple #[.agg #[.int .i64 X, .int .i64 Y], .int .i64 K]) ?_ rfl ?_
  · simp [results, Tryz.results11, go_sem, r0, r1]
  · refine ⟨rfl, ?_⟩
    have BX := HB1.out
    go_grown
end Go.Proofs.YtfjdhjbfingofaaGreatDoor
