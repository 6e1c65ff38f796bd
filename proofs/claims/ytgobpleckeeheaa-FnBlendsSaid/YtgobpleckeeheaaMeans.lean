/-
  What is proved: the shrinkage, the lime and the price of a blend, of the program and of the reference. Conditions: lengths that fit.
-/
import Derived.Test.YtgobpleckeeheaaMean
namespace Go.Proofs.Ytgobpleckeeheaa
open Go.RowKit
set_option linter.unusedVariables false

theorem fn_BlendPrice (x0 : ByteArray) (x1 x2 x3 x4 : Int) (w : World) : Calls Try.prog 72 #[.agg #[.string x0, .int .i64 x1, .int .i64 x2, .int .i64 x3, .int .i64 x4]] w fun e w' => e = .returned (.int .i64 (valOf 3 ⟨x0, x1, x2, x3, x4⟩)) ∧ Below w.heap.size w w' := by
  go_enter Try.func72, Try.ntmps72
  go_wp2
  go_ret
  exact ⟨rfl, by go_grown⟩
theorem impl_BlendPrice (A B : Option Addr) (n c m d : Nat) (zs : List Clay) (ps : List Int) (X Y K : Int) (w : World) (hX : mnum (valOf 3) zs ps = X) (hY : mden (valOf 3) zs ps = Y) (hK : scode zs ps = K) (hn : n ≤ 16777216) (hnc : n ≤ c) (hm : m ≤ 16777216) (hl : zs.length = n) (hl2 : ps.length = m) (ha : Row Clay.enc 5 w A zs) (hb : Row encI 1 w B ps) (hM : Names zs) :
    Calls Try.prog 18 #[.slice A n c, .slice B m d] w fun e w' => e = .returned (.tuple #[.agg #[.int .i64 X, .int .i64 Y], .int .i64 K]) ∧ Below w.heap.size w w' := by
  have HA := hide ha
  have HB := hide hb
  have HL := hide hl
  have HL2 := hide hl2
  have HM := hide hM
  have HX := hide hX
  have HY := hide hY
  have HK := hide hK
  clear ha hb hl hl2 hM hX hY hK
  go_enter Try.func18, Try.ntmps18
  have HB0 := hide ((Below.refl w.heap.size w).alloc (Nat.le_refl _) (.cells #[.int .i64 0, .int .i64 0] 46))
  go_wp2_with fail
  refine (impl_mean _ (valOf 3) (fun args w => by simp [go_sem]) fn_BlendPrice (small_valOf 3) _ _ _ _ _ _ zs ps _ hn hnc hm HL.out HL2.out (HA.out.below HB0.out) (HB.out.below HB0.out) HM.out).mono ?_
  rintro e w1 ⟨rfl, hb1⟩
  rw [HX.out, HY.out, HK.out]
  have r0 := (hb1.cell (p := ⟨w.heap.size, 0, none⟩) (by simp)).trans (show _ = some (.int .i64 0) from by simp [go_sem])
  have r1 := (hb1.cell (p := ⟨w.heap.size, 1, none⟩) (by simp)).trans (show _ = some (.int .i64 0) from by simp [go_sem])
  have q0 := ((bcell hb1).2 w.heap.size 0 (by simp)).trans (show _ = false from by simp [go_sem])
  have q1 := ((bcell hb1).2 w.heap.size 1 (by simp)).trans (show _ = false from by simp [go_sem])
  have hz : w.heap.size < w1.heap.size := by have := hb1.size; simp at this; omega
  have HB1 := hide (HB0.out.trans (hb1.mono (by simp)))
  clear hb1
  go_wp2
  refine bodyPost_ret (v := .tuple #[.agg #[.int .i64 X, .int .i64 Y], .int .i64 K]) ?_ rfl ?_
  · simp [results, Try.results18, go_sem, r0, r1]
  · refine ⟨rfl, ?_⟩
    have BX := HB1.out
    go_grown
end Go.Proofs.Ytgobpleckeeheaa
