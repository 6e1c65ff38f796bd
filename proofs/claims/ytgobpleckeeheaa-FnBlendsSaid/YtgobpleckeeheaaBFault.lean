/-
  What is proved: the first limit that a blend does not keep, of the program and of the reference. Conditions: valid clays, parts and limits.
-/
import Derived.Test.YtgobpleckeeheaaBLim
import Derived.Deep.RegionWith
namespace Go.Proofs.Ytgobpleckeeheaa
open Go.RowKit
set_option linter.unusedVariables false

theorem lim_mul {a S : Int} (ha : 0 ≤ a ∧ a ≤ 1000) (hS : 0 ≤ S ∧ S ≤ 6000) : 0 ≤ a * S ∧ a * S ≤ 6000000 :=
  ⟨Int.mul_nonneg ha.1 hS.1, Int.le_trans (Int.mul_le_mul ha.2 hS.2 hS.1 (by omega)) (by omega)⟩
theorem fn_fault1 (x0 : ByteArray) (x1 x2 x3 x4 : Int) (w : World) : Calls Try.prog 96 #[.agg #[.string x0, .int .i64 x1, .int .i64 x2, .int .i64 x3, .int .i64 x4]] w fun e w' => e = .returned (.int .i64 (valOf 0 ⟨x0, x1, x2, x3, x4⟩)) ∧ Below w.heap.size w w' := by
  go_enter Try.func96, Try.ntmps96
  go_wp2
  go_ret
  exact ⟨rfl, by go_grown⟩
theorem fn_fault2 (x0 : ByteArray) (x1 x2 x3 x4 : Int) (w : World) : Calls Try.prog 97 #[.agg #[.string x0, .int .i64 x1, .int .i64 x2, .int .i64 x3, .int .i64 x4]] w fun e w' => e = .returned (.int .i64 (valOf 1 ⟨x0, x1, x2, x3, x4⟩)) ∧ Below w.heap.size w w' := by
  go_enter Try.func97, Try.ntmps97
  go_wp2
  go_ret
  exact ⟨rfl, by go_grown⟩
theorem fn_fault3 (x0 : ByteArray) (x1 x2 x3 x4 : Int) (w : World) : Calls Try.prog 98 #[.agg #[.string x0, .int .i64 x1, .int .i64 x2, .int .i64 x3, .int .i64 x4]] w fun e w' => e = .returned (.int .i64 (valOf 2 ⟨x0, x1, x2, x3, x4⟩)) ∧ Below w.heap.size w w' := by
  go_enter Try.func98, Try.ntmps98
  go_wp2
  go_ret
  exact ⟨rfl, by go_grown⟩
set_option maxRecDepth 100000 in
set_option maxHeartbeats 2000000 in
theorem impl_fault_0 (A B : Option Addr) (n c d : Nat) (zs : List Clay) (ps : List Int) (l h m s : Int) (S t0 t1 t2 : Int) (w : World) (hn : n ≤ 6) (hl : zs.length = n) (hl2 : ps.length = n) (ha : Row Clay.enc 5 w A zs) (hb : Row encI 1 w B ps) (hz : claysOk zs = true) (hp : partsIn ps = true) (hx : LimOk l h m s) (hS : sumK ps n = S) (h0 : totK (valOf 0) zs ps n = t0) (h1 : totK (valOf 1) zs ps n = t1) (h2 : totK (valOf 2) zs ps n = t2) (c0 : t0 < l * S) :
    Calls Try.prog 53 #[.slice A n c, .slice B n d, .agg #[.int .i64 l, .int .i64 h, .int .i64 m, .int .i64 s]] w fun e w' => e = .returned (.string ⟨#[108, 105, 116, 116, 108, 101]⟩) ∧ Below w.heap.size w w' := by
  have bS := sumK_in hp n
  have b0 := totK_in (small_valOf 0) hz hp n
  have b1 := totK_in (small_valOf 1) hz hp n
  have b2 := totK_in (small_valOf 2) hz hp n
  rw [hS] at bS
  rw [h0] at b0
  rw [h1] at b1
  rw [h2] at b2
  obtain ⟨x1, x2, x3, x4, x5⟩ := hx
  have m0 := lim_mul (a := l) (S := S) ⟨by omega, by omega⟩ ⟨by omega, by omega⟩
  have m1 := lim_mul (a := h) (S := S) ⟨by omega, by omega⟩ ⟨by omega, by omega⟩
  have m2 := lim_mul (a := m) (S := S) ⟨by omega, by omega⟩ ⟨by omega, by omega⟩
  have m3 := lim_mul (a := s) (S := S) ⟨by omega, by omega⟩ ⟨by omega, by omega⟩
  have v0 := Go.IntWalk.i64_in (l * S) ⟨by omega, by omega⟩
  have v1 := Go.IntWalk.i64_in (h * S) ⟨by omega, by omega⟩
  have v2 := Go.IntWalk.i64_in (m * S) ⟨by omega, by omega⟩
  have v3 := Go.IntWalk.i64_in (s * S) ⟨by omega, by omega⟩
  clear m0 m1 m2 m3 bS b0 b1 b2 x1 x2 x3 x4 x5
  have HA := hide ha
  have HB := hide hb
  have HL := hide hl
  have HL2 := hide hl2
  have HS := hide hS
  have H0 := hide h0
  have H1 := hide h1
  have H2 := hide h2
  clear ha hb hl hl2 hS h0 h1 h2
  go_enter Try.func53, Try.ntmps53
  have HB0 := hide ((Below.refl w.heap.size w).alloc (Nat.le_refl _) (.cells #[.int .i64 l, .int .i64 h, .int .i64 m, .int .i64 s] 26))
  go_wp2_with fail
  refine (impl_sumOf _ _ _ ps _ (by omega) HL2.out (HB.out.below HB0.out) hp).mono ?_
  rintro e w1 ⟨rfl, rfl⟩
  rw [HS.out]
  go_wp2_with fail
  refine (impl_blended 96 (valOf 0) (fun args w => by simp [go_sem]) fn_fault1 (small_valOf 0) _ _ _ _ _ zs ps _ hn HL.out HL2.out (HA.out.below HB0.out) (HB.out.below HB0.out) hz hp).mono ?_
  rintro e w2 ⟨rfl, hb2⟩
  rw [H0.out]
  have r0 := (hb2.cell (p := ⟨w.heap.size, 0, none⟩) (by simp)).trans (show _ = some (.int .i64 l) from by simp [go_sem])
  have r1 := (hb2.cell (p := ⟨w.heap.size, 1, none⟩) (by simp)).trans (show _ = some (.int .i64 h) from by simp [go_sem])
  have r2 := (hb2.cell (p := ⟨w.heap.size, 2, none⟩) (by simp)).trans (show _ = some (.int .i64 m) from by simp [go_sem])
  have r3 := (hb2.cell (p := ⟨w.heap.size, 3, none⟩) (by simp)).trans (show _ = some (.int .i64 s) from by simp [go_sem])
  have hz2 : w.heap.size < w2.heap.size := by have := hb2.size; simp at this; omega
  have HB2 := hide (HB0.out.trans (hb2.mono (by simp)))
  clear hb2
  go_wp2
  go_ret
  exact ⟨rfl, HB2.out⟩
set_option maxRecDepth 100000 in
set_option maxHeartbeats 2000000 in
theorem impl_fault_1 (A B : Option Addr) (n c d : Nat) (zs : List Clay) (ps : List Int) (l h m s : Int) (S t0 t1 t2 : Int) (w : World) (hn : n ≤ 6) (hl : zs.length = n) (hl2 : ps.length = n) (ha : Row Clay.enc 5 w A zs) (hb : Row encI 1 w B ps) (hz : claysOk zs = true) (hp : partsIn ps = true) (hx : LimOk l h m s) (hS : sumK ps n = S) (h0 : totK (valOf 0) zs ps n = t0) (h1 : totK (valOf 1) zs ps n = t1) (h2 : totK (valOf 2) zs ps n = t2) (c0 : ¬ (t0 < l * S)) (c1 : h * S < t0) :
    Calls Try.prog 53 #[.slice A n c, .slice B n d, .agg #[.int .i64 l, .int .i64 h, .int .i64 m, .int .i64 s]] w fun e w' => e = .returned (.string ⟨#[109, 117, 99, 104]⟩) ∧ Below w.heap.size w w' := by
  have bS := sumK_in hp n
  have b0 := totK_in (small_valOf 0) hz hp n
  have b1 := totK_in (small_valOf 1) hz hp n
  have b2 := totK_in (small_valOf 2) hz hp n
  rw [hS] at bS
  rw [h0] at b0
  rw [h1] at b1
  rw [h2] at b2
  obtain ⟨x1, x2, x3, x4, x5⟩ := hx
  have m0 := lim_mul (a := l) (S := S) ⟨by omega, by omega⟩ ⟨by omega, by omega⟩
  have m1 := lim_mul (a := h) (S := S) ⟨by omega, by omega⟩ ⟨by omega, by omega⟩
  have m2 := lim_mul (a := m) (S := S) ⟨by omega, by omega⟩ ⟨by omega, by omega⟩
  have m3 := lim_mul (a := s) (S := S) ⟨by omega, by omega⟩ ⟨by omega, by omega⟩
  have v0 := Go.IntWalk.i64_in (l * S) ⟨by omega, by omega⟩
  have v1 := Go.IntWalk.i64_in (h * S) ⟨by omega, by omega⟩
  have v2 := Go.IntWalk.i64_in (m * S) ⟨by omega, by omega⟩
  have v3 := Go.IntWalk.i64_in (s * S) ⟨by omega, by omega⟩
  clear m0 m1 m2 m3 bS b0 b1 b2 x1 x2 x3 x4 x5
  have HA := hide ha
  have HB := hide hb
  have HL := hide hl
  have HL2 := hide hl2
  have HS := hide hS
  have H0 := hide h0
  have H1 := hide h1
  have H2 := hide h2
  clear ha hb hl hl2 hS h0 h1 h2
  go_enter Try.func53, Try.ntmps53
  have HB0 := hide ((Below.refl w.heap.size w).alloc (Nat.le_refl _) (.cells #[.int .i64 l, .int .i64 h, .int .i64 m, .int .i64 s] 26))
  go_wp2_with fail
  refine (impl_sumOf _ _ _ ps _ (by omega) HL2.out (HB.out.below HB0.out) hp).mono ?_
  rintro e w1 ⟨rfl, rfl⟩
  rw [HS.out]
  go_wp2_with fail
  refine (impl_blended 96 (valOf 0) (fun args w => by simp [go_sem]) fn_fault1 (small_valOf 0) _ _ _ _ _ zs ps _ hn HL.out HL2.out (HA.out.below HB0.out) (HB.out.below HB0.out) hz hp).mono ?_
  rintro e w2 ⟨rfl, hb2⟩
  rw [H0.out]
  have r0 := (hb2.cell (p := ⟨w.heap.size, 0, none⟩) (by simp)).trans (show _ = some (.int .i64 l) from by simp [go_sem])
  have r1 := (hb2.cell (p := ⟨w.heap.size, 1, none⟩) (by simp)).trans (show _ = some (.int .i64 h) from by simp [go_sem])
  have r2 := (hb2.cell (p := ⟨w.heap.size, 2, none⟩) (by simp)).trans (show _ = some (.int .i64 m) from by simp [go_sem])
  have r3 := (hb2.cell (p := ⟨w.heap.size, 3, none⟩) (by simp)).trans (show _ = some (.int .i64 s) from by simp [go_sem])
  have hz2 : w.heap.size < w2.heap.size := by have := hb2.size; simp at this; omega
  have HB2 := hide (HB0.out.trans (hb2.mono (by simp)))
  clear hb2
  go_wp2
  go_ret
  exact ⟨rfl, HB2.out⟩
set_option maxRecDepth 100000 in
set_option maxHeartbeats 2000000 in
theorem impl_fault_2 (A B : Option Addr) (n c d : Nat) (zs : List Clay) (ps : List Int) (l h m s : Int) (S t0 t1 t2 : Int) (w : World) (hn : n ≤ 6) (hl : zs.length = n) (hl2 : ps.length = n) (ha : Row Clay.enc 5 w A zs) (hb : Row encI 1 w B ps) (hz : claysOk zs = true) (hp : partsIn ps = true) (hx : LimOk l h m s) (hS : sumK ps n = S) (h0 : totK (valOf 0) zs ps n = t0) (h1 : totK (valOf 1) zs ps n = t1) (h2 : totK (valOf 2) zs ps n = t2) (c0 : ¬ (t0 < l * S)) (c1 : ¬ (h * S < t0)) (c2 : m * S < t1) :
    Calls Try.prog 53 #[.slice A n c, .slice B n d, .agg #[.int .i64 l, .int .i64 h, .int .i64 m, .int .i64 s]] w fun e w' => e = .returned (.string ⟨#[108, 105, 109, 101]⟩) ∧ Below w.heap.size w w' := by
  have bS := sumK_in hp n
  have b0 := totK_in (small_valOf 0) hz hp n
  have b1 := totK_in (small_valOf 1) hz hp n
  have b2 := totK_in (small_valOf 2) hz hp n
  rw [hS] at bS
  rw [h0] at b0
  rw [h1] at b1
  rw [h2] at b2
  obtain ⟨x1, x2, x3, x4, x5⟩ := hx
  have m0 := lim_mul (a := l) (S := S) ⟨by omega, by omega⟩ ⟨by omega, by omega⟩
  have m1 := lim_mul (a := h) (S := S) ⟨by omega, by omega⟩ ⟨by omega, by omega⟩
  have m2 := lim_mul (a := m) (S := S) ⟨by omega, by omega⟩ ⟨by omega, by omega⟩
  have m3 := lim_mul (a := s) (S := S) ⟨by omega, by omega⟩ ⟨by omega, by omega⟩
  have v0 := Go.IntWalk.i64_in (l * S) ⟨by omega, by omega⟩
  have v1 := Go.IntWalk.i64_in (h * S) ⟨by omega, by omega⟩
  have v2 := Go.IntWalk.i64_in (m * S) ⟨by omega, by omega⟩
  have v3 := Go.IntWalk.i64_in (s * S) ⟨by omega, by omega⟩
  clear m0 m1 m2 m3 bS b0 b1 b2 x1 x2 x3 x4 x5
  have HA := hide ha
  have HB := hide hb
  have HL := hide hl
  have HL2 := hide hl2
  have HS := hide hS
  have H0 := hide h0
  have H1 := hide h1
  have H2 := hide h2
  clear ha hb hl hl2 hS h0 h1 h2
  go_enter Try.func53, Try.ntmps53
  have HB0 := hide ((Below.refl w.heap.size w).alloc (Nat.le_refl _) (.cells #[.int .i64 l, .int .i64 h, .int .i64 m, .int .i64 s] 26))
  go_wp2_with fail
  refine (impl_sumOf _ _ _ ps _ (by omega) HL2.out (HB.out.below HB0.out) hp).mono ?_
  rintro e w1 ⟨rfl, rfl⟩
  rw [HS.out]
  go_wp2_with fail
  refine (impl_blended 96 (valOf 0) (fun args w => by simp [go_sem]) fn_fault1 (small_valOf 0) _ _ _ _ _ zs ps _ hn HL.out HL2.out (HA.out.below HB0.out) (HB.out.below HB0.out) hz hp).mono ?_
  rintro e w2 ⟨rfl, hb2⟩
  rw [H0.out]
  have r0 := (hb2.cell (p := ⟨w.heap.size, 0, none⟩) (by simp)).trans (show _ = some (.int .i64 l) from by simp [go_sem])
  have r1 := (hb2.cell (p := ⟨w.heap.size, 1, none⟩) (by simp)).trans (show _ = some (.int .i64 h) from by simp [go_sem])
  have r2 := (hb2.cell (p := ⟨w.heap.size, 2, none⟩) (by simp)).trans (show _ = some (.int .i64 m) from by simp [go_sem])
  have r3 := (hb2.cell (p := ⟨w.heap.size, 3, none⟩) (by simp)).trans (show _ = some (.int .i64 s) from by simp [go_sem])
  have hz2 : w.heap.size < w2.heap.size := by have := hb2.size; simp at this; omega
  have HB2 := hide (HB0.out.trans (hb2.mono (by simp)))
  clear hb2
  go_wp2
  go_region_with (go_at_call 42
                  refine (impl_blended 97 (valOf 1) (fun args w => by simp [go_sem]) fn_fault2 (small_valOf 1) _ _ _ _ _ zs ps _ hn HL.out HL2.out (HA.out.below HB2.out.drew) (HB.out.below HB2.out.drew) hz hp).mono ?_
                  rintro e w3 ⟨rfl, hb3⟩
                  rw [H1.out]
                  replace r0 := (hb3.cell (p := ⟨w.heap.size, 0, none⟩) hz2).trans r0
                  replace r1 := (hb3.cell (p := ⟨w.heap.size, 1, none⟩) hz2).trans r1
                  replace r2 := (hb3.cell (p := ⟨w.heap.size, 2, none⟩) hz2).trans r2
                  replace r3 := (hb3.cell (p := ⟨w.heap.size, 3, none⟩) hz2).trans r3
                  have hz3 : w.heap.size < w3.heap.size := Nat.lt_of_lt_of_le hz2 hb3.size
                  have HB3 := hide (HB2.out.drew.trans (hb3.mono HB2.out.size))
                  clear hb3)
  all_goals
    go_wp2
    go_ret
    exact ⟨rfl, HB3.out⟩
set_option maxRecDepth 100000 in
set_option maxHeartbeats 2000000 in
theorem impl_fault_3 (A B : Option Addr) (n c d : Nat) (zs : List Clay) (ps : List Int) (l h m s : Int) (S t0 t1 t2 : Int) (w : World) (hn : n ≤ 6) (hl : zs.length = n) (hl2 : ps.length = n) (ha : Row Clay.enc 5 w A zs) (hb : Row encI 1 w B ps) (hz : claysOk zs = true) (hp : partsIn ps = true) (hx : LimOk l h m s) (hS : sumK ps n = S) (h0 : totK (valOf 0) zs ps n = t0) (h1 : totK (valOf 1) zs ps n = t1) (h2 : totK (valOf 2) zs ps n = t2) (c0 : ¬ (t0 < l * S)) (c1 : ¬ (h * S < t0)) (c2 : ¬ (m * S < t1)) (c3 : s * S < t2) :
    Calls Try.prog 53 #[.slice A n c, .slice B n d, .agg #[.int .i64 l, .int .i64 h, .int .i64 m, .int .i64 s]] w fun e w' => e = .returned (.string ⟨#[115, 97, 110, 100]⟩) ∧ Below w.heap.size w w' := by
  have bS := sumK_in hp n
  have b0 := totK_in (small_valOf 0) hz hp n
  have b1 := totK_in (small_valOf 1) hz hp n
  have b2 := totK_in (small_valOf 2) hz hp n
  rw [hS] at bS
  rw [h0] at b0
  rw [h1] at b1
  rw [h2] at b2
  obtain ⟨x1, x2, x3, x4, x5⟩ := hx
  have m0 := lim_mul (a := l) (S := S) ⟨by omega, by omega⟩ ⟨by omega, by omega⟩
  have m1 := lim_mul (a := h) (S := S) ⟨by omega, by omega⟩ ⟨by omega, by omega⟩
  have m2 := lim_mul (a := m) (S := S) ⟨by omega, by omega⟩ ⟨by omega, by omega⟩
  have m3 := lim_mul (a := s) (S := S) ⟨by omega, by omega⟩ ⟨by omega, by omega⟩
  have v0 := Go.IntWalk.i64_in (l * S) ⟨by omega, by omega⟩
  have v1 := Go.IntWalk.i64_in (h * S) ⟨by omega, by omega⟩
  have v2 := Go.IntWalk.i64_in (m * S) ⟨by omega, by omega⟩
  have v3 := Go.IntWalk.i64_in (s * S) ⟨by omega, by omega⟩
  clear m0 m1 m2 m3 bS b0 b1 b2 x1 x2 x3 x4 x5
  have HA := hide ha
  have HB := hide hb
  have HL := hide hl
  have HL2 := hide hl2
  have HS := hide hS
  have H0 := hide h0
  have H1 := hide h1
  have H2 := hide h2
  clear ha hb hl hl2 hS h0 h1 h2
  go_enter Try.func53, Try.ntmps53
  have HB0 := hide ((Below.refl w.heap.size w).alloc (Nat.le_refl _) (.cells #[.int .i64 l, .int .i64 h, .int .i64 m, .int .i64 s] 26))
  go_wp2_with fail
  refine (impl_sumOf _ _ _ ps _ (by omega) HL2.out (HB.out.below HB0.out) hp).mono ?_
  rintro e w1 ⟨rfl, rfl⟩
  rw [HS.out]
  go_wp2_with fail
  refine (impl_blended 96 (valOf 0) (fun args w => by simp [go_sem]) fn_fault1 (small_valOf 0) _ _ _ _ _ zs ps _ hn HL.out HL2.out (HA.out.below HB0.out) (HB.out.below HB0.out) hz hp).mono ?_
  rintro e w2 ⟨rfl, hb2⟩
  rw [H0.out]
  have r0 := (hb2.cell (p := ⟨w.heap.size, 0, none⟩) (by simp)).trans (show _ = some (.int .i64 l) from by simp [go_sem])
  have r1 := (hb2.cell (p := ⟨w.heap.size, 1, none⟩) (by simp)).trans (show _ = some (.int .i64 h) from by simp [go_sem])
  have r2 := (hb2.cell (p := ⟨w.heap.size, 2, none⟩) (by simp)).trans (show _ = some (.int .i64 m) from by simp [go_sem])
  have r3 := (hb2.cell (p := ⟨w.heap.size, 3, none⟩) (by simp)).trans (show _ = some (.int .i64 s) from by simp [go_sem])
  have hz2 : w.heap.size < w2.heap.size := by have := hb2.size; simp at this; omega
  have HB2 := hide (HB0.out.trans (hb2.mono (by simp)))
  clear hb2
  go_wp2
  go_region_with (go_at_call 42
                  refine (impl_blended 97 (valOf 1) (fun args w => by simp [go_sem]) fn_fault2 (small_valOf 1) _ _ _ _ _ zs ps _ hn HL.out HL2.out (HA.out.below HB2.out.drew) (HB.out.below HB2.out.drew) hz hp).mono ?_
                  rintro e w3 ⟨rfl, hb3⟩
                  rw [H1.out]
                  replace r0 := (hb3.cell (p := ⟨w.heap.size, 0, none⟩) hz2).trans r0
                  replace r1 := (hb3.cell (p := ⟨w.heap.size, 1, none⟩) hz2).trans r1
                  replace r2 := (hb3.cell (p := ⟨w.heap.size, 2, none⟩) hz2).trans r2
                  replace r3 := (hb3.cell (p := ⟨w.heap.size, 3, none⟩) hz2).trans r3
                  have hz3 : w.heap.size < w3.heap.size := Nat.lt_of_lt_of_le hz2 hb3.size
                  have HB3 := hide (HB2.out.drew.trans (hb3.mono HB2.out.size))
                  clear hb3)
  all_goals
    go_wp2
    go_region_with (go_at_call 42
                    refine (impl_blended 98 (valOf 2) (fun args w => by simp [go_sem]) fn_fault3 (small_valOf 2) _ _ _ _ _ zs ps _ hn HL.out HL2.out (HA.out.below HB3.out.drew) (HB.out.below HB3.out.drew) hz hp).mono ?_
                    rintro e w4 ⟨rfl, hb4⟩
                    rw [H2.out]
                    replace r0 := (hb4.cell (p := ⟨w.heap.size, 0, none⟩) hz3).trans r0
                    replace r1 := (hb4.cell (p := ⟨w.heap.size, 1, none⟩) hz3).trans r1
                    replace r2 := (hb4.cell (p := ⟨w.heap.size, 2, none⟩) hz3).trans r2
                    replace r3 := (hb4.cell (p := ⟨w.heap.size, 3, none⟩) hz3).trans r3
                    have hz4 : w.heap.size < w4.heap.size := Nat.lt_of_lt_of_le hz3 hb4.size
                    have HB4 := hide (HB3.out.drew.trans (hb4.mono HB3.out.size))
                    clear hb4)
    all_goals
      go_wp2
      go_ret
      exact ⟨rfl, HB4.out⟩
set_option maxRecDepth 100000 in
set_option maxHeartbeats 2000000 in
theorem impl_fault_4 (A B : Option Addr) (n c d : Nat) (zs : List Clay) (ps : List Int) (l h m s : Int) (S t0 t1 t2 : Int) (w : World) (hn : n ≤ 6) (hl : zs.length = n) (hl2 : ps.length = n) (ha : Row Clay.enc 5 w A zs) (hb : Row encI 1 w B ps) (hz : claysOk zs = true) (hp : partsIn ps = true) (hx : LimOk l h m s) (hS : sumK ps n = S) (h0 : totK (valOf 0) zs ps n = t0) (h1 : totK (valOf 1) zs ps n = t1) (h2 : totK (valOf 2) zs ps n = t2) (c0 : ¬ (t0 < l * S)) (c1 : ¬ (h * S < t0)) (c2 : ¬ (m * S < t1)) (c3 : ¬ (s * S < t2)) :
    Calls Try.prog 53 #[.slice A n c, .slice B n d, .agg #[.int .i64 l, .int .i64 h, .int .i64 m, .int .i64 s]] w fun e w' => e = .returned (.string ⟨#[110, 111, 110, 101]⟩) ∧ Below w.heap.size w w' := by
  have bS := sumK_in hp n
  have b0 := totK_in (small_valOf 0) hz hp n
  have b1 := totK_in (small_valOf 1) hz hp n
  have b2 := totK_in (small_valOf 2) hz hp n
  rw [hS] at bS
  rw [h0] at b0
  rw [h1] at b1
  rw [h2] at b2
  obtain ⟨x1, x2, x3, x4, x5⟩ := hx
  have m0 := lim_mul (a := l) (S := S) ⟨by omega, by omega⟩ ⟨by omega, by omega⟩
  have m1 := lim_mul (a := h) (S := S) ⟨by omega, by omega⟩ ⟨by omega, by omega⟩
  have m2 := lim_mul (a := m) (S := S) ⟨by omega, by omega⟩ ⟨by omega, by omega⟩
  have m3 := lim_mul (a := s) (S := S) ⟨by omega, by omega⟩ ⟨by omega, by omega⟩
  have v0 := Go.IntWalk.i64_in (l * S) ⟨by omega, by omega⟩
  have v1 := Go.IntWalk.i64_in (h * S) ⟨by omega, by omega⟩
  have v2 := Go.IntWalk.i64_in (m * S) ⟨by omega, by omega⟩
  have v3 := Go.IntWalk.i64_in (s * S) ⟨by omega, by omega⟩
  clear m0 m1 m2 m3 bS b0 b1 b2 x1 x2 x3 x4 x5
  have HA := hide ha
  have HB := hide hb
  have HL := hide hl
  have HL2 := hide hl2
  have HS := hide hS
  have H0 := hide h0
  have H1 := hide h1
  have H2 := hide h2
  clear ha hb hl hl2 hS h0 h1 h2
  go_enter Try.func53, Try.ntmps53
  have HB0 := hide ((Below.refl w.heap.size w).alloc (Nat.le_refl _) (.cells #[.int .i64 l, .int .i64 h, .int .i64 m, .int .i64 s] 26))
  go_wp2_with fail
  refine (impl_sumOf _ _ _ ps _ (by omega) HL2.out (HB.out.below HB0.out) hp).mono ?_
  rintro e w1 ⟨rfl, rfl⟩
  rw [HS.out]
  go_wp2_with fail
  refine (impl_blended 96 (valOf 0) (fun args w => by simp [go_sem]) fn_fault1 (small_valOf 0) _ _ _ _ _ zs ps _ hn HL.out HL2.out (HA.out.below HB0.out) (HB.out.below HB0.out) hz hp).mono ?_
  rintro e w2 ⟨rfl, hb2⟩
  rw [H0.out]
  have r0 := (hb2.cell (p := ⟨w.heap.size, 0, none⟩) (by simp)).trans (show _ = some (.int .i64 l) from by simp [go_sem])
  have r1 := (hb2.cell (p := ⟨w.heap.size, 1, none⟩) (by simp)).trans (show _ = some (.int .i64 h) from by simp [go_sem])
  have r2 := (hb2.cell (p := ⟨w.heap.size, 2, none⟩) (by simp)).trans (show _ = some (.int .i64 m) from by simp [go_sem])
  have r3 := (hb2.cell (p := ⟨w.heap.size, 3, none⟩) (by simp)).trans (show _ = some (.int .i64 s) from by simp [go_sem])
  have hz2 : w.heap.size < w2.heap.size := by have := hb2.size; simp at this; omega
  have HB2 := hide (HB0.out.trans (hb2.mono (by simp)))
  clear hb2
  go_wp2
  go_region_with (go_at_call 42
                  refine (impl_blended 97 (valOf 1) (fun args w => by simp [go_sem]) fn_fault2 (small_valOf 1) _ _ _ _ _ zs ps _ hn HL.out HL2.out (HA.out.below HB2.out.drew) (HB.out.below HB2.out.drew) hz hp).mono ?_
                  rintro e w3 ⟨rfl, hb3⟩
                  rw [H1.out]
                  replace r0 := (hb3.cell (p := ⟨w.heap.size, 0, none⟩) hz2).trans r0
                  replace r1 := (hb3.cell (p := ⟨w.heap.size, 1, none⟩) hz2).trans r1
                  replace r2 := (hb3.cell (p := ⟨w.heap.size, 2, none⟩) hz2).trans r2
                  replace r3 := (hb3.cell (p := ⟨w.heap.size, 3, none⟩) hz2).trans r3
                  have hz3 : w.heap.size < w3.heap.size := Nat.lt_of_lt_of_le hz2 hb3.size
                  have HB3 := hide (HB2.out.drew.trans (hb3.mono HB2.out.size))
                  clear hb3)
  all_goals
    go_wp2
    go_region_with (go_at_call 42
                    refine (impl_blended 98 (valOf 2) (fun args w => by simp [go_sem]) fn_fault3 (small_valOf 2) _ _ _ _ _ zs ps _ hn HL.out HL2.out (HA.out.below HB3.out.drew) (HB.out.below HB3.out.drew) hz hp).mono ?_
                    rintro e w4 ⟨rfl, hb4⟩
                    rw [H2.out]
                    replace r0 := (hb4.cell (p := ⟨w.heap.size, 0, none⟩) hz3).trans r0
                    replace r1 := (hb4.cell (p := ⟨w.heap.size, 1, none⟩) hz3).trans r1
                    replace r2 := (hb4.cell (p := ⟨w.heap.size, 2, none⟩) hz3).trans r2
                    replace r3 := (hb4.cell (p := ⟨w.heap.size, 3, none⟩) hz3).trans r3
                    have hz4 : w.heap.size < w4.heap.size := Nat.lt_of_lt_of_le hz3 hb4.size
                    have HB4 := hide (HB3.out.drew.trans (hb4.mono HB3.out.size))
                    clear hb4)
    all_goals
      go_wp2
      go_ret
      exact ⟨rfl, HB4.out⟩
theorem impl_fault (A B : Option Addr) (n c d : Nat) (zs : List Clay) (ps : List Int) (l h m s : Int) (w : World) (hn : n ≤ 6) (hl : zs.length = n) (hl2 : ps.length = n) (ha : Row Clay.enc 5 w A zs) (hb : Row encI 1 w B ps) (hz : claysOk zs = true) (hp : partsIn ps = true) (hx : LimOk l h m s) :
    Calls Try.prog 53 #[.slice A n c, .slice B n d, .agg #[.int .i64 l, .int .i64 h, .int .i64 m, .int .i64 s]] w fun e w' => e = .returned (.string (bfault zs ps l h m s)) ∧ Below w.heap.size w w' := by
  unfold bfault
  rw [hl2]
  by_cases c0 : totK (valOf 0) zs ps n < l * sumK ps n
  · rw [if_pos c0]
    exact impl_fault_0 A B n c d zs ps l h m s _ _ _ _ w hn hl hl2 ha hb hz hp hx rfl rfl rfl rfl c0
  rw [if_neg c0]
  by_cases c1 : h * sumK ps n < totK (valOf 0) zs ps n
  · rw [if_pos c1]
    exact impl_fault_1 A B n c d zs ps l h m s _ _ _ _ w hn hl hl2 ha hb hz hp hx rfl rfl rfl rfl c0 c1
  rw [if_neg c1]
  by_cases c2 : m * sumK ps n < totK (valOf 1) zs ps n
  · rw [if_pos c2]
    exact impl_fault_2 A B n c d zs ps l h m s _ _ _ _ w hn hl hl2 ha hb hz hp hx rfl rfl rfl rfl c0 c1 c2
  rw [if_neg c2]
  by_cases c3 : s * sumK ps n < totK (valOf 2) zs ps n
  · rw [if_pos c3]
    exact impl_fault_3 A B n c d zs ps l h m s _ _ _ _ w hn hl hl2 ha hb hz hp hx rfl rfl rfl rfl c0 c1 c2 c3
  rw [if_neg c3]
  exact impl_fault_4 A B n c d zs ps l h m s _ _ _ _ w hn hl hl2 ha hb hz hp hx rfl rfl rfl rfl c0 c1 c2 c3
set_option maxRecDepth 100000 in
set_option maxHeartbeats 2000000 in
theorem spec_fault_0 (A B : Option Addr) (n c d : Nat) (zs : List Clay) (ps : List Int) (l h m s : Int) (g : Nat) (S t0 t1 t2 : Int) (w : World) (hn : n ≤ 6) (hl : zs.length = n) (hl2 : ps.length = n) (ha : Row Clay.enc 5 w A zs) (hb : Row encI 1 w B ps) (hz : claysOk zs = true) (hp : partsIn ps = true) (hx : LimOk l h m s) (hS : sumK ps n = S) (h0 : totK (valOf 0) zs ps n = t0) (h1 : totK (valOf 1) zs ps n = t1) (h2 : totK (valOf 2) zs ps n = t2) (hg : g < w.heap.size) (r0 : w.cell? ⟨g, 0, none⟩ = some (.int .i64 l)) (r1 : w.cell? ⟨g, 1, none⟩ = some (.int .i64 h)) (r2 : w.cell? ⟨g, 2, none⟩ = some (.int .i64 m)) (r3 : w.cell? ⟨g, 3, none⟩ = some (.int .i64 s)) (c0 : t0 < l * S) :
    Calls Try.prog 56 #[.slice A n c, .slice B n d, .pointer (some ⟨g, 0, none⟩)] w fun e w' => e = .returned (.string ⟨#[108, 105, 116, 116, 108, 101]⟩) ∧ Below w.heap.size w w' := by
  have bS := sumK_in hp n
  have b0 := totK_in (small_valOf 0) hz hp n
  have b1 := totK_in (small_valOf 1) hz hp n
  have b2 := totK_in (small_valOf 2) hz hp n
  rw [hS] at bS
  rw [h0] at b0
  rw [h1] at b1
  rw [h2] at b2
  obtain ⟨x1, x2, x3, x4, x5⟩ := hx
  have m0 := lim_mul (a := l) (S := S) ⟨by omega, by omega⟩ ⟨by omega, by omega⟩
  have m1 := lim_mul (a := h) (S := S) ⟨by omega, by omega⟩ ⟨by omega, by omega⟩
  have m2 := lim_mul (a := m) (S := S) ⟨by omega, by omega⟩ ⟨by omega, by omega⟩
  have m3 := lim_mul (a := s) (S := S) ⟨by omega, by omega⟩ ⟨by omega, by omega⟩
  have v0 := Go.IntWalk.i64_in (l * S) ⟨by omega, by omega⟩
  have v1 := Go.IntWalk.i64_in (h * S) ⟨by omega, by omega⟩
  have v2 := Go.IntWalk.i64_in (m * S) ⟨by omega, by omega⟩
  have v3 := Go.IntWalk.i64_in (s * S) ⟨by omega, by omega⟩
  clear m0 m1 m2 m3 bS b0 b1 b2 x1 x2 x3 x4 x5
  have HA := hide ha
  have HB := hide hb
  have HL := hide hl
  have HL2 := hide hl2
  have HS := hide hS
  have H0 := hide h0
  have H1 := hide h1
  have H2 := hide h2
  clear ha hb hl hl2 hS h0 h1 h2
  go_enter Try.func56, Try.ntmps56
  have HB0 := hide (Below.refl w.heap.size w)
  go_wp2_with fail
  refine (spec_l03Sum _ _ _ ps _ (by omega) HL2.out HB.out).mono ?_
  rintro e w1 ⟨rfl, rfl⟩
  rw [lsum_yes _ hp, HS.out]
  go_wp2_with fail
  refine (spec_l03Total 0 (by omega) _ _ _ _ _ zs ps _ hn HL.out HL2.out (HA.out.below HB0.out) (HB.out.below HB0.out) hz hp).mono ?_
  rintro e w2 ⟨rfl, hb2⟩
  rw [H0.out]
  replace r0 := (hb2.cell (p := ⟨g, 0, none⟩) hg).trans r0
  replace r1 := (hb2.cell (p := ⟨g, 1, none⟩) hg).trans r1
  replace r2 := (hb2.cell (p := ⟨g, 2, none⟩) hg).trans r2
  replace r3 := (hb2.cell (p := ⟨g, 3, none⟩) hg).trans r3
  have hz2 : g < w2.heap.size := by have := hb2.size; omega
  have HB2 := hide hb2
  clear hb2
  go_wp2
  go_ret
  exact ⟨rfl, HB2.out⟩
set_option maxRecDepth 100000 in
set_option maxHeartbeats 2000000 in
theorem spec_fault_1 (A B : Option Addr) (n c d : Nat) (zs : List Clay) (ps : List Int) (l h m s : Int) (g : Nat) (S t0 t1 t2 : Int) (w : World) (hn : n ≤ 6) (hl : zs.length = n) (hl2 : ps.length = n) (ha : Row Clay.enc 5 w A zs) (hb : Row encI 1 w B ps) (hz : claysOk zs = true) (hp : partsIn ps = true) (hx : LimOk l h m s) (hS : sumK ps n = S) (h0 : totK (valOf 0) zs ps n = t0) (h1 : totK (valOf 1) zs ps n = t1) (h2 : totK (valOf 2) zs ps n = t2) (hg : g < w.heap.size) (r0 : w.cell? ⟨g, 0, none⟩ = some (.int .i64 l)) (r1 : w.cell? ⟨g, 1, none⟩ = some (.int .i64 h)) (r2 : w.cell? ⟨g, 2, none⟩ = some (.int .i64 m)) (r3 : w.cell? ⟨g, 3, none⟩ = some (.int .i64 s)) (c0 : ¬ (t0 < l * S)) (c1 : h * S < t0) :
    Calls Try.prog 56 #[.slice A n c, .slice B n d, .pointer (some ⟨g, 0, none⟩)] w fun e w' => e = .returned (.string ⟨#[109, 117, 99, 104]⟩) ∧ Below w.heap.size w w' := by
  have bS := sumK_in hp n
  have b0 := totK_in (small_valOf 0) hz hp n
  have b1 := totK_in (small_valOf 1) hz hp n
  have b2 := totK_in (small_valOf 2) hz hp n
  rw [hS] at bS
  rw [h0] at b0
  rw [h1] at b1
  rw [h2] at b2
  obtain ⟨x1, x2, x3, x4, x5⟩ := hx
  have m0 := lim_mul (a := l) (S := S) ⟨by omega, by omega⟩ ⟨by omega, by omega⟩
  have m1 := lim_mul (a := h) (S := S) ⟨by omega, by omega⟩ ⟨by omega, by omega⟩
  have m2 := lim_mul (a := m) (S := S) ⟨by omega, by omega⟩ ⟨by omega, by omega⟩
  have m3 := lim_mul (a := s) (S := S) ⟨by omega, by omega⟩ ⟨by omega, by omega⟩
  have v0 := Go.IntWalk.i64_in (l * S) ⟨by omega, by omega⟩
  have v1 := Go.IntWalk.i64_in (h * S) ⟨by omega, by omega⟩
  have v2 := Go.IntWalk.i64_in (m * S) ⟨by omega, by omega⟩
  have v3 := Go.IntWalk.i64_in (s * S) ⟨by omega, by omega⟩
  clear m0 m1 m2 m3 bS b0 b1 b2 x1 x2 x3 x4 x5
  have HA := hide ha
  have HB := hide hb
  have HL := hide hl
  have HL2 := hide hl2
  have HS := hide hS
  have H0 := hide h0
  have H1 := hide h1
  have H2 := hide h2
  clear ha hb hl hl2 hS h0 h1 h2
  go_enter Try.func56, Try.ntmps56
  have HB0 := hide (Below.refl w.heap.size w)
  go_wp2_with fail
  refine (spec_l03Sum _ _ _ ps _ (by omega) HL2.out HB.out).mono ?_
  rintro e w1 ⟨rfl, rfl⟩
  rw [lsum_yes _ hp, HS.out]
  go_wp2_with fail
  refine (spec_l03Total 0 (by omega) _ _ _ _ _ zs ps _ hn HL.out HL2.out (HA.out.below HB0.out) (HB.out.below HB0.out) hz hp).mono ?_
  rintro e w2 ⟨rfl, hb2⟩
  rw [H0.out]
  replace r0 := (hb2.cell (p := ⟨g, 0, none⟩) hg).trans r0
  replace r1 := (hb2.cell (p := ⟨g, 1, none⟩) hg).trans r1
  replace r2 := (hb2.cell (p := ⟨g, 2, none⟩) hg).trans r2
  replace r3 := (hb2.cell (p := ⟨g, 3, none⟩) hg).trans r3
  have hz2 : g < w2.heap.size := by have := hb2.size; omega
  have HB2 := hide hb2
  clear hb2
  go_wp2
  go_ret
  exact ⟨rfl, HB2.out⟩
set_option maxRecDepth 100000 in
set_option maxHeartbeats 2000000 in
theorem spec_fault_2 (A B : Option Addr) (n c d : Nat) (zs : List Clay) (ps : List Int) (l h m s : Int) (g : Nat) (S t0 t1 t2 : Int) (w : World) (hn : n ≤ 6) (hl : zs.length = n) (hl2 : ps.length = n) (ha : Row Clay.enc 5 w A zs) (hb : Row encI 1 w B ps) (hz : claysOk zs = true) (hp : partsIn ps = true) (hx : LimOk l h m s) (hS : sumK ps n = S) (h0 : totK (valOf 0) zs ps n = t0) (h1 : totK (valOf 1) zs ps n = t1) (h2 : totK (valOf 2) zs ps n = t2) (hg : g < w.heap.size) (r0 : w.cell? ⟨g, 0, none⟩ = some (.int .i64 l)) (r1 : w.cell? ⟨g, 1, none⟩ = some (.int .i64 h)) (r2 : w.cell? ⟨g, 2, none⟩ = some (.int .i64 m)) (r3 : w.cell? ⟨g, 3, none⟩ = some (.int .i64 s)) (c0 : ¬ (t0 < l * S)) (c1 : ¬ (h * S < t0)) (c2 : m * S < t1) :
    Calls Try.prog 56 #[.slice A n c, .slice B n d, .pointer (some ⟨g, 0, none⟩)] w fun e w' => e = .returned (.string ⟨#[108, 105, 109, 101]⟩) ∧ Below w.heap.size w w' := by
  have bS := sumK_in hp n
  have b0 := totK_in (small_valOf 0) hz hp n
  have b1 := totK_in (small_valOf 1) hz hp n
  have b2 := totK_in (small_valOf 2) hz hp n
  rw [hS] at bS
  rw [h0] at b0
  rw [h1] at b1
  rw [h2] at b2
  obtain ⟨x1, x2, x3, x4, x5⟩ := hx
  have m0 := lim_mul (a := l) (S := S) ⟨by omega, by omega⟩ ⟨by omega, by omega⟩
  have m1 := lim_mul (a := h) (S := S) ⟨by omega, by omega⟩ ⟨by omega, by omega⟩
  have m2 := lim_mul (a := m) (S := S) ⟨by omega, by omega⟩ ⟨by omega, by omega⟩
  have m3 := lim_mul (a := s) (S := S) ⟨by omega, by omega⟩ ⟨by omega, by omega⟩
  have v0 := Go.IntWalk.i64_in (l * S) ⟨by omega, by omega⟩
  have v1 := Go.IntWalk.i64_in (h * S) ⟨by omega, by omega⟩
  have v2 := Go.IntWalk.i64_in (m * S) ⟨by omega, by omega⟩
  have v3 := Go.IntWalk.i64_in (s * S) ⟨by omega, by omega⟩
  clear m0 m1 m2 m3 bS b0 b1 b2 x1 x2 x3 x4 x5
  have HA := hide ha
  have HB := hide hb
  have HL := hide hl
  have HL2 := hide hl2
  have HS := hide hS
  have H0 := hide h0
  have H1 := hide h1
  have H2 := hide h2
  clear ha hb hl hl2 hS h0 h1 h2
  go_enter Try.func56, Try.ntmps56
  have HB0 := hide (Below.refl w.heap.size w)
  go_wp2_with fail
  refine (spec_l03Sum _ _ _ ps _ (by omega) HL2.out HB.out).mono ?_
  rintro e w1 ⟨rfl, rfl⟩
  rw [lsum_yes _ hp, HS.out]
  go_wp2_with fail
  refine (spec_l03Total 0 (by omega) _ _ _ _ _ zs ps _ hn HL.out HL2.out (HA.out.below HB0.out) (HB.out.below HB0.out) hz hp).mono ?_
  rintro e w2 ⟨rfl, hb2⟩
  rw [H0.out]
  replace r0 := (hb2.cell (p := ⟨g, 0, none⟩) hg).trans r0
  replace r1 := (hb2.cell (p := ⟨g, 1, none⟩) hg).trans r1
  replace r2 := (hb2.cell (p := ⟨g, 2, none⟩) hg).trans r2
  replace r3 := (hb2.cell (p := ⟨g, 3, none⟩) hg).trans r3
  have hz2 : g < w2.heap.size := by have := hb2.size; omega
  have HB2 := hide hb2
  clear hb2
  go_wp2
  go_region_with (go_at_call 101
                  refine (spec_l03Total 1 (by omega) _ _ _ _ _ zs ps _ hn HL.out HL2.out (HA.out.below HB2.out.drew) (HB.out.below HB2.out.drew) hz hp).mono ?_
                  rintro e w3 ⟨rfl, hb3⟩
                  rw [H1.out]
                  replace r0 := (hb3.cell (p := ⟨g, 0, none⟩) hz2).trans r0
                  replace r1 := (hb3.cell (p := ⟨g, 1, none⟩) hz2).trans r1
                  replace r2 := (hb3.cell (p := ⟨g, 2, none⟩) hz2).trans r2
                  replace r3 := (hb3.cell (p := ⟨g, 3, none⟩) hz2).trans r3
                  have hz3 : g < w3.heap.size := Nat.lt_of_lt_of_le hz2 hb3.size
                  have HB3 := hide (HB2.out.drew.trans (hb3.mono HB2.out.size))
                  clear hb3)
  all_goals
    go_wp2
    go_ret
    exact ⟨rfl, HB3.out⟩
set_option maxRecDepth 100000 in
set_option maxHeartbeats 2000000 in
theorem spec_fault_3 (A B : Option Addr) (n c d : Nat) (zs : List Clay) (ps : List Int) (l h m s : Int) (g : Nat) (S t0 t1 t2 : Int) (w : World) (hn : n ≤ 6) (hl : zs.length = n) (hl2 : ps.length = n) (ha : Row Clay.enc 5 w A zs) (hb : Row encI 1 w B ps) (hz : claysOk zs = true) (hp : partsIn ps = true) (hx : LimOk l h m s) (hS : sumK ps n = S) (h0 : totK (valOf 0) zs ps n = t0) (h1 : totK (valOf 1) zs ps n = t1) (h2 : totK (valOf 2) zs ps n = t2) (hg : g < w.heap.size) (r0 : w.cell? ⟨g, 0, none⟩ = some (.int .i64 l)) (r1 : w.cell? ⟨g, 1, none⟩ = some (.int .i64 h)) (r2 : w.cell? ⟨g, 2, none⟩ = some (.int .i64 m)) (r3 : w.cell? ⟨g, 3, none⟩ = some (.int .i64 s)) (c0 : ¬ (t0 < l * S)) (c1 : ¬ (h * S < t0)) (c2 : ¬ (m * S < t1)) (c3 : s * S < t2) :
    Calls Try.prog 56 #[.slice A n c, .slice B n d, .pointer (some ⟨g, 0, none⟩)] w fun e w' => e = .returned (.string ⟨#[115, 97, 110, 100]⟩) ∧ Below w.heap.size w w' := by
  have bS := sumK_in hp n
  have b0 := totK_in (small_valOf 0) hz hp n
  have b1 := totK_in (small_valOf 1) hz hp n
  have b2 := totK_in (small_valOf 2) hz hp n
  rw [hS] at bS
  rw [h0] at b0
  rw [h1] at b1
  rw [h2] at b2
  obtain ⟨x1, x2, x3, x4, x5⟩ := hx
  have m0 := lim_mul (a := l) (S := S) ⟨by omega, by omega⟩ ⟨by omega, by omega⟩
  have m1 := lim_mul (a := h) (S := S) ⟨by omega, by omega⟩ ⟨by omega, by omega⟩
  have m2 := lim_mul (a := m) (S := S) ⟨by omega, by omega⟩ ⟨by omega, by omega⟩
  have m3 := lim_mul (a := s) (S := S) ⟨by omega, by omega⟩ ⟨by omega, by omega⟩
  have v0 := Go.IntWalk.i64_in (l * S) ⟨by omega, by omega⟩
  have v1 := Go.IntWalk.i64_in (h * S) ⟨by omega, by omega⟩
  have v2 := Go.IntWalk.i64_in (m * S) ⟨by omega, by omega⟩
  have v3 := Go.IntWalk.i64_in (s * S) ⟨by omega, by omega⟩
  clear m0 m1 m2 m3 bS b0 b1 b2 x1 x2 x3 x4 x5
  have HA := hide ha
  have HB := hide hb
  have HL := hide hl
  have HL2 := hide hl2
  have HS := hide hS
  have H0 := hide h0
  have H1 := hide h1
  have H2 := hide h2
  clear ha hb hl hl2 hS h0 h1 h2
  go_enter Try.func56, Try.ntmps56
  have HB0 := hide (Below.refl w.heap.size w)
  go_wp2_with fail
  refine (spec_l03Sum _ _ _ ps _ (by omega) HL2.out HB.out).mono ?_
  rintro e w1 ⟨rfl, rfl⟩
  rw [lsum_yes _ hp, HS.out]
  go_wp2_with fail
  refine (spec_l03Total 0 (by omega) _ _ _ _ _ zs ps _ hn HL.out HL2.out (HA.out.below HB0.out) (HB.out.below HB0.out) hz hp).mono ?_
  rintro e w2 ⟨rfl, hb2⟩
  rw [H0.out]
  replace r0 := (hb2.cell (p := ⟨g, 0, none⟩) hg).trans r0
  replace r1 := (hb2.cell (p := ⟨g, 1, none⟩) hg).trans r1
  replace r2 := (hb2.cell (p := ⟨g, 2, none⟩) hg).trans r2
  replace r3 := (hb2.cell (p := ⟨g, 3, none⟩) hg).trans r3
  have hz2 : g < w2.heap.size := by have := hb2.size; omega
  have HB2 := hide hb2
  clear hb2
  go_wp2
  go_region_with (go_at_call 101
                  refine (spec_l03Total 1 (by omega) _ _ _ _ _ zs ps _ hn HL.out HL2.out (HA.out.below HB2.out.drew) (HB.out.below HB2.out.drew) hz hp).mono ?_
                  rintro e w3 ⟨rfl, hb3⟩
                  rw [H1.out]
                  replace r0 := (hb3.cell (p := ⟨g, 0, none⟩) hz2).trans r0
                  replace r1 := (hb3.cell (p := ⟨g, 1, none⟩) hz2).trans r1
                  replace r2 := (hb3.cell (p := ⟨g, 2, none⟩) hz2).trans r2
                  replace r3 := (hb3.cell (p := ⟨g, 3, none⟩) hz2).trans r3
                  have hz3 : g < w3.heap.size := Nat.lt_of_lt_of_le hz2 hb3.size
                  have HB3 := hide (HB2.out.drew.trans (hb3.mono HB2.out.size))
                  clear hb3)
  all_goals
    go_wp2
    go_region_with (go_at_call 101
                    refine (spec_l03Total 2 (by omega) _ _ _ _ _ zs ps _ hn HL.out HL2.out (HA.out.below HB3.out.drew) (HB.out.below HB3.out.drew) hz hp).mono ?_
                    rintro e w4 ⟨rfl, hb4⟩
                    rw [H2.out]
                    replace r0 := (hb4.cell (p := ⟨g, 0, none⟩) hz3).trans r0
                    replace r1 := (hb4.cell (p := ⟨g, 1, none⟩) hz3).trans r1
                    replace r2 := (hb4.cell (p := ⟨g, 2, none⟩) hz3).trans r2
                    replace r3 := (hb4.cell (p := ⟨g, 3, none⟩) hz3).trans r3
                    have hz4 : g < w4.heap.size := Nat.lt_of_lt_of_le hz3 hb4.size
                    have HB4 := hide (HB3.out.drew.trans (hb4.mono HB3.out.size))
                    clear hb4)
    all_goals
      go_wp2
      go_ret
      exact ⟨rfl, HB4.out⟩
set_option maxRecDepth 100000 in
set_option maxHeartbeats 2000000 in
theorem spec_fault_4 (A B : Option Addr) (n c d : Nat) (zs : List Clay) (ps : List Int) (l h m s : Int) (g : Nat) (S t0 t1 t2 : Int) (w : World) (hn : n ≤ 6) (hl : zs.length = n) (hl2 : ps.length = n) (ha : Row Clay.enc 5 w A zs) (hb : Row encI 1 w B ps) (hz : claysOk zs = true) (hp : partsIn ps = true) (hx : LimOk l h m s) (hS : sumK ps n = S) (h0 : totK (valOf 0) zs ps n = t0) (h1 : totK (valOf 1) zs ps n = t1) (h2 : totK (valOf 2) zs ps n = t2) (hg : g < w.heap.size) (r0 : w.cell? ⟨g, 0, none⟩ = some (.int .i64 l)) (r1 : w.cell? ⟨g, 1, none⟩ = some (.int .i64 h)) (r2 : w.cell? ⟨g, 2, none⟩ = some (.int .i64 m)) (r3 : w.cell? ⟨g, 3, none⟩ = some (.int .i64 s)) (c0 : ¬ (t0 < l * S)) (c1 : ¬ (h * S < t0)) (c2 : ¬ (m * S < t1)) (c3 : ¬ (s * S < t2)) :
    Calls Try.prog 56 #[.slice A n c, .slice B n d, .pointer (some ⟨g, 0, none⟩)] w fun e w' => e = .returned (.string ⟨#[110, 111, 110, 101]⟩) ∧ Below w.heap.size w w' := by
  have bS := sumK_in hp n
  have b0 := totK_in (small_valOf 0) hz hp n
  have b1 := totK_in (small_valOf 1) hz hp n
  have b2 := totK_in (small_valOf 2) hz hp n
  rw [hS] at bS
  rw [h0] at b0
  rw [h1] at b1
  rw [h2] at b2
  obtain ⟨x1, x2, x3, x4, x5⟩ := hx
  have m0 := lim_mul (a := l) (S := S) ⟨by omega, by omega⟩ ⟨by omega, by omega⟩
  have m1 := lim_mul (a := h) (S := S) ⟨by omega, by omega⟩ ⟨by omega, by omega⟩
  have m2 := lim_mul (a := m) (S := S) ⟨by omega, by omega⟩ ⟨by omega, by omega⟩
  have m3 := lim_mul (a := s) (S := S) ⟨by omega, by omega⟩ ⟨by omega, by omega⟩
  have v0 := Go.IntWalk.i64_in (l * S) ⟨by omega, by omega⟩
  have v1 := Go.IntWalk.i64_in (h * S) ⟨by omega, by omega⟩
  have v2 := Go.IntWalk.i64_in (m * S) ⟨by omega, by omega⟩
  have v3 := Go.IntWalk.i64_in (s * S) ⟨by omega, by omega⟩
  clear m0 m1 m2 m3 bS b0 b1 b2 x1 x2 x3 x4 x5
  have HA := hide ha
  have HB := hide hb
  have HL := hide hl
  have HL2 := hide hl2
  have HS := hide hS
  have H0 := hide h0
  have H1 := hide h1
  have H2 := hide h2
  clear ha hb hl hl2 hS h0 h1 h2
  go_enter Try.func56, Try.ntmps56
  have HB0 := hide (Below.refl w.heap.size w)
  go_wp2_with fail
  refine (spec_l03Sum _ _ _ ps _ (by omega) HL2.out HB.out).mono ?_
  rintro e w1 ⟨rfl, rfl⟩
  rw [lsum_yes _ hp, HS.out]
  go_wp2_with fail
  refine (spec_l03Total 0 (by omega) _ _ _ _ _ zs ps _ hn HL.out HL2.out (HA.out.below HB0.out) (HB.out.below HB0.out) hz hp).mono ?_
  rintro e w2 ⟨rfl, hb2⟩
  rw [H0.out]
  replace r0 := (hb2.cell (p := ⟨g, 0, none⟩) hg).trans r0
  replace r1 := (hb2.cell (p := ⟨g, 1, none⟩) hg).trans r1
  replace r2 := (hb2.cell (p := ⟨g, 2, none⟩) hg).trans r2
  replace r3 := (hb2.cell (p := ⟨g, 3, none⟩) hg).trans r3
  have hz2 : g < w2.heap.size := by have := hb2.size; omega
  have HB2 := hide hb2
  clear hb2
  go_wp2
  go_region_with (go_at_call 101
                  refine (spec_l03Total 1 (by omega) _ _ _ _ _ zs ps _ hn HL.out HL2.out (HA.out.below HB2.out.drew) (HB.out.below HB2.out.drew) hz hp).mono ?_
                  rintro e w3 ⟨rfl, hb3⟩
                  rw [H1.out]
                  replace r0 := (hb3.cell (p := ⟨g, 0, none⟩) hz2).trans r0
                  replace r1 := (hb3.cell (p := ⟨g, 1, none⟩) hz2).trans r1
                  replace r2 := (hb3.cell (p := ⟨g, 2, none⟩) hz2).trans r2
                  replace r3 := (hb3.cell (p := ⟨g, 3, none⟩) hz2).trans r3
                  have hz3 : g < w3.heap.size := Nat.lt_of_lt_of_le hz2 hb3.size
                  have HB3 := hide (HB2.out.drew.trans (hb3.mono HB2.out.size))
                  clear hb3)
  all_goals
    go_wp2
    go_region_with (go_at_call 101
                    refine (spec_l03Total 2 (by omega) _ _ _ _ _ zs ps _ hn HL.out HL2.out (HA.out.below HB3.out.drew) (HB.out.below HB3.out.drew) hz hp).mono ?_
                    rintro e w4 ⟨rfl, hb4⟩
                    rw [H2.out]
                    replace r0 := (hb4.cell (p := ⟨g, 0, none⟩) hz3).trans r0
                    replace r1 := (hb4.cell (p := ⟨g, 1, none⟩) hz3).trans r1
                    replace r2 := (hb4.cell (p := ⟨g, 2, none⟩) hz3).trans r2
                    replace r3 := (hb4.cell (p := ⟨g, 3, none⟩) hz3).trans r3
                    have hz4 : g < w4.heap.size := Nat.lt_of_lt_of_le hz3 hb4.size
                    have HB4 := hide (HB3.out.drew.trans (hb4.mono HB3.out.size))
                    clear hb4)
    all_goals
      go_wp2
      go_ret
      exact ⟨rfl, HB4.out⟩
theorem spec_fault (A B : Option Addr) (n c d : Nat) (zs : List Clay) (ps : List Int) (l h m s : Int) (g : Nat) (w : World) (hn : n ≤ 6) (hl : zs.length = n) (hl2 : ps.length = n) (ha : Row Clay.enc 5 w A zs) (hb : Row encI 1 w B ps) (hz : claysOk zs = true) (hp : partsIn ps = true) (hx : LimOk l h m s) (hg : g < w.heap.size) (r0 : w.cell? ⟨g, 0, none⟩ = some (.int .i64 l)) (r1 : w.cell? ⟨g, 1, none⟩ = some (.int .i64 h)) (r2 : w.cell? ⟨g, 2, none⟩ = some (.int .i64 m)) (r3 : w.cell? ⟨g, 3, none⟩ = some (.int .i64 s)) :
    Calls Try.prog 56 #[.slice A n c, .slice B n d, .pointer (some ⟨g, 0, none⟩)] w fun e w' => e = .returned (.string (bfault zs ps l h m s)) ∧ Below w.heap.size w w' := by
  unfold bfault
  rw [hl2]
  by_cases c0 : totK (valOf 0) zs ps n < l * sumK ps n
  · rw [if_pos c0]
    exact spec_fault_0 A B n c d zs ps l h m s g _ _ _ _ w hn hl hl2 ha hb hz hp hx rfl rfl rfl rfl hg r0 r1 r2 r3 c0
  rw [if_neg c0]
  by_cases c1 : h * sumK ps n < totK (valOf 0) zs ps n
  · rw [if_pos c1]
    exact spec_fault_1 A B n c d zs ps l h m s g _ _ _ _ w hn hl hl2 ha hb hz hp hx rfl rfl rfl rfl hg r0 r1 r2 r3 c0 c1
  rw [if_neg c1]
  by_cases c2 : m * sumK ps n < totK (valOf 1) zs ps n
  · rw [if_pos c2]
    exact spec_fault_2 A B n c d zs ps l h m s g _ _ _ _ w hn hl hl2 ha hb hz hp hx rfl rfl rfl rfl hg r0 r1 r2 r3 c0 c1 c2
  rw [if_neg c2]
  by_cases c3 : s * sumK ps n < totK (valOf 2) zs ps n
  · rw [if_pos c3]
    exact spec_fault_3 A B n c d zs ps l h m s g _ _ _ _ w hn hl hl2 ha hb hz hp hx rfl rfl rfl rfl hg r0 r1 r2 r3 c0 c1 c2 c3
  rw [if_neg c3]
  exact spec_fault_4 A B n c d zs ps l h m s g _ _ _ _ w hn hl hl2 ha hb hz hp hx rfl rfl rfl rfl hg r0 r1 r2 r3 c0 c1 c2 c3
end Go.Proofs.Ytgobpleckeeheaa
