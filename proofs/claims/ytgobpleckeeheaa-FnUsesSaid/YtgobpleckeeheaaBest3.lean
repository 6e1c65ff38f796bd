/-
  What is proved: the best mould of a list: the reference where there is none. Conditions: lengths that fit.
-/
import Derived.Test.YtgobpleckeeheaaBest2
import Derived.Test.YtgobpleckeeheaaMouldFor
namespace Go.Proofs.Ytgobpleckeeheaa
open Go.RowKit
set_option linter.unusedVariables false

theorem spec_best_bad1 (A : Option Addr) (n c : Nat) (zs : List Mould) (l wd h j s : Int) (w : World) (hn : n ≤ 16777216) (hl : zs.length = n) (hr : Row Mould.enc 4 w A zs) (hv : mouldsOk zs = false) :
    Calls Try.prog 25 #[.slice A n c, .agg #[.int .i64 l, .int .i64 wd, .int .i64 h, .int .i64 j], .int .i64 s] w fun e w' => e = .returned (.tuple #[.int .i64 0, .int .i64 1]) ∧ Below w.heap.size w w' := by
  have HA := hide hr
  have HL := hide hl
  have hnm : n ≤ 9223372036854775807 := by omega
  clear hr hl
  go_enter Try.func25, Try.ntmps25
  have HB0 := hide ((Below.refl w.heap.size w).alloc (Nat.le_refl _) (.cells #[.int .i64 l, .int .i64 wd, .int .i64 h, .int .i64 j] 55))
  go_wp2_with fail
  refine (spec_l05Ok _ _ _ zs _ hn HL.out (HA.out.below HB0.out)).mono ?_
  rintro e w1 ⟨rfl, rfl⟩
  rw [hv]
  go_wp2
  go_ret2
  exact ⟨rfl, HB0.out⟩
theorem spec_best_bad2 (A : Option Addr) (n c : Nat) (zs : List Mould) (l wd h j s : Int) (w : World) (hn : n ≤ 16777216) (hl : zs.length = n) (hr : Row Mould.enc 4 w A zs) (hv : mouldsOk zs = true) (hf : fmtB l wd h j = false) :
    Calls Try.prog 25 #[.slice A n c, .agg #[.int .i64 l, .int .i64 wd, .int .i64 h, .int .i64 j], .int .i64 s] w fun e w' => e = .returned (.tuple #[.int .i64 0, .int .i64 1]) ∧ Below w.heap.size w w' := by
  have HA := hide hr
  have HL := hide hl
  have hnm : n ≤ 9223372036854775807 := by omega
  clear hr hl
  go_enter Try.func25, Try.ntmps25
  have HB0 := hide ((Below.refl w.heap.size w).alloc (Nat.le_refl _) (.cells #[.int .i64 l, .int .i64 wd, .int .i64 h, .int .i64 j] 55))
  go_wp2_with fail
  refine (spec_l05Ok _ _ _ zs _ hn HL.out (HA.out.below HB0.out)).mono ?_
  rintro e w1 ⟨rfl, rfl⟩
  rw [hv]
  go_wp2_with fail
  refine (spec_l02Ok l wd h j _).mono ?_
  rintro e u2 ⟨rfl, hb2⟩
  rw [hf]
  have HB2 := hide (HB0.out.trans (hb2.mono (by simp)))
  have hz2 := hb2.size
  simp at hz2
  clear hb2
  go_wp2
  go_ret2
  exact ⟨rfl, HB2.out⟩
theorem spec_best_range (A : Option Addr) (n c : Nat) (zs : List Mould) (l wd h j s : Int) (w : World) (hn : n ≤ 16777216) (hl : zs.length = n) (hr : Row Mould.enc 4 w A zs) (hv : mouldsOk zs = true) (hf : fmtB l wd h j = true) (hs : ¬ (0 ≤ s ∧ s ≤ 200)) :
    Calls Try.prog 25 #[.slice A n c, .agg #[.int .i64 l, .int .i64 wd, .int .i64 h, .int .i64 j], .int .i64 s] w fun e w' => e = .returned (.tuple #[.int .i64 0, .int .i64 2]) ∧ Below w.heap.size w w' := by
  have HA := hide hr
  have HL := hide hl
  have hnm : n ≤ 9223372036854775807 := by omega
  clear hr hl
  go_enter Try.func25, Try.ntmps25
  have HB0 := hide ((Below.refl w.heap.size w).alloc (Nat.le_refl _) (.cells #[.int .i64 l, .int .i64 wd, .int .i64 h, .int .i64 j] 55))
  go_wp2_with fail
  refine (spec_l05Ok _ _ _ zs _ hn HL.out (HA.out.below HB0.out)).mono ?_
  rintro e w1 ⟨rfl, rfl⟩
  rw [hv]
  go_wp2_with fail
  refine (spec_l02Ok l wd h j _).mono ?_
  rintro e u2 ⟨rfl, hb2⟩
  rw [hf]
  have HB2 := hide (HB0.out.trans (hb2.mono (by simp)))
  have hz2 := hb2.size
  simp at hz2
  clear hb2
  go_wp2_with fail
  refine (spec_in_no _ _ _ _ hs).mono ?_
  rintro e u3 ⟨rfl, rfl⟩
  go_wp2
  go_ret2
  exact ⟨rfl, HB2.out⟩
theorem spec_best_none (A : Option Addr) (n c : Nat) (zs : List Mould) (l wd h j s : Int) (w : World) (hn : n ≤ 16777216) (hl : zs.length = n) (hr : Row Mould.enc 4 w A zs) (hv : mouldsOk zs = true) (hf : fmtB l wd h j = true) (hs : 0 ≤ s ∧ s ≤ 200) (hp : n = 0) :
    Calls Try.prog 25 #[.slice A n c, .agg #[.int .i64 l, .int .i64 wd, .int .i64 h, .int .i64 j], .int .i64 s] w fun e w' => e = .returned (.tuple #[.int .i64 0, .int .i64 3]) ∧ Below w.heap.size w w' := by
  subst hp
  have HA := hide hr
  have HL := hide hl
  have hnm : 0 ≤ 9223372036854775807 := by omega
  clear hr hl
  have dn : (((0 : Nat) : Int) == 0) = true := by decide
  go_enter Try.func25, Try.ntmps25
  have HB0 := hide ((Below.refl w.heap.size w).alloc (Nat.le_refl _) (.cells #[.int .i64 l, .int .i64 wd, .int .i64 h, .int .i64 j] 55))
  go_wp2_with fail
  refine (spec_l05Ok _ _ _ zs _ hn HL.out (HA.out.below HB0.out)).mono ?_
  rintro e w1 ⟨rfl, rfl⟩
  rw [hv]
  go_wp2_with fail
  refine (spec_l02Ok l wd h j _).mono ?_
  rintro e u2 ⟨rfl, hb2⟩
  rw [hf]
  have HB2 := hide (HB0.out.trans (hb2.mono (by simp)))
  have hz2 := hb2.size
  simp at hz2
  clear hb2
  go_wp2_with fail
  refine (spec_in_yes _ _ _ _ hs.1 hs.2).mono ?_
  rintro e u3 ⟨rfl, rfl⟩
  go_wp2
  go_ret2
  exact ⟨rfl, HB2.out⟩
theorem impl_best_bad1 (A : Option Addr) (n c : Nat) (zs : List Mould) (l wd h j s : Int) (w : World) (hn : n ≤ 16777216) (hl : zs.length = n) (hr : Row Mould.enc 4 w A zs) (hv : mouldsOk zs = false) :
    Calls Try.prog 24 #[.slice A n c, .agg #[.int .i64 l, .int .i64 wd, .int .i64 h, .int .i64 j], .int .i64 s] w fun e w' => e = .returned (.tuple #[.int .i64 0, .int .i64 1]) ∧ Below w.heap.size w w' := by
  have HA := hide hr
  have HL := hide hl
  have hnm : n ≤ 9223372036854775807 := by omega
  clear hr hl
  go_enter Try.func24, Try.ntmps24
  have HB0 := hide ((Below.refl w.heap.size w).alloc (Nat.le_refl _) (.cells #[.int .i64 l, .int .i64 wd, .int .i64 h, .int .i64 j] 55))
  go_wp2_with fail
  refine (impl_validMoulds _ _ _ zs _ hn HL.out (HA.out.below HB0.out)).mono ?_
  rintro e w1 ⟨rfl, hb1⟩
  rw [hv]
  have r0 := (hb1.cell (p := ⟨w.heap.size, 0, none⟩) (by simp)).trans (show _ = some (.int .i64 l) from by simp [go_sem])
  have r1 := (hb1.cell (p := ⟨w.heap.size, 1, none⟩) (by simp)).trans (show _ = some (.int .i64 wd) from by simp [go_sem])
  have r2 := (hb1.cell (p := ⟨w.heap.size, 2, none⟩) (by simp)).trans (show _ = some (.int .i64 h) from by simp [go_sem])
  have r3 := (hb1.cell (p := ⟨w.heap.size, 3, none⟩) (by simp)).trans (show _ = some (.int .i64 j) from by simp [go_sem])
  have HB1 := hide (HB0.out.trans (hb1.mono (by simp)))
  have hz1 : w.heap.size < w1.heap.size := by have := hb1.size; simp at this; omega
  clear hb1
  go_wp2
  go_ret2
  exact ⟨rfl, HB1.out⟩
theorem impl_best_bad2 (A : Option Addr) (n c : Nat) (zs : List Mould) (l wd h j s : Int) (w : World) (hn : n ≤ 16777216) (hl : zs.length = n) (hr : Row Mould.enc 4 w A zs) (hv : mouldsOk zs = true) (hf : fmtB l wd h j = false) :
    Calls Try.prog 24 #[.slice A n c, .agg #[.int .i64 l, .int .i64 wd, .int .i64 h, .int .i64 j], .int .i64 s] w fun e w' => e = .returned (.tuple #[.int .i64 0, .int .i64 1]) ∧ Below w.heap.size w w' := by
  have HA := hide hr
  have HL := hide hl
  have hnm : n ≤ 9223372036854775807 := by omega
  clear hr hl
  go_enter Try.func24, Try.ntmps24
  have HB0 := hide ((Below.refl w.heap.size w).alloc (Nat.le_refl _) (.cells #[.int .i64 l, .int .i64 wd, .int .i64 h, .int .i64 j] 55))
  go_wp2_with fail
  refine (impl_validMoulds _ _ _ zs _ hn HL.out (HA.out.below HB0.out)).mono ?_
  rintro e w1 ⟨rfl, hb1⟩
  rw [hv]
  have r0 := (hb1.cell (p := ⟨w.heap.size, 0, none⟩) (by simp)).trans (show _ = some (.int .i64 l) from by simp [go_sem])
  have r1 := (hb1.cell (p := ⟨w.heap.size, 1, none⟩) (by simp)).trans (show _ = some (.int .i64 wd) from by simp [go_sem])
  have r2 := (hb1.cell (p := ⟨w.heap.size, 2, none⟩) (by simp)).trans (show _ = some (.int .i64 h) from by simp [go_sem])
  have r3 := (hb1.cell (p := ⟨w.heap.size, 3, none⟩) (by simp)).trans (show _ = some (.int .i64 j) from by simp [go_sem])
  have HB1 := hide (HB0.out.trans (hb1.mono (by simp)))
  have hz1 : w.heap.size < w1.heap.size := by have := hb1.size; simp at this; omega
  clear hb1
  go_wp2_with fail
  refine (impl_validFormat l wd h j _).mono ?_
  rintro e w2 ⟨rfl, hb2⟩
  rw [hf]
  replace r0 := (hb2.cell (p := ⟨w.heap.size, 0, none⟩) hz1).trans r0
  replace r1 := (hb2.cell (p := ⟨w.heap.size, 1, none⟩) hz1).trans r1
  replace r2 := (hb2.cell (p := ⟨w.heap.size, 2, none⟩) hz1).trans r2
  replace r3 := (hb2.cell (p := ⟨w.heap.size, 3, none⟩) hz1).trans r3
  have HB2 := hide (HB1.out.trans (hb2.mono HB1.out.size))
  have hz2 : w.heap.size < w2.heap.size := by have := hb2.size; have := hz1; omega
  clear hb2
  go_wp2
  go_ret2
  exact ⟨rfl, HB2.out⟩
theorem impl_best_range (A : Option Addr) (n c : Nat) (zs : List Mould) (l wd h j s : Int) (w : World) (hn : n ≤ 16777216) (hl : zs.length = n) (hr : Row Mould.enc 4 w A zs) (hv : mouldsOk zs = true) (hf : fmtB l wd h j = true) (hs : ¬ (0 ≤ s ∧ s ≤ 200)) :
    Calls Try.prog 24 #[.slice A n c, .agg #[.int .i64 l, .int .i64 wd, .int .i64 h, .int .i64 j], .int .i64 s] w fun e w' => e = .returned (.tuple #[.int .i64 0, .int .i64 2]) ∧ Below w.heap.size w w' := by
  have HA := hide hr
  have HL := hide hl
  have hnm : n ≤ 9223372036854775807 := by omega
  clear hr hl
  go_enter Try.func24, Try.ntmps24
  have HB0 := hide ((Below.refl w.heap.size w).alloc (Nat.le_refl _) (.cells #[.int .i64 l, .int .i64 wd, .int .i64 h, .int .i64 j] 55))
  go_wp2_with fail
  refine (impl_validMoulds _ _ _ zs _ hn HL.out (HA.out.below HB0.out)).mono ?_
  rintro e w1 ⟨rfl, hb1⟩
  rw [hv]
  have r0 := (hb1.cell (p := ⟨w.heap.size, 0, none⟩) (by simp)).trans (show _ = some (.int .i64 l) from by simp [go_sem])
  have r1 := (hb1.cell (p := ⟨w.heap.size, 1, none⟩) (by simp)).trans (show _ = some (.int .i64 wd) from by simp [go_sem])
  have r2 := (hb1.cell (p := ⟨w.heap.size, 2, none⟩) (by simp)).trans (show _ = some (.int .i64 h) from by simp [go_sem])
  have r3 := (hb1.cell (p := ⟨w.heap.size, 3, none⟩) (by simp)).trans (show _ = some (.int .i64 j) from by simp [go_sem])
  have HB1 := hide (HB0.out.trans (hb1.mono (by simp)))
  have hz1 : w.heap.size < w1.heap.size := by have := hb1.size; simp at this; omega
  clear hb1
  go_wp2_with fail
  refine (impl_validFormat l wd h j _).mono ?_
  rintro e w2 ⟨rfl, hb2⟩
  rw [hf]
  replace r0 := (hb2.cell (p := ⟨w.heap.size, 0, none⟩) hz1).trans r0
  replace r1 := (hb2.cell (p := ⟨w.heap.size, 1, none⟩) hz1).trans r1
  replace r2 := (hb2.cell (p := ⟨w.heap.size, 2, none⟩) hz1).trans r2
  replace r3 := (hb2.cell (p := ⟨w.heap.size, 3, none⟩) hz1).trans r3
  have HB2 := hide (HB1.out.trans (hb2.mono HB1.out.size))
  have hz2 : w.heap.size < w2.heap.size := by have := hb2.size; have := hz1; omega
  clear hb2
  go_wp2_with fail
  refine (impl_isShrink s _).mono ?_
  rintro e w3 ⟨rfl, rfl⟩
  rw [decide_eq_false hs]
  go_wp2
  go_ret2
  exact ⟨rfl, HB2.out⟩
theorem impl_best_none (A : Option Addr) (n c : Nat) (zs : List Mould) (l wd h j s : Int) (w : World) (hn : n ≤ 16777216) (hl : zs.length = n) (hr : Row Mould.enc 4 w A zs) (hv : mouldsOk zs = true) (hf : fmtB l wd h j = true) (hs : 0 ≤ s ∧ s ≤ 200) (hp : n = 0) :
    Calls Try.prog 24 #[.slice A n c, .agg #[.int .i64 l, .int .i64 wd, .int .i64 h, .int .i64 j], .int .i64 s] w fun e w' => e = .returned (.tuple #[.int .i64 0, .int .i64 3]) ∧ Below w.heap.size w w' := by
  subst hp
  have HA := hide hr
  have HL := hide hl
  have hnm : 0 ≤ 9223372036854775807 := by omega
  clear hr hl
  have dn : (((0 : Nat) : Int) == 0) = true := by decide
  go_enter Try.func24, Try.ntmps24
  have HB0 := hide ((Below.refl w.heap.size w).alloc (Nat.le_refl _) (.cells #[.int .i64 l, .int .i64 wd, .int .i64 h, .int .i64 j] 55))
  go_wp2_with fail
  refine (impl_validMoulds _ _ _ zs _ hn HL.out (HA.out.below HB0.out)).mono ?_
  rintro e w1 ⟨rfl, hb1⟩
  rw [hv]
  have r0 := (hb1.cell (p := ⟨w.heap.size, 0, none⟩) (by simp)).trans (show _ = some (.int .i64 l) from by simp [go_sem])
  have r1 := (hb1.cell (p := ⟨w.heap.size, 1, none⟩) (by simp)).trans (show _ = some (.int .i64 wd) from by simp [go_sem])
  have r2 := (hb1.cell (p := ⟨w.heap.size, 2, none⟩) (by simp)).trans (show _ = some (.int .i64 h) from by simp [go_sem])
  have r3 := (hb1.cell (p := ⟨w.heap.size, 3, none⟩) (by simp)).trans (show _ = some (.int .i64 j) from by simp [go_sem])
  have HB1 := hide (HB0.out.trans (hb1.mono (by simp)))
  have hz1 : w.heap.size < w1.heap.size := by have := hb1.size; simp at this; omega
  clear hb1
  go_wp2_with fail
  refine (impl_validFormat l wd h j _).mono ?_
  rintro e w2 ⟨rfl, hb2⟩
  rw [hf]
  replace r0 := (hb2.cell (p := ⟨w.heap.size, 0, none⟩) hz1).trans r0
  replace r1 := (hb2.cell (p := ⟨w.heap.size, 1, none⟩) hz1).trans r1
  replace r2 := (hb2.cell (p := ⟨w.heap.size, 2, none⟩) hz1).trans r2
  replace r3 := (hb2.cell (p := ⟨w.heap.size, 3, none⟩) hz1).trans r3
  have HB2 := hide (HB1.out.trans (hb2.mono HB1.out.size))
  have hz2 : w.heap.size < w2.heap.size := by have := hb2.size; have := hz1; omega
  clear hb2
  go_wp2_with fail
  refine (impl_isShrink s _).mono ?_
  rintro e w3 ⟨rfl, rfl⟩
  rw [decide_eq_true hs]
  go_wp2
  go_ret2
  exact ⟨rfl, HB2.out⟩
end Go.Proofs.Ytgobpleckeeheaa
