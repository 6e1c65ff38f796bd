/-
  What is proved: SizeFault of the program and of the reference, one contract each. No conditions on the joined contracts.
-/
import Derived.Test.YtgobpleckeeheaaFault
namespace Go.Proofs.Ytgobpleckeeheaa
open Go.RowKit
set_option linter.unusedVariables false

theorem pickSize0 (W : World) : (Instr.index 113 (.agg #[.string ⟨#[108, 101, 110, 103, 116, 104]⟩, .string ⟨#[119, 105, 100, 116, 104]⟩, .string ⟨#[104, 101, 105, 103, 104, 116]⟩]) (.int .i64 0)).run Try.prog W = .ok (.string ⟨#[108, 101, 110, 103, 116, 104]⟩) W := by kernel_rfl
theorem pickSize1 (W : World) : (Instr.index 113 (.agg #[.string ⟨#[108, 101, 110, 103, 116, 104]⟩, .string ⟨#[119, 105, 100, 116, 104]⟩, .string ⟨#[104, 101, 105, 103, 104, 116]⟩]) (.int .i64 1)).run Try.prog W = .ok (.string ⟨#[119, 105, 100, 116, 104]⟩) W := by kernel_rfl
theorem pickSize2 (W : World) : (Instr.index 113 (.agg #[.string ⟨#[108, 101, 110, 103, 116, 104]⟩, .string ⟨#[119, 105, 100, 116, 104]⟩, .string ⟨#[104, 101, 105, 103, 104, 116]⟩]) (.int .i64 2)).run Try.prog W = .ok (.string ⟨#[104, 101, 105, 103, 104, 116]⟩) W := by kernel_rfl
set_option maxRecDepth 100000 in
set_option maxHeartbeats 1000000 in
theorem impl_sf_0 (a b c d l wd h j s off : Int) (w : World) (hm : Mould.Ok ⟨a, b, c, d⟩) (hf : fmtB l wd h j = true) (hr : 0 ≤ s ∧ s ≤ 200) (ho : 0 ≤ off ∧ off ≤ 100) (ha : 0 ≤ a ∧ a ≤ 100000) (hb : 0 ≤ b ∧ b ≤ 100000) (hc : 0 ≤ c ∧ c ≤ 100000) (hl : 0 ≤ l ∧ l ≤ 100000) (hwd : 0 ≤ wd ∧ wd ≤ 100000) (hh : 0 ≤ h ∧ h ≤ 100000) (t0 : off < absI (firedI a s - l)) :
    Calls Try.prog 37 #[.agg #[.int .i64 a, .int .i64 b, .int .i64 c, .int .i64 d], .agg #[.int .i64 l, .int .i64 wd, .int .i64 h, .int .i64 j], .int .i64 s, .int .i64 off] w fun e w' => e = .returned (.tuple #[.string ⟨#[108, 101, 110, 103, 116, 104]⟩, .int .i64 0]) ∧ Below w.heap.size w w' := by
  have hpick := pickSize0
  have hs : 0 ≤ s ∧ s ≤ 1000 := ⟨hr.1, by omega⟩
  have fa := fired_bound ha hs
  have fb := fired_bound hb hs
  have fc := fired_bound hc hs
  have hv : Mould.ok ⟨a, b, c, d⟩ = true := decide_eq_true hm
  clear hm
  go_enter Try.func37, Try.ntmps37
  go_wp2_with fail
  refine (impl_validMould a b c d _).mono ?_
  rintro e u1 ⟨rfl, hb1⟩
  rw [hv]
  have hz1 := hb1.size
  simp at hz1
  have m0 : u1.cell? ⟨w.heap.size, 0, none⟩ = some (.int .i64 a) := (hb1.cell (p := ⟨w.heap.size, 0, none⟩) (by simp; omega)).trans (by simp [go_sem])
  have m1 : u1.cell? ⟨w.heap.size, 1, none⟩ = some (.int .i64 b) := (hb1.cell (p := ⟨w.heap.size, 1, none⟩) (by simp; omega)).trans (by simp [go_sem])
  have m2 : u1.cell? ⟨w.heap.size, 2, none⟩ = some (.int .i64 c) := (hb1.cell (p := ⟨w.heap.size, 2, none⟩) (by simp; omega)).trans (by simp [go_sem])
  have m3 : u1.cell? ⟨w.heap.size, 3, none⟩ = some (.int .i64 d) := (hb1.cell (p := ⟨w.heap.size, 3, none⟩) (by simp; omega)).trans (by simp [go_sem])
  have r0 : u1.cell? ⟨w.heap.size + 1, 0, none⟩ = some (.int .i64 l) := (hb1.cell (p := ⟨w.heap.size + 1, 0, none⟩) (by simp)).trans (by simp [go_sem])
  have r1 : u1.cell? ⟨w.heap.size + 1, 1, none⟩ = some (.int .i64 wd) := (hb1.cell (p := ⟨w.heap.size + 1, 1, none⟩) (by simp)).trans (by simp [go_sem])
  have r2 : u1.cell? ⟨w.heap.size + 1, 2, none⟩ = some (.int .i64 h) := (hb1.cell (p := ⟨w.heap.size + 1, 2, none⟩) (by simp)).trans (by simp [go_sem])
  have r3 : u1.cell? ⟨w.heap.size + 1, 3, none⟩ = some (.int .i64 j) := (hb1.cell (p := ⟨w.heap.size + 1, 3, none⟩) (by simp)).trans (by simp [go_sem])
  have HB1 := hide (((((Below.refl w.heap.size w).alloc (Nat.le_refl _) (.cells #[.int .i64 a, .int .i64 b, .int .i64 c, .int .i64 d] 68)).alloc (by simp) (.cells #[.int .i64 l, .int .i64 wd, .int .i64 h, .int .i64 j] 55))).trans (hb1.mono (by simp; omega)))
  clear hb1
  go_wp2_with fail
  refine (impl_validFormat l wd h j _).mono ?_
  rintro e u2 ⟨rfl, hb2⟩
  rw [hf]
  replace m0 := (hb2.cell (p := ⟨w.heap.size, 0, none⟩) (show w.heap.size < u1.heap.size by omega)).trans m0
  replace m1 := (hb2.cell (p := ⟨w.heap.size, 1, none⟩) (show w.heap.size < u1.heap.size by omega)).trans m1
  replace m2 := (hb2.cell (p := ⟨w.heap.size, 2, none⟩) (show w.heap.size < u1.heap.size by omega)).trans m2
  replace m3 := (hb2.cell (p := ⟨w.heap.size, 3, none⟩) (show w.heap.size < u1.heap.size by omega)).trans m3
  replace r0 := (hb2.cell (p := ⟨w.heap.size + 1, 0, none⟩) (show w.heap.size + 1 < u1.heap.size by omega)).trans r0
  replace r1 := (hb2.cell (p := ⟨w.heap.size + 1, 1, none⟩) (show w.heap.size + 1 < u1.heap.size by omega)).trans r1
  replace r2 := (hb2.cell (p := ⟨w.heap.size + 1, 2, none⟩) (show w.heap.size + 1 < u1.heap.size by omega)).trans r2
  replace r3 := (hb2.cell (p := ⟨w.heap.size + 1, 3, none⟩) (show w.heap.size + 1 < u1.heap.size by omega)).trans r3
  have HB2 := hide (HB1.out.trans (hb2.mono HB1.out.size))
  have hz2 := hb2.size
  clear hb2
  go_wp2_with fail
  refine (impl_isShrink s _).mono ?_
  rintro e u3 ⟨rfl, rfl⟩
  rw [decide_eq_true hr]
  go_wp2_with fail
  refine (impl_in_yes _ _ _ _ ho.1 ho.2).mono ?_
  rintro e u4 ⟨rfl, rfl⟩
  go_wp2_with fail
  refine (impl_fsizes l wd h j _).mono ?_
  rintro e u5 ⟨g, rfl, hown5, hb5⟩
  replace m0 := (hb5.cell (p := ⟨w.heap.size, 0, none⟩) (show w.heap.size < u2.heap.size by omega)).trans m0
  replace m1 := (hb5.cell (p := ⟨w.heap.size, 1, none⟩) (show w.heap.size < u2.heap.size by omega)).trans m1
  replace m2 := (hb5.cell (p := ⟨w.heap.size, 2, none⟩) (show w.heap.size < u2.heap.size by omega)).trans m2
  replace m3 := (hb5.cell (p := ⟨w.heap.size, 3, none⟩) (show w.heap.size < u2.heap.size by omega)).trans m3
  clear r0 r1 r2 r3
  have hz5 := hb5.size
  have HB5 := hide (HB2.out.trans (hb5.mono HB2.out.size))
  have HO5 := hide hown5
  clear hown5 hb5
  go_wp2_with fail
  refine (impl_firedOwn a b c d s _ ha hb hc hs).mono ?_
  rintro e u6 ⟨A', c', rfl, ho6, hb6⟩
  have HB6 := hide (HB5.out.trans (hb6.mono HB5.out.size))
  have HO6 := hide (own_below HO5.out hb6)
  rcases ho6.head with ⟨_, hq, _⟩ | ⟨g2, rfl, hg1, hg2⟩
  · omega
  obtain ⟨e0, -⟩ := own_int_at (i := 0) ho6.own rfl
  obtain ⟨e1, -⟩ := own_int_at (i := 1) ho6.own rfl
  obtain ⟨e2, -⟩ := own_int_at (i := 2) ho6.own rfl
  obtain ⟨q0, -⟩ := own_int_at (i := 0) HO6.out rfl
  obtain ⟨q1, -⟩ := own_int_at (i := 1) HO6.out rfl
  obtain ⟨q2, -⟩ := own_int_at (i := 2) HO6.out rfl
  clear ho6 hb6 m0 m1 m2 m3
  go_wp2
  refine wp_loop_rounds 4 ?_
  rw [rounds_succ]
  go_wp2_with fail
  refine (impl_apart _ _ _ fa hl).mono ?_
  rintro e v0 ⟨rfl, rfl⟩
  go_wp2
  go_ret2
  exact ⟨rfl, HB6.out⟩
set_option maxRecDepth 100000 in
set_option maxHeartbeats 1000000 in
theorem impl_sf_1 (a b c d l wd h j s off : Int) (w : World) (hm : Mould.Ok ⟨a, b, c, d⟩) (hf : fmtB l wd h j = true) (hr : 0 ≤ s ∧ s ≤ 200) (ho : 0 ≤ off ∧ off ≤ 100) (ha : 0 ≤ a ∧ a ≤ 100000) (hb : 0 ≤ b ∧ b ≤ 100000) (hc : 0 ≤ c ∧ c ≤ 100000) (hl : 0 ≤ l ∧ l ≤ 100000) (hwd : 0 ≤ wd ∧ wd ≤ 100000) (hh : 0 ≤ h ∧ h ≤ 100000) (t0 : ¬ (off < absI (firedI a s - l))) (t1 : off < absI (firedI b s - wd)) :
    Calls Try.prog 37 #[.agg #[.int .i64 a, .int .i64 b, .int .i64 c, .int .i64 d], .agg #[.int .i64 l, .int .i64 wd, .int .i64 h, .int .i64 j], .int .i64 s, .int .i64 off] w fun e w' => e = .returned (.tuple #[.string ⟨#[119, 105, 100, 116, 104]⟩, .int .i64 0]) ∧ Below w.heap.size w w' := by
  have hpick := pickSize1
  have hs : 0 ≤ s ∧ s ≤ 1000 := ⟨hr.1, by omega⟩
  have fa := fired_bound ha hs
  have fb := fired_bound hb hs
  have fc := fired_bound hc hs
  have hv : Mould.ok ⟨a, b, c, d⟩ = true := decide_eq_true hm
  clear hm
  go_enter Try.func37, Try.ntmps37
  go_wp2_with fail
  refine (impl_validMould a b c d _).mono ?_
  rintro e u1 ⟨rfl, hb1⟩
  rw [hv]
  have hz1 := hb1.size
  simp at hz1
  have m0 : u1.cell? ⟨w.heap.size, 0, none⟩ = some (.int .i64 a) := (hb1.cell (p := ⟨w.heap.size, 0, none⟩) (by simp; omega)).trans (by simp [go_sem])
  have m1 : u1.cell? ⟨w.heap.size, 1, none⟩ = some (.int .i64 b) := (hb1.cell (p := ⟨w.heap.size, 1, none⟩) (by simp; omega)).trans (by simp [go_sem])
  have m2 : u1.cell? ⟨w.heap.size, 2, none⟩ = some (.int .i64 c) := (hb1.cell (p := ⟨w.heap.size, 2, none⟩) (by simp; omega)).trans (by simp [go_sem])
  have m3 : u1.cell? ⟨w.heap.size, 3, none⟩ = some (.int .i64 d) := (hb1.cell (p := ⟨w.heap.size, 3, none⟩) (by simp; omega)).trans (by simp [go_sem])
  have r0 : u1.cell? ⟨w.heap.size + 1, 0, none⟩ = some (.int .i64 l) := (hb1.cell (p := ⟨w.heap.size + 1, 0, none⟩) (by simp)).trans (by simp [go_sem])
  have r1 : u1.cell? ⟨w.heap.size + 1, 1, none⟩ = some (.int .i64 wd) := (hb1.cell (p := ⟨w.heap.size + 1, 1, none⟩) (by simp)).trans (by simp [go_sem])
  have r2 : u1.cell? ⟨w.heap.size + 1, 2, none⟩ = some (.int .i64 h) := (hb1.cell (p := ⟨w.heap.size + 1, 2, none⟩) (by simp)).trans (by simp [go_sem])
  have r3 : u1.cell? ⟨w.heap.size + 1, 3, none⟩ = some (.int .i64 j) := (hb1.cell (p := ⟨w.heap.size + 1, 3, none⟩) (by simp)).trans (by simp [go_sem])
  have HB1 := hide (((((Below.refl w.heap.size w).alloc (Nat.le_refl _) (.cells #[.int .i64 a, .int .i64 b, .int .i64 c, .int .i64 d] 68)).alloc (by simp) (.cells #[.int .i64 l, .int .i64 wd, .int .i64 h, .int .i64 j] 55))).trans (hb1.mono (by simp; omega)))
  clear hb1
  go_wp2_with fail
  refine (impl_validFormat l wd h j _).mono ?_
  rintro e u2 ⟨rfl, hb2⟩
  rw [hf]
  replace m0 := (hb2.cell (p := ⟨w.heap.size, 0, none⟩) (show w.heap.size < u1.heap.size by omega)).trans m0
  replace m1 := (hb2.cell (p := ⟨w.heap.size, 1, none⟩) (show w.heap.size < u1.heap.size by omega)).trans m1
  replace m2 := (hb2.cell (p := ⟨w.heap.size, 2, none⟩) (show w.heap.size < u1.heap.size by omega)).trans m2
  replace m3 := (hb2.cell (p := ⟨w.heap.size, 3, none⟩) (show w.heap.size < u1.heap.size by omega)).trans m3
  replace r0 := (hb2.cell (p := ⟨w.heap.size + 1, 0, none⟩) (show w.heap.size + 1 < u1.heap.size by omega)).trans r0
  replace r1 := (hb2.cell (p := ⟨w.heap.size + 1, 1, none⟩) (show w.heap.size + 1 < u1.heap.size by omega)).trans r1
  replace r2 := (hb2.cell (p := ⟨w.heap.size + 1, 2, none⟩) (show w.heap.size + 1 < u1.heap.size by omega)).trans r2
  replace r3 := (hb2.cell (p := ⟨w.heap.size + 1, 3, none⟩) (show w.heap.size + 1 < u1.heap.size by omega)).trans r3
  have HB2 := hide (HB1.out.trans (hb2.mono HB1.out.size))
  have hz2 := hb2.size
  clear hb2
  go_wp2_with fail
  refine (impl_isShrink s _).mono ?_
  rintro e u3 ⟨rfl, rfl⟩
  rw [decide_eq_true hr]
  go_wp2_with fail
  refine (impl_in_yes _ _ _ _ ho.1 ho.2).mono ?_
  rintro e u4 ⟨rfl, rfl⟩
  go_wp2_with fail
  refine (impl_fsizes l wd h j _).mono ?_
  rintro e u5 ⟨g, rfl, hown5, hb5⟩
  replace m0 := (hb5.cell (p := ⟨w.heap.size, 0, none⟩) (show w.heap.size < u2.heap.size by omega)).trans m0
  replace m1 := (hb5.cell (p := ⟨w.heap.size, 1, none⟩) (show w.heap.size < u2.heap.size by omega)).trans m1
  replace m2 := (hb5.cell (p := ⟨w.heap.size, 2, none⟩) (show w.heap.size < u2.heap.size by omega)).trans m2
  replace m3 := (hb5.cell (p := ⟨w.heap.size, 3, none⟩) (show w.heap.size < u2.heap.size by omega)).trans m3
  clear r0 r1 r2 r3
  have hz5 := hb5.size
  have HB5 := hide (HB2.out.trans (hb5.mono HB2.out.size))
  have HO5 := hide hown5
  clear hown5 hb5
  go_wp2_with fail
  refine (impl_firedOwn a b c d s _ ha hb hc hs).mono ?_
  rintro e u6 ⟨A', c', rfl, ho6, hb6⟩
  have HB6 := hide (HB5.out.trans (hb6.mono HB5.out.size))
  have HO6 := hide (own_below HO5.out hb6)
  rcases ho6.head with ⟨_, hq, _⟩ | ⟨g2, rfl, hg1, hg2⟩
  · omega
  obtain ⟨e0, -⟩ := own_int_at (i := 0) ho6.own rfl
  obtain ⟨e1, -⟩ := own_int_at (i := 1) ho6.own rfl
  obtain ⟨e2, -⟩ := own_int_at (i := 2) ho6.own rfl
  obtain ⟨q0, -⟩ := own_int_at (i := 0) HO6.out rfl
  obtain ⟨q1, -⟩ := own_int_at (i := 1) HO6.out rfl
  obtain ⟨q2, -⟩ := own_int_at (i := 2) HO6.out rfl
  clear ho6 hb6 m0 m1 m2 m3
  go_wp2
  refine wp_loop_rounds 4 ?_
  rw [rounds_succ]
  go_wp2_with fail
  refine (impl_apart _ _ _ fa hl).mono ?_
  rintro e v0 ⟨rfl, rfl⟩
  go_wp2
  rw [rounds_succ]
  go_wp2_with fail
  refine (impl_apart _ _ _ fb hwd).mono ?_
  rintro e v1 ⟨rfl, rfl⟩
  go_wp2
  go_ret2
  exact ⟨rfl, HB6.out⟩
set_option maxRecDepth 100000 in
set_option maxHeartbeats 1000000 in
theorem impl_sf_2 (a b c d l wd h j s off : Int) (w : World) (hm : Mould.Ok ⟨a, b, c, d⟩) (hf : fmtB l wd h j = true) (hr : 0 ≤ s ∧ s ≤ 200) (ho : 0 ≤ off ∧ off ≤ 100) (ha : 0 ≤ a ∧ a ≤ 100000) (hb : 0 ≤ b ∧ b ≤ 100000) (hc : 0 ≤ c ∧ c ≤ 100000) (hl : 0 ≤ l ∧ l ≤ 100000) (hwd : 0 ≤ wd ∧ wd ≤ 100000) (hh : 0 ≤ h ∧ h ≤ 100000) (t0 : ¬ (off < absI (firedI a s - l))) (t1 : ¬ (off < absI (firedI b s - wd))) (t2 : off < absI (firedI c s - h)) :
    Calls Try.prog 37 #[.agg #[.int .i64 a, .int .i64 b, .int .i64 c, .int .i64 d], .agg #[.int .i64 l, .int .i64 wd, .int .i64 h, .int .i64 j], .int .i64 s, .int .i64 off] w fun e w' => e = .returned (.tuple #[.string ⟨#[104, 101, 105, 103, 104, 116]⟩, .int .i64 0]) ∧ Below w.heap.size w w' := by
  have hpick := pickSize2
  have hs : 0 ≤ s ∧ s ≤ 1000 := ⟨hr.1, by omega⟩
  have fa := fired_bound ha hs
  have fb := fired_bound hb hs
  have fc := fired_bound hc hs
  have hv : Mould.ok ⟨a, b, c, d⟩ = true := decide_eq_true hm
  clear hm
  go_enter Try.func37, Try.ntmps37
  go_wp2_with fail
  refine (impl_validMould a b c d _).mono ?_
  rintro e u1 ⟨rfl, hb1⟩
  rw [hv]
  have hz1 := hb1.size
  simp at hz1
  have m0 : u1.cell? ⟨w.heap.size, 0, none⟩ = some (.int .i64 a) := (hb1.cell (p := ⟨w.heap.size, 0, none⟩) (by simp; omega)).trans (by simp [go_sem])
  have m1 : u1.cell? ⟨w.heap.size, 1, none⟩ = some (.int .i64 b) := (hb1.cell (p := ⟨w.heap.size, 1, none⟩) (by simp; omega)).trans (by simp [go_sem])
  have m2 : u1.cell? ⟨w.heap.size, 2, none⟩ = some (.int .i64 c) := (hb1.cell (p := ⟨w.heap.size, 2, none⟩) (by simp; omega)).trans (by simp [go_sem])
  have m3 : u1.cell? ⟨w.heap.size, 3, none⟩ = some (.int .i64 d) := (hb1.cell (p := ⟨w.heap.size, 3, none⟩) (by simp; omega)).trans (by simp [go_sem])
  have r0 : u1.cell? ⟨w.heap.size + 1, 0, none⟩ = some (.int .i64 l) := (hb1.cell (p := ⟨w.heap.size + 1, 0, none⟩) (by simp)).trans (by simp [go_sem])
  have r1 : u1.cell? ⟨w.heap.size + 1, 1, none⟩ = some (.int .i64 wd) := (hb1.cell (p := ⟨w.heap.size + 1, 1, none⟩) (by simp)).trans (by simp [go_sem])
  have r2 : u1.cell? ⟨w.heap.size + 1, 2, none⟩ = some (.int .i64 h) := (hb1.cell (p := ⟨w.heap.size + 1, 2, none⟩) (by simp)).trans (by simp [go_sem])
  have r3 : u1.cell? ⟨w.heap.size + 1, 3, none⟩ = some (.int .i64 j) := (hb1.cell (p := ⟨w.heap.size + 1, 3, none⟩) (by simp)).trans (by simp [go_sem])
  have HB1 := hide (((((Below.refl w.heap.size w).alloc (Nat.le_refl _) (.cells #[.int .i64 a, .int .i64 b, .int .i64 c, .int .i64 d] 68)).alloc (by simp) (.cells #[.int .i64 l, .int .i64 wd, .int .i64 h, .int .i64 j] 55))).trans (hb1.mono (by simp; omega)))
  clear hb1
  go_wp2_with fail
  refine (impl_validFormat l wd h j _).mono ?_
  rintro e u2 ⟨rfl, hb2⟩
  rw [hf]
  replace m0 := (hb2.cell (p := ⟨w.heap.size, 0, none⟩) (show w.heap.size < u1.heap.size by omega)).trans m0
  replace m1 := (hb2.cell (p := ⟨w.heap.size, 1, none⟩) (show w.heap.size < u1.heap.size by omega)).trans m1
  replace m2 := (hb2.cell (p := ⟨w.heap.size, 2, none⟩) (show w.heap.size < u1.heap.size by omega)).trans m2
  replace m3 := (hb2.cell (p := ⟨w.heap.size, 3, none⟩) (show w.heap.size < u1.heap.size by omega)).trans m3
  replace r0 := (hb2.cell (p := ⟨w.heap.size + 1, 0, none⟩) (show w.heap.size + 1 < u1.heap.size by omega)).trans r0
  replace r1 := (hb2.cell (p := ⟨w.heap.size + 1, 1, none⟩) (show w.heap.size + 1 < u1.heap.size by omega)).trans r1
  replace r2 := (hb2.cell (p := ⟨w.heap.size + 1, 2, none⟩) (show w.heap.size + 1 < u1.heap.size by omega)).trans r2
  replace r3 := (hb2.cell (p := ⟨w.heap.size + 1, 3, none⟩) (show w.heap.size + 1 < u1.heap.size by omega)).trans r3
  have HB2 := hide (HB1.out.trans (hb2.mono HB1.out.size))
  have hz2 := hb2.size
  clear hb2
  go_wp2_with fail
  refine (impl_isShrink s _).mono ?_
  rintro e u3 ⟨rfl, rfl⟩
  rw [decide_eq_true hr]
  go_wp2_with fail
  refine (impl_in_yes _ _ _ _ ho.1 ho.2).mono ?_
  rintro e u4 ⟨rfl, rfl⟩
  go_wp2_with fail
  refine (impl_fsizes l wd h j _).mono ?_
  rintro e u5 ⟨g, rfl, hown5, hb5⟩
  replace m0 := (hb5.cell (p := ⟨w.heap.size, 0, none⟩) (show w.heap.size < u2.heap.size by omega)).trans m0
  replace m1 := (hb5.cell (p := ⟨w.heap.size, 1, none⟩) (show w.heap.size < u2.heap.size by omega)).trans m1
  replace m2 := (hb5.cell (p := ⟨w.heap.size, 2, none⟩) (show w.heap.size < u2.heap.size by omega)).trans m2
  replace m3 := (hb5.cell (p := ⟨w.heap.size, 3, none⟩) (show w.heap.size < u2.heap.size by omega)).trans m3
  clear r0 r1 r2 r3
  have hz5 := hb5.size
  have HB5 := hide (HB2.out.trans (hb5.mono HB2.out.size))
  have HO5 := hide hown5
  clear hown5 hb5
  go_wp2_with fail
  refine (impl_firedOwn a b c d s _ ha hb hc hs).mono ?_
  rintro e u6 ⟨A', c', rfl, ho6, hb6⟩
  have HB6 := hide (HB5.out.trans (hb6.mono HB5.out.size))
  have HO6 := hide (own_below HO5.out hb6)
  rcases ho6.head with ⟨_, hq, _⟩ | ⟨g2, rfl, hg1, hg2⟩
  · omega
  obtain ⟨e0, -⟩ := own_int_at (i := 0) ho6.own rfl
  obtain ⟨e1, -⟩ := own_int_at (i := 1) ho6.own rfl
  obtain ⟨e2, -⟩ := own_int_at (i := 2) ho6.own rfl
  obtain ⟨q0, -⟩ := own_int_at (i := 0) HO6.out rfl
  obtain ⟨q1, -⟩ := own_int_at (i := 1) HO6.out rfl
  obtain ⟨q2, -⟩ := own_int_at (i := 2) HO6.out rfl
  clear ho6 hb6 m0 m1 m2 m3
  go_wp2
  refine wp_loop_rounds 4 ?_
  rw [rounds_succ]
  go_wp2_with fail
  refine (impl_apart _ _ _ fa hl).mono ?_
  rintro e v0 ⟨rfl, rfl⟩
  go_wp2
  rw [rounds_succ]
  go_wp2_with fail
  refine (impl_apart _ _ _ fb hwd).mono ?_
  rintro e v1 ⟨rfl, rfl⟩
  go_wp2
  rw [rounds_succ]
  go_wp2_with fail
  refine (impl_apart _ _ _ fc hh).mono ?_
  rintro e v2 ⟨rfl, rfl⟩
  go_wp2
  go_ret2
  exact ⟨rfl, HB6.out⟩
set_option maxRecDepth 100000 in
set_option maxHeartbeats 1000000 in
theorem impl_sf_3 (a b c d l wd h j s off : Int) (w : World) (hm : Mould.Ok ⟨a, b, c, d⟩) (hf : fmtB l wd h j = true) (hr : 0 ≤ s ∧ s ≤ 200) (ho : 0 ≤ off ∧ off ≤ 100) (ha : 0 ≤ a ∧ a ≤ 100000) (hb : 0 ≤ b ∧ b ≤ 100000) (hc : 0 ≤ c ∧ c ≤ 100000) (hl : 0 ≤ l ∧ l ≤ 100000) (hwd : 0 ≤ wd ∧ wd ≤ 100000) (hh : 0 ≤ h ∧ h ≤ 100000) (t0 : ¬ (off < absI (firedI a s - l))) (t1 : ¬ (off < absI (firedI b s - wd))) (t2 : ¬ (off < absI (firedI c s - h))) :
    Calls Try.prog 37 #[.agg #[.int .i64 a, .int .i64 b, .int .i64 c, .int .i64 d], .agg #[.int .i64 l, .int .i64 wd, .int .i64 h, .int .i64 j], .int .i64 s, .int .i64 off] w fun e w' => e = .returned (.tuple #[.string ⟨#[110, 111, 110, 101]⟩, .int .i64 0]) ∧ Below w.heap.size w w' := by
  have hs : 0 ≤ s ∧ s ≤ 1000 := ⟨hr.1, by omega⟩
  have fa := fired_bound ha hs
  have fb := fired_bound hb hs
  have fc := fired_bound hc hs
  have hv : Mould.ok ⟨a, b, c, d⟩ = true := decide_eq_true hm
  clear hm
  go_enter Try.func37, Try.ntmps37
  go_wp2_with fail
  refine (impl_validMould a b c d _).mono ?_
  rintro e u1 ⟨rfl, hb1⟩
  rw [hv]
  have hz1 := hb1.size
  simp at hz1
  have m0 : u1.cell? ⟨w.heap.size, 0, none⟩ = some (.int .i64 a) := (hb1.cell (p := ⟨w.heap.size, 0, none⟩) (by simp; omega)).trans (by simp [go_sem])
  have m1 : u1.cell? ⟨w.heap.size, 1, none⟩ = some (.int .i64 b) := (hb1.cell (p := ⟨w.heap.size, 1, none⟩) (by simp; omega)).trans (by simp [go_sem])
  have m2 : u1.cell? ⟨w.heap.size, 2, none⟩ = some (.int .i64 c) := (hb1.cell (p := ⟨w.heap.size, 2, none⟩) (by simp; omega)).trans (by simp [go_sem])
  have m3 : u1.cell? ⟨w.heap.size, 3, none⟩ = some (.int .i64 d) := (hb1.cell (p := ⟨w.heap.size, 3, none⟩) (by simp; omega)).trans (by simp [go_sem])
  have r0 : u1.cell? ⟨w.heap.size + 1, 0, none⟩ = some (.int .i64 l) := (hb1.cell (p := ⟨w.heap.size + 1, 0, none⟩) (by simp)).trans (by simp [go_sem])
  have r1 : u1.cell? ⟨w.heap.size + 1, 1, none⟩ = some (.int .i64 wd) := (hb1.cell (p := ⟨w.heap.size + 1, 1, none⟩) (by simp)).trans (by simp [go_sem])
  have r2 : u1.cell? ⟨w.heap.size + 1, 2, none⟩ = some (.int .i64 h) := (hb1.cell (p := ⟨w.heap.size + 1, 2, none⟩) (by simp)).trans (by simp [go_sem])
  have r3 : u1.cell? ⟨w.heap.size + 1, 3, none⟩ = some (.int .i64 j) := (hb1.cell (p := ⟨w.heap.size + 1, 3, none⟩) (by simp)).trans (by simp [go_sem])
  have HB1 := hide (((((Below.refl w.heap.size w).alloc (Nat.le_refl _) (.cells #[.int .i64 a, .int .i64 b, .int .i64 c, .int .i64 d] 68)).alloc (by simp) (.cells #[.int .i64 l, .int .i64 wd, .int .i64 h, .int .i64 j] 55))).trans (hb1.mono (by simp; omega)))
  clear hb1
  go_wp2_with fail
  refine (impl_validFormat l wd h j _).mono ?_
  rintro e u2 ⟨rfl, hb2⟩
  rw [hf]
  replace m0 := (hb2.cell (p := ⟨w.heap.size, 0, none⟩) (show w.heap.size < u1.heap.size by omega)).trans m0
  replace m1 := (hb2.cell (p := ⟨w.heap.size, 1, none⟩) (show w.heap.size < u1.heap.size by omega)).trans m1
  replace m2 := (hb2.cell (p := ⟨w.heap.size, 2, none⟩) (show w.heap.size < u1.heap.size by omega)).trans m2
  replace m3 := (hb2.cell (p := ⟨w.heap.size, 3, none⟩) (show w.heap.size < u1.heap.size by omega)).trans m3
  replace r0 := (hb2.cell (p := ⟨w.heap.size + 1, 0, none⟩) (show w.heap.size + 1 < u1.heap.size by omega)).trans r0
  replace r1 := (hb2.cell (p := ⟨w.heap.size + 1, 1, none⟩) (show w.heap.size + 1 < u1.heap.size by omega)).trans r1
  replace r2 := (hb2.cell (p := ⟨w.heap.size + 1, 2, none⟩) (show w.heap.size + 1 < u1.heap.size by omega)).trans r2
  replace r3 := (hb2.cell (p := ⟨w.heap.size + 1, 3, none⟩) (show w.heap.size + 1 < u1.heap.size by omega)).trans r3
  have HB2 := hide (HB1.out.trans (hb2.mono HB1.out.size))
  have hz2 := hb2.size
  clear hb2
  go_wp2_with fail
  refine (impl_isShrink s _).mono ?_
  rintro e u3 ⟨rfl, rfl⟩
  rw [decide_eq_true hr]
  go_wp2_with fail
  refine (impl_in_yes _ _ _ _ ho.1 ho.2).mono ?_
  rintro e u4 ⟨rfl, rfl⟩
  go_wp2_with fail
  refine (impl_fsizes l wd h j _).mono ?_
  rintro e u5 ⟨g, rfl, hown5, hb5⟩
  replace m0 := (hb5.cell (p := ⟨w.heap.size, 0, none⟩) (show w.heap.size < u2.heap.size by omega)).trans m0
  replace m1 := (hb5.cell (p := ⟨w.heap.size, 1, none⟩) (show w.heap.size < u2.heap.size by omega)).trans m1
  replace m2 := (hb5.cell (p := ⟨w.heap.size, 2, none⟩) (show w.heap.size < u2.heap.size by omega)).trans m2
  replace m3 := (hb5.cell (p := ⟨w.heap.size, 3, none⟩) (show w.heap.size < u2.heap.size by omega)).trans m3
  clear r0 r1 r2 r3
  have hz5 := hb5.size
  have HB5 := hide (HB2.out.trans (hb5.mono HB2.out.size))
  have HO5 := hide hown5
  clear hown5 hb5
  go_wp2_with fail
  refine (impl_firedOwn a b c d s _ ha hb hc hs).mono ?_
  rintro e u6 ⟨A', c', rfl, ho6, hb6⟩
  have HB6 := hide (HB5.out.trans (hb6.mono HB5.out.size))
  have HO6 := hide (own_below HO5.out hb6)
  rcases ho6.head with ⟨_, hq, _⟩ | ⟨g2, rfl, hg1, hg2⟩
  · omega
  obtain ⟨e0, -⟩ := own_int_at (i := 0) ho6.own rfl
  obtain ⟨e1, -⟩ := own_int_at (i := 1) ho6.own rfl
  obtain ⟨e2, -⟩ := own_int_at (i := 2) ho6.own rfl
  obtain ⟨q0, -⟩ := own_int_at (i := 0) HO6.out rfl
  obtain ⟨q1, -⟩ := own_int_at (i := 1) HO6.out rfl
  obtain ⟨q2, -⟩ := own_int_at (i := 2) HO6.out rfl
  clear ho6 hb6 m0 m1 m2 m3
  go_wp2
  refine wp_loop_rounds 4 ?_
  rw [rounds_succ]
  go_wp2_with fail
  refine (impl_apart _ _ _ fa hl).mono ?_
  rintro e v0 ⟨rfl, rfl⟩
  go_wp2
  rw [rounds_succ]
  go_wp2_with fail
  refine (impl_apart _ _ _ fb hwd).mono ?_
  rintro e v1 ⟨rfl, rfl⟩
  go_wp2
  rw [rounds_succ]
  go_wp2_with fail
  refine (impl_apart _ _ _ fc hh).mono ?_
  rintro e v2 ⟨rfl, rfl⟩
  go_wp2
  rw [rounds_succ]
  go_wp2
  go_ret2
  exact ⟨rfl, HB6.out⟩
end Go.Proofs.Ytgobpleckeeheaa
