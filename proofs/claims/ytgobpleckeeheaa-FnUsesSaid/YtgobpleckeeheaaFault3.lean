/-
  What is proved: SizeFault of the program and of the reference, one contract each. No conditions.
-/
import Derived.Test.YtgobpleckeeheaaFault2
namespace Go.Proofs.Ytgobpleckeeheaa
open Go.RowKit
set_option linter.unusedVariables false

def SfOk (a b c d l wd h j : Int) : Prop := Mould.Ok ⟨a, b, c, d⟩ ∧ fmtB l wd h j = true
instance (a b c d l wd h j : Int) : Decidable (SfOk a b c d l wd h j) := by unfold SfOk; infer_instance
def SfR (s off : Int) : Prop := (0 ≤ s ∧ s ≤ 200) ∧ (0 ≤ off ∧ off ≤ 100)
instance (s off : Int) : Decidable (SfR s off) := by unfold SfR; infer_instance
def sfS (a b c d l wd h j s off : Int) : ByteArray := if SfOk a b c d l wd h j ∧ SfR s off then faultS a b c l wd h s off else ⟨#[]⟩
def sfC (a b c d l wd h j s off : Int) : Int := if SfOk a b c d l wd h j then (if SfR s off then 0 else 2) else 1
theorem impl_sf_bad (a b c d l wd h j s off : Int) (w : World) (hv : Mould.ok ⟨a, b, c, d⟩ = false) :
    Calls Try.prog 37 #[.agg #[.int .i64 a, .int .i64 b, .int .i64 c, .int .i64 d], .agg #[.int .i64 l, .int .i64 wd, .int .i64 h, .int .i64 j], .int .i64 s, .int .i64 off] w fun e w' => e = .returned (.tuple #[.string ⟨#[]⟩, .int .i64 1]) ∧ Below w.heap.size w w' := by
  go_enter Try.func37, Try.ntmps37
  go_wp2_with fail
  refine (impl_validMould a b c d _).mono ?_
  rintro e u1 ⟨rfl, hb1⟩
  rw [hv]
  have HB1 := hide (((((Below.refl w.heap.size w).alloc (Nat.le_refl _) (.cells #[.int .i64 a, .int .i64 b, .int .i64 c, .int .i64 d] 68)).alloc (by simp) (.cells #[.int .i64 l, .int .i64 wd, .int .i64 h, .int .i64 j] 55))).trans (hb1.mono (by simp; omega)))
  have hz1 := hb1.size
  simp at hz1
  have r0 : u1.cell? ⟨w.heap.size + 1, 0, none⟩ = some (.int .i64 l) := (hb1.cell (p := ⟨w.heap.size + 1, 0, none⟩) (by simp)).trans (by simp [go_sem])
  have r1 : u1.cell? ⟨w.heap.size + 1, 1, none⟩ = some (.int .i64 wd) := (hb1.cell (p := ⟨w.heap.size + 1, 1, none⟩) (by simp)).trans (by simp [go_sem])
  have r2 : u1.cell? ⟨w.heap.size + 1, 2, none⟩ = some (.int .i64 h) := (hb1.cell (p := ⟨w.heap.size + 1, 2, none⟩) (by simp)).trans (by simp [go_sem])
  have r3 : u1.cell? ⟨w.heap.size + 1, 3, none⟩ = some (.int .i64 j) := (hb1.cell (p := ⟨w.heap.size + 1, 3, none⟩) (by simp)).trans (by simp [go_sem])
  clear hb1
  go_wp2
  go_ret2
  exact ⟨rfl, HB1.out⟩
theorem impl_sf_bad2 (a b c d l wd h j s off : Int) (w : World) (hv : Mould.ok ⟨a, b, c, d⟩ = true) (hf : fmtB l wd h j = false) :
    Calls Try.prog 37 #[.agg #[.int .i64 a, .int .i64 b, .int .i64 c, .int .i64 d], .agg #[.int .i64 l, .int .i64 wd, .int .i64 h, .int .i64 j], .int .i64 s, .int .i64 off] w fun e w' => e = .returned (.tuple #[.string ⟨#[]⟩, .int .i64 1]) ∧ Below w.heap.size w w' := by
  go_enter Try.func37, Try.ntmps37
  go_wp2_with fail
  refine (impl_validMould a b c d _).mono ?_
  rintro e u1 ⟨rfl, hb1⟩
  rw [hv]
  have HB1 := hide (((((Below.refl w.heap.size w).alloc (Nat.le_refl _) (.cells #[.int .i64 a, .int .i64 b, .int .i64 c, .int .i64 d] 68)).alloc (by simp) (.cells #[.int .i64 l, .int .i64 wd, .int .i64 h, .int .i64 j] 55))).trans (hb1.mono (by simp; omega)))
  have hz1 := hb1.size
  simp at hz1
  have r0 : u1.cell? ⟨w.heap.size + 1, 0, none⟩ = some (.int .i64 l) := (hb1.cell (p := ⟨w.heap.size + 1, 0, none⟩) (by simp)).trans (by simp [go_sem])
  have r1 : u1.cell? ⟨w.heap.size + 1, 1, none⟩ = some (.int .i64 wd) := (hb1.cell (p := ⟨w.heap.size + 1, 1, none⟩) (by simp)).trans (by simp [go_sem])
  have r2 : u1.cell? ⟨w.heap.size + 1, 2, none⟩ = some (.int .i64 h) := (hb1.cell (p := ⟨w.heap.size + 1, 2, none⟩) (by simp)).trans (by simp [go_sem])
  have r3 : u1.cell? ⟨w.heap.size + 1, 3, none⟩ = some (.int .i64 j) := (hb1.cell (p := ⟨w.heap.size + 1, 3, none⟩) (by simp)).trans (by simp [go_sem])
  clear hb1
  go_wp2_with fail
  refine (impl_validFormat l wd h j _).mono ?_
  rintro e u2 ⟨rfl, hb2⟩
  rw [hf]
  have HB2 := hide (HB1.out.trans (hb2.mono HB1.out.size))
  clear hb2
  go_wp2
  go_ret2
  exact ⟨rfl, HB2.out⟩
theorem impl_sf_range (a b c d l wd h j s off : Int) (w : World) (hv : Mould.ok ⟨a, b, c, d⟩ = true) (hf : fmtB l wd h j = true) (hr : ¬ (0 ≤ s ∧ s ≤ 200)) :
    Calls Try.prog 37 #[.agg #[.int .i64 a, .int .i64 b, .int .i64 c, .int .i64 d], .agg #[.int .i64 l, .int .i64 wd, .int .i64 h, .int .i64 j], .int .i64 s, .int .i64 off] w fun e w' => e = .returned (.tuple #[.string ⟨#[]⟩, .int .i64 2]) ∧ Below w.heap.size w w' := by
  go_enter Try.func37, Try.ntmps37
  go_wp2_with fail
  refine (impl_validMould a b c d _).mono ?_
  rintro e u1 ⟨rfl, hb1⟩
  rw [hv]
  have HB1 := hide (((((Below.refl w.heap.size w).alloc (Nat.le_refl _) (.cells #[.int .i64 a, .int .i64 b, .int .i64 c, .int .i64 d] 68)).alloc (by simp) (.cells #[.int .i64 l, .int .i64 wd, .int .i64 h, .int .i64 j] 55))).trans (hb1.mono (by simp; omega)))
  have hz1 := hb1.size
  simp at hz1
  have r0 : u1.cell? ⟨w.heap.size + 1, 0, none⟩ = some (.int .i64 l) := (hb1.cell (p := ⟨w.heap.size + 1, 0, none⟩) (by simp)).trans (by simp [go_sem])
  have r1 : u1.cell? ⟨w.heap.size + 1, 1, none⟩ = some (.int .i64 wd) := (hb1.cell (p := ⟨w.heap.size + 1, 1, none⟩) (by simp)).trans (by simp [go_sem])
  have r2 : u1.cell? ⟨w.heap.size + 1, 2, none⟩ = some (.int .i64 h) := (hb1.cell (p := ⟨w.heap.size + 1, 2, none⟩) (by simp)).trans (by simp [go_sem])
  have r3 : u1.cell? ⟨w.heap.size + 1, 3, none⟩ = some (.int .i64 j) := (hb1.cell (p := ⟨w.heap.size + 1, 3, none⟩) (by simp)).trans (by simp [go_sem])
  clear hb1
  go_wp2_with fail
  refine (impl_validFormat l wd h j _).mono ?_
  rintro e u2 ⟨rfl, hb2⟩
  rw [hf]
  have HB2 := hide (HB1.out.trans (hb2.mono HB1.out.size))
  clear hb2
  go_wp2_with fail
  refine (impl_isShrink s _).mono ?_
  rintro e u3 ⟨rfl, rfl⟩
  rw [decide_eq_false hr]
  go_wp2
  go_ret2
  exact ⟨rfl, HB2.out⟩
theorem impl_sf_range2 (a b c d l wd h j s off : Int) (w : World) (hv : Mould.ok ⟨a, b, c, d⟩ = true) (hf : fmtB l wd h j = true) (hr : 0 ≤ s ∧ s ≤ 200) (ho : ¬ (0 ≤ off ∧ off ≤ 100)) :
    Calls Try.prog 37 #[.agg #[.int .i64 a, .int .i64 b, .int .i64 c, .int .i64 d], .agg #[.int .i64 l, .int .i64 wd, .int .i64 h, .int .i64 j], .int .i64 s, .int .i64 off] w fun e w' => e = .returned (.tuple #[.string ⟨#[]⟩, .int .i64 2]) ∧ Below w.heap.size w w' := by
  go_enter Try.func37, Try.ntmps37
  go_wp2_with fail
  refine (impl_validMould a b c d _).mono ?_
  rintro e u1 ⟨rfl, hb1⟩
  rw [hv]
  have HB1 := hide (((((Below.refl w.heap.size w).alloc (Nat.le_refl _) (.cells #[.int .i64 a, .int .i64 b, .int .i64 c, .int .i64 d] 68)).alloc (by simp) (.cells #[.int .i64 l, .int .i64 wd, .int .i64 h, .int .i64 j] 55))).trans (hb1.mono (by simp; omega)))
  have hz1 := hb1.size
  simp at hz1
  have r0 : u1.cell? ⟨w.heap.size + 1, 0, none⟩ = some (.int .i64 l) := (hb1.cell (p := ⟨w.heap.size + 1, 0, none⟩) (by simp)).trans (by simp [go_sem])
  have r1 : u1.cell? ⟨w.heap.size + 1, 1, none⟩ = some (.int .i64 wd) := (hb1.cell (p := ⟨w.heap.size + 1, 1, none⟩) (by simp)).trans (by simp [go_sem])
  have r2 : u1.cell? ⟨w.heap.size + 1, 2, none⟩ = some (.int .i64 h) := (hb1.cell (p := ⟨w.heap.size + 1, 2, none⟩) (by simp)).trans (by simp [go_sem])
  have r3 : u1.cell? ⟨w.heap.size + 1, 3, none⟩ = some (.int .i64 j) := (hb1.cell (p := ⟨w.heap.size + 1, 3, none⟩) (by simp)).trans (by simp [go_sem])
  clear hb1
  go_wp2_with fail
  refine (impl_validFormat l wd h j _).mono ?_
  rintro e u2 ⟨rfl, hb2⟩
  rw [hf]
  have HB2 := hide (HB1.out.trans (hb2.mono HB1.out.size))
  clear hb2
  go_wp2_with fail
  refine (impl_isShrink s _).mono ?_
  rintro e u3 ⟨rfl, rfl⟩
  rw [decide_eq_true hr]
  go_wp2_with fail
  refine (impl_in_no _ _ _ _ ho).mono ?_
  rintro e u4 ⟨rfl, rfl⟩
  go_wp2
  go_ret2
  exact ⟨rfl, HB2.out⟩
theorem impl_sf_yes (a b c d l wd h j s off : Int) (w : World) (hm : Mould.Ok ⟨a, b, c, d⟩) (hf : fmtB l wd h j = true) (hr : 0 ≤ s ∧ s ≤ 200) (ho : 0 ≤ off ∧ off ≤ 100) :
    Calls Try.prog 37 #[.agg #[.int .i64 a, .int .i64 b, .int .i64 c, .int .i64 d], .agg #[.int .i64 l, .int .i64 wd, .int .i64 h, .int .i64 j], .int .i64 s, .int .i64 off] w fun e w' => e = .returned (.tuple #[.string (faultS a b c l wd h s off), .int .i64 0]) ∧ Below w.heap.size w w' := by
  have hm' := hm
  obtain ⟨⟨m0, m1⟩, ⟨m2, m3⟩, ⟨m4, m5⟩, ⟨m6, m7⟩⟩ := hm
  simp only at m0 m1 m2 m3 m4 m5 m6 m7
  obtain ⟨g1, g2, g3, g4, g5, g6, g7, g8, g9⟩ := of_decide_eq_true hf
  have ha : 0 ≤ a ∧ a ≤ 100000 := ⟨by omega, by omega⟩
  have hb : 0 ≤ b ∧ b ≤ 100000 := ⟨by omega, by omega⟩
  have hc : 0 ≤ c ∧ c ≤ 100000 := ⟨by omega, by omega⟩
  have hl : 0 ≤ l ∧ l ≤ 100000 := ⟨by omega, by omega⟩
  have hwd : 0 ≤ wd ∧ wd ≤ 100000 := ⟨by omega, by omega⟩
  have hh : 0 ≤ h ∧ h ≤ 100000 := ⟨by omega, by omega⟩
  unfold faultS
  by_cases t0 : off < absI (firedI a s - l)
  · rw [if_pos t0]
    exact impl_sf_0 a b c d l wd h j s off w hm' hf hr ho ha hb hc hl hwd hh t0
  · rw [if_neg t0]
    by_cases t1 : off < absI (firedI b s - wd)
    · rw [if_pos t1]
      exact impl_sf_1 a b c d l wd h j s off w hm' hf hr ho ha hb hc hl hwd hh t0 t1
    · rw [if_neg t1]
      by_cases t2 : off < absI (firedI c s - h)
      · rw [if_pos t2]
        exact impl_sf_2 a b c d l wd h j s off w hm' hf hr ho ha hb hc hl hwd hh t0 t1 t2
      · rw [if_neg t2]
        exact impl_sf_3 a b c d l wd h j s off w hm' hf hr ho ha hb hc hl hwd hh t0 t1 t2
theorem impl_sf (a b c d l wd h j s off : Int) (K : ByteArray) (cc : Int) (w : World) (hK : sfS a b c d l wd h j s off = K) (hC : sfC a b c d l wd h j s off = cc) :
    Calls Try.prog 37 #[.agg #[.int .i64 a, .int .i64 b, .int .i64 c, .int .i64 d], .agg #[.int .i64 l, .int .i64 wd, .int .i64 h, .int .i64 j], .int .i64 s, .int .i64 off] w fun e w' => e = .returned (.tuple #[.string K, .int .i64 cc]) ∧ Below w.heap.size w w' := by
  subst hK hC
  unfold sfS sfC
  by_cases hm : Mould.Ok ⟨a, b, c, d⟩
  · by_cases hf : fmtB l wd h j = true
    · by_cases hr : 0 ≤ s ∧ s ≤ 200
      · by_cases ho : 0 ≤ off ∧ off ≤ 100
        · rw [if_pos ⟨⟨hm, hf⟩, hr, ho⟩, if_pos ⟨hm, hf⟩, if_pos ⟨hr, ho⟩]
          exact impl_sf_yes a b c d l wd h j s off w hm hf hr ho
        · rw [if_neg (fun q => ho q.2.2), if_pos ⟨hm, hf⟩, if_neg (fun q => ho q.2)]
          exact impl_sf_range2 a b c d l wd h j s off w (decide_eq_true hm) hf hr ho
      · rw [if_neg (fun q => hr q.2.1), if_pos ⟨hm, hf⟩, if_neg (fun q => hr q.1)]
        exact impl_sf_range a b c d l wd h j s off w (decide_eq_true hm) hf hr
    · rw [if_neg (fun q => hf q.1.2), if_neg (fun q => hf q.2)]
      exact impl_sf_bad2 a b c d l wd h j s off w (decide_eq_true hm) (by simpa using hf)
  · rw [if_neg (fun q => hm q.1.1), if_neg (fun q => hm q.1)]
    exact impl_sf_bad a b c d l wd h j s off w (decide_eq_false hm)
theorem own_mould_two (w0 w : World) (hw : w.heap.size = w0.heap.size + 1) (t : TypeId) (a b c d : Int) : Own t 4 Mould.enc (w.alloc (.cells #[.int .i64 a, .int .i64 b, .int .i64 c, .int .i64 d] t)) (w0.heap.size + 1) (w0.heap.size + 1 + 1) (some ⟨w0.heap.size + 1, 0, none⟩) 1 1 [(⟨a, b, c, d⟩ : Mould)] := by
  have h := own_mould_one w t a b c d
  rw [hw] at h
  exact h
end Go.Proofs.Ytgobpleckeeheaa
