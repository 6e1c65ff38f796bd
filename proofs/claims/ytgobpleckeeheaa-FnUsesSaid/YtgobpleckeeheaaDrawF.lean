/-
  What is proved: the formats that the reference draws are valid, with bounds. Conditions: as for the source.
-/
import Derived.Test.YtgobpleckeeheaaSrc2
import Derived.Deep.RegionHeld3
import Derived.WalkSpells
namespace Go.Proofs.Ytgobpleckeeheaa
open Go.RowKit
set_option linter.unusedVariables false

/-- What l02Draw leaves. -/
def DrawnF (w0 w : World) (b : Nat) (A : Option Addr) (n c k : Nat) (e : Ending) (w' : World) : Prop :=
  ∃ (l wd h j : Int) (k' : Nat), (90 ≤ wd ∧ wd ≤ 119 ∧ 0 ≤ j ∧ j ≤ 12 ∧ 50 ≤ h ∧ h ≤ 89 ∧ 2 * wd + j ≤ l ∧ l ≤ 2 * wd + j + 29) ∧
    e = .returned (.agg #[.int .i64 l, .int .i64 wd, .int .i64 h, .int .i64 j]) ∧ k' ≤ k + 10 ∧ Src w0 w' b A n c k' ∧ Only b w w'

/-- The format's cells, while it is drawn. -/
theorem four_cells {w : World} {g : Nat} {t : TypeId} {x0 x1 x2 x3 : Value} (h : Blk w g t #[x0, x1, x2, x3]) :
    w.cell? ⟨g, 0, none⟩ = some x0 ∧ w.cell? ⟨g, 1, none⟩ = some x1 ∧ w.cell? ⟨g, 2, none⟩ = some x2 ∧ w.cell? ⟨g, 3, none⟩ = some x3 ∧
    w.frozen? ⟨g, 0, none⟩ = false ∧ w.frozen? ⟨g, 1, none⟩ = false ∧ w.frozen? ⟨g, 2, none⟩ = false ∧ w.frozen? ⟨g, 3, none⟩ = false :=
  ⟨h.cell 0, h.cell 1, h.cell 2, h.cell 3, h.frozen 0, h.frozen 1, h.frozen 2, h.frozen 3⟩

set_option maxHeartbeats 2000000 in
theorem src_l02Draw (w0 w : World) (b : Nat) (A : Option Addr) (n c k : Nat) (z : List Int) (hk : k < 1099511627700) (ha : ArgInts .u8 w0 A n c z) (hs : Src w0 w b A n c k) :
    Calls Try.prog 109 #[.pointer (some ⟨b, 0, none⟩)] w (DrawnF w0 w b A n c k) := by
  have HA := hide ha
  have hbl := hs.lt
  have hba := hs.base
  have HS := hide (hs.alloc (.cells #[.int .i64 0, .int .i64 0, .int .i64 0, .int .i64 0] 55))
  have hR := Blk.new w 55 #[.int .i64 0, .int .i64 0, .int .i64 0, .int .i64 0]
  have HR := hide hR
  have hn0 : w.heap.size ≠ b := by omega
  clear ha hs hR
  go_enter Try.func109, Try.ntmps109
  go_wp2_with fail
  refine (src_pick w0 _ b A n c k z _ (by omega) (by omega) (by omega) HA.out HS.out).mono ?_
  rintro e w1 ⟨v1, k1, hv1, hv1', rfl, hk1, hs1, ho1⟩
  have hz1 : w.heap.size < w1.heap.size := by have := ho1.size; simp at this; omega
  have hn1 : w1.heap.size ≠ b := by omega
  have HO1 := hide (((Only.refl b w).alloc _).trans ho1)
  have HR1 := hide (ho1.blk HR.out hn0)
  have HS1 := hide (hs1.alloc (.cells #[.int .i64 0, .int .i64 (90 + v1), .int .i64 0, .int .i64 0] 55))
  have HF1 := hide (Blk.new w1 55 #[.int .i64 0, .int .i64 (90 + v1), .int .i64 0, .int .i64 0])
  clear hs1 ho1
  go_wp2_with fail
  refine (src_pick w0 _ b A n c k1 z _ (by omega) (by omega) (by omega) HA.out HS1.out).mono ?_
  rintro e w2 ⟨v2, k2, hv2, hv2', rfl, hk2, hs2, ho2⟩
  have hz2 : w1.heap.size < w2.heap.size := by have := ho2.size; simp at this; omega
  have hF2 := ho2.blk HF1.out hn1
  have HR2 := hide (ho2.blk (HR1.out.alloc _) hn0)
  have HO2 := hide ((HO1.out.alloc _).trans ho2)
  have HF2 := hide (hF2.set_ 3 (.int .i64 v2))
  have HS2 := hide (hs2.set_ (p := ⟨w1.heap.size, 3, none⟩) hn1 (by have := HS1.out.2.1.size; simp at this ⊢; omega) (.int .i64 v2))
  obtain ⟨a0, a1, a2, a3, g0, g1, g2, g3⟩ := four_cells hF2
  clear hs2 ho2 hF2
  go_wp2_with fail
  refine (src_pick w0 _ b A n c k2 z _ (by omega) (by omega) (by omega) HA.out HS2.out).mono ?_
  rintro e w3 ⟨v3, k3, hv3, hv3', rfl, hk3, hs3, ho3⟩
  clear a0 a1 a2 a3 g0 g1 g2 g3
  have hz3 : w1.heap.size < w3.heap.size := by have := ho3.size; simp at this; omega
  have hF3 := ho3.blk HF2.out hn1
  obtain ⟨a0, a1, a2, a3, g0, g1, g2, g3⟩ := four_cells hF3
  have HF3 := hide ((hF3.set_ 2 (.int .i64 (50 + v3))).set_ 0 (.int .i64 (2 * (90 + v1) + v2)))
  have HS3 := hide ((hs3.set_ (p := ⟨w1.heap.size, 2, none⟩) hn1 (by have := HS1.out.2.1.size; simp at this ⊢; omega) (.int .i64 (50 + v3))).set_ (p := ⟨w1.heap.size, 0, none⟩) hn1 (by have := HS1.out.2.1.size; simp at this ⊢; omega) (.int .i64 (2 * (90 + v1) + v2)))
  have HR3 := hide (ho3.blk (HR2.out.far (p := ⟨w1.heap.size, 3, none⟩) (by simp; omega) (.int .i64 v2)) hn0)
  have HO3 := hide ((HO2.out.set_ (p := ⟨w1.heap.size, 3, none⟩) (.inr (by simp; omega)) (.int .i64 v2)).trans ho3)
  clear hs3 ho3 hF3
  go_wp2_with fail
  refine (src_one w0 _ b A n c k3 z _ (by omega) (by omega) (by omega) HA.out HS3.out).mono ?_
  rintro e w4 ⟨yes, k4, rfl, hk4, hs4, ho4⟩
  clear a0 a1 a2 a3 g0 g1 g2 g3
  have hz4 : w1.heap.size < w4.heap.size := by have := ho4.size; simp at this; omega
  have hF4 := ho4.blk HF3.out hn1
  obtain ⟨a0, a1, a2, a3, g0, g1, g2, g3⟩ := four_cells hF4
  have hR4 := ho4.blk ((HR3.out.far (p := ⟨w1.heap.size, 2, none⟩) (by simp; omega) (.int .i64 (50 + v3))).far (p := ⟨w1.heap.size, 0, none⟩) (by simp; omega) (.int .i64 (2 * (90 + v1) + v2))) hn0
  obtain ⟨r0, r1, r2, r3, q0, q1, q2, q3⟩ := four_cells hR4
  have HS4 := hide hs4
  have HO4 := hide (((HO3.out.set_ (p := ⟨w1.heap.size, 2, none⟩) (.inr (by simp; omega)) (.int .i64 (50 + v3))).set_ (p := ⟨w1.heap.size, 0, none⟩) (.inr (by simp; omega)) (.int .i64 (2 * (90 + v1) + v2))).trans ho4)
  have HF4 := hide hF4
  have HR4 := hide hR4
  clear hs4 ho4 hF4 hR4
  have hw0 : w0.heap.size ≤ w.heap.size := by have := HS.out.2.1.size; omega
  cases yes
  · go_wp2
    refine bodyPost_ret (v := .agg #[.int .i64 (2 * (90 + v1) + v2), .int .i64 (90 + v1), .int .i64 (50 + v3), .int .i64 v2]) ?_ rfl ?_
    · simp [results, Try.results109, go_sem, r0, r1, r2, r3]
    · refine ⟨_, _, _, _, k4, ⟨by omega, by omega, by omega, by omega, by omega, by omega, by omega, by omega⟩, rfl, by omega, ?_, ?_⟩
      · exact (((HS4.out.set_ (p := ⟨w.heap.size, 0, none⟩) hn0 hw0 _).set_ (p := ⟨w.heap.size, 1, none⟩) hn0 hw0 _).set_ (p := ⟨w.heap.size, 2, none⟩) hn0 hw0 _).set_ (p := ⟨w.heap.size, 3, none⟩) hn0 hw0 _
      · exact (((HO4.out.set_ (p := ⟨w.heap.size, 0, none⟩) (.inr (Nat.le_refl _)) _).set_ (p := ⟨w.heap.size, 1, none⟩) (.inr (Nat.le_refl _)) _).set_ (p := ⟨w.heap.size, 2, none⟩) (.inr (Nat.le_refl _)) _).set_ (p := ⟨w.heap.size, 3, none⟩) (.inr (Nat.le_refl _)) _
  · go_wp2
    go_region_with (go_at_call 61; refine (src_pick w0 _ b A n c k4 z _ (by omega) (by omega) (by omega) HA.out (by first | exact HS4.out | exact HS4.out.keep ((Below.refl _ _).drew))).mono ?_; rintro e w5 ⟨v5, k5, hv5, hv5', rfl, hk5, hs5, ho5⟩; have e5 := ((ocell ho5).1 _ 0 hz4 hn1).trans a0; have f5 := ((ocell ho5).2 _ 0 hz4 hn1).trans g0; have ew : IntKind.i64.wrap (2 * (90 + v1) + v2 + v5) = 2 * (90 + v1) + v2 + v5 := IntWalk.i64_in _ ⟨by omega, by omega⟩; have HS5 := hide hs5; have HO5 := hide ho5; clear hs5 ho5)
    all_goals
      clear a0 a1 a2 a3 g0 g1 g2 g3 r0 r1 r2 r3 q0 q1 q2 q3 e5 f5 ew
      have hz5 : w1.heap.size < w5.heap.size := by have := HO5.out.size; have h9 : w4.drew.heap.size = w4.heap.size := rfl; omega
      have hw1 : w0.heap.size ≤ w1.heap.size := by omega
      have hF5 := (HO5.out.blk HF4.out hn1).set_ 0 (.int .i64 (2 * (90 + v1) + v2 + v5))
      obtain ⟨a0, a1, a2, a3, g0, g1, g2, g3⟩ := four_cells (HO5.out.blk HF4.out hn1)
      obtain ⟨r0, r1, r2, r3, q0, q1, q2, q3⟩ := four_cells (HO5.out.blk HR4.out hn0)
      clear hF5
      go_wp2
      refine bodyPost_ret (v := .agg #[.int .i64 (2 * (90 + v1) + v2 + v5), .int .i64 (90 + v1), .int .i64 (50 + v3), .int .i64 v2]) ?_ rfl ?_
      · simp [results, Try.results109, go_sem, r0, r1, r2, r3]
      · refine ⟨_, _, _, _, k5, ⟨by omega, by omega, by omega, by omega, by omega, by omega, by omega, by omega⟩, rfl, by omega, ?_, ?_⟩
        · exact ((((HS5.out.set_ (p := ⟨w1.heap.size, 0, none⟩) hn1 hw1 _).set_ (p := ⟨w.heap.size, 0, none⟩) hn0 hw0 _).set_ (p := ⟨w.heap.size, 1, none⟩) hn0 hw0 _).set_ (p := ⟨w.heap.size, 2, none⟩) hn0 hw0 _).set_ (p := ⟨w.heap.size, 3, none⟩) hn0 hw0 _
        · exact (((((HO4.out.drew.trans HO5.out).set_ (p := ⟨w1.heap.size, 0, none⟩) (.inr (by simp; omega)) _).set_ (p := ⟨w.heap.size, 0, none⟩) (.inr (Nat.le_refl _)) _).set_ (p := ⟨w.heap.size, 1, none⟩) (.inr (Nat.le_refl _)) _).set_ (p := ⟨w.heap.size, 2, none⟩) (.inr (Nat.le_refl _)) _).set_ (p := ⟨w.heap.size, 3, none⟩) (.inr (Nat.le_refl _)) _
end Go.Proofs.Ytgobpleckeeheaa
