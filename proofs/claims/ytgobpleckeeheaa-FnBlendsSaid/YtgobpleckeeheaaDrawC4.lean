/-
  What is proved: limits as the reference draws them: some four numbers. Conditions: as for the source.
-/
import Derived.Test.YtgobpleckeeheaaDrawC3
import Derived.Deep.RegionWith
namespace Go.Proofs.Ytgobpleckeeheaa
open Go.RowKit
set_option linter.unusedVariables false

theorem lim_cells {w : World} {g : Nat} {t : TypeId} {x0 x1 x2 x3 : Value} (h : Blk w g t #[x0, x1, x2, x3]) :
    w.cell? ⟨g, 0, none⟩ = some x0 ∧ w.cell? ⟨g, 1, none⟩ = some x1 ∧ w.cell? ⟨g, 2, none⟩ = some x2 ∧ w.cell? ⟨g, 3, none⟩ = some x3 ∧
    w.frozen? ⟨g, 0, none⟩ = false ∧ w.frozen? ⟨g, 1, none⟩ = false ∧ w.frozen? ⟨g, 2, none⟩ = false ∧ w.frozen? ⟨g, 3, none⟩ = false :=
  ⟨h.cell 0, h.cell 1, h.cell 2, h.cell 3, h.frozen 0, h.frozen 1, h.frozen 2, h.frozen 3⟩
/-- Some limits. -/
def LDrawn (w0 w : World) (b : Nat) (A : Option Addr) (n c k : Nat) (e : Ending) (w' : World) : Prop :=
  ∃ (l h m s : Int) (k' : Nat), e = .returned (.agg #[.int .i64 l, .int .i64 h, .int .i64 m, .int .i64 s]) ∧ k' ≤ k + 16 ∧ Src w0 w' b A n c k' ∧ Only b w w'
set_option maxRecDepth 100000 in
set_option maxHeartbeats 8000000 in
theorem src_l03DrawLimits (w0 w : World) (b : Nat) (A : Option Addr) (n c k : Nat) (z : List Int) (hk : k < 1099511620000) (ha : ArgInts .u8 w0 A n c z) (hs : Src w0 w b A n c k) :
    Calls Try.prog 49 #[.pointer (some ⟨b, 0, none⟩)] w (LDrawn w0 w b A n c k) := by
  have HA := hide ha
  have hbl := hs.lt
  have hba := hs.base
  have hw0 : w0.heap.size ≤ w.heap.size := hs.2.1.size
  have HS := hide (hs.alloc (.cells #[.int .i64 0, .int .i64 0, .int .i64 0, .int .i64 0] 26))
  have HR := hide (Blk.new w 26 #[.int .i64 0, .int .i64 0, .int .i64 0, .int .i64 0])
  have hn0 : w.heap.size ≠ b := by omega
  clear ha hs
  go_enter Try.func49, Try.ntmps49
  go_wp2_with fail
  refine (src_pick w0 _ b A n c k z 14 (by omega) (by omega) (by omega) HA.out HS.out).mono ?_
  rintro e w1 ⟨v1, k1, hv1, hv1', rfl, hk1, hs1, ho1⟩
  have hz1 : w.heap.size < w1.heap.size := by have := ho1.size; simp at this; omega
  have hn1 : w1.heap.size ≠ b := by omega
  have hwa : w0.heap.size ≤ w1.heap.size := by omega
  have HO1 := hide ((((Only.refl b w).alloc _).trans ho1).alloc (.cells #[.int .i64 (40 + 5 * v1), .int .i64 0, .int .i64 0, .int .i64 0] 26))
  have HR1 := hide ((ho1.blk HR.out hn0).alloc (.cells #[.int .i64 (40 + 5 * v1), .int .i64 0, .int .i64 0, .int .i64 0] 26))
  have HS1 := hide (hs1.alloc (.cells #[.int .i64 (40 + 5 * v1), .int .i64 0, .int .i64 0, .int .i64 0] 26))
  have HF1 := hide (Blk.new w1 26 #[.int .i64 (40 + 5 * v1), .int .i64 0, .int .i64 0, .int .i64 0])
  obtain ⟨wA, hwA⟩ : ∃ u, w1.alloc (.cells #[.int .i64 (40 + 5 * v1), .int .i64 0, .int .i64 0, .int .i64 0] 26) = u := ⟨_, rfl⟩
  have hzA : w1.heap.size < wA.heap.size := by rw [← hwA]; simp
  rw [hwA] at HO1 HR1 HS1 HF1
  have HWA := hide hwA
  obtain ⟨a0, a1, a2, a3, g0, g1, g2, g3⟩ := lim_cells HF1.out
  have HF1d := hide (show Blk wA.drew w1.heap.size 26 #[.int .i64 (40 + 5 * v1), .int .i64 0, .int .i64 0, .int .i64 0] from HF1.out)
  have HR1d := hide (show Blk wA.drew w.heap.size 26 #[.int .i64 0, .int .i64 0, .int .i64 0, .int .i64 0] from HR1.out)
  clear hs1 ho1 hwA
  go_wp2
  rw [HWA.out]
  go_region_with (go_at_call 61; refine (src_pick w0 _ b A n c k1 z 8 (by omega) (by omega) (by omega) HA.out (by first | exact HS1.out | exact HS1.out.keep ((Below.refl _ _).drew))).mono ?_; rintro e w2 ⟨v2, k2, hv2, hv2', rfl, hk2, hs2, ho2⟩; have e0 := ((ocell ho2).1 _ 0 hzA hn1).trans a0; have e1 := ((ocell ho2).1 _ 1 hzA hn1).trans a1; have f1 := ((ocell ho2).2 _ 1 hzA hn1).trans g1; have ew : IntKind.i64.wrap (40 + 5 * v1 + 5 * v2) = 40 + 5 * v1 + 5 * v2 := IntWalk.i64_in _ ⟨by omega, by omega⟩; have HS2 := hide (hs2.set_ (p := ⟨w1.heap.size, 1, none⟩) hn1 hwa (.int .i64 (40 + 5 * v1 + 5 * v2))); have HO2 := hide ((HO1.out.drew.trans (by first | exact ho2 | exact ((Only.refl _ _).drew).trans ho2)).set_ (p := ⟨w1.heap.size, 1, none⟩) (.inr (by show w.heap.size ≤ w1.heap.size; omega)) (.int .i64 (40 + 5 * v1 + 5 * v2))); have HF2 := hide ((ho2.blk HF1d.out hn1).set_ 1 (.int .i64 (40 + 5 * v1 + 5 * v2))); have HR2 := hide ((ho2.blk HR1d.out hn0).far (p := ⟨w1.heap.size, 1, none⟩) (by show w.heap.size ≠ w1.heap.size; omega) (.int .i64 (40 + 5 * v1 + 5 * v2))); have hz2 : w1.heap.size < w2.heap.size := Nat.lt_of_lt_of_le hzA ho2.size; clear hs2 ho2)
  all_goals
    clear a0 a1 a2 a3 g0 g1 g2 g3 e0 e1 f1 ew
    go_wp2_with fail
    refine (src_pick w0 _ b A n c k2 z 20 (by omega) (by omega) (by omega) HA.out HS2.out).mono ?_
    rintro e w3 ⟨v3, k3, hv3, hv3', rfl, hk3, hs3, ho3⟩
    have hz3 : w1.heap.size < w3.heap.size := by have := ho3.size; simp at this; omega
    have hF3 := ho3.blk HF2.out hn1
    obtain ⟨a0, a1, a2, a3, g0, g1, g2, g3⟩ := lim_cells hF3
    have HR3 := hide ((ho3.blk HR2.out hn0).far (p := ⟨w1.heap.size, 2, none⟩) (by show w.heap.size ≠ w1.heap.size; omega) (.int .i64 (10 * v3)))
    have HS3 := hide (hs3.set_ (p := ⟨w1.heap.size, 2, none⟩) hn1 hwa (.int .i64 (10 * v3)))
    have HO3 := hide ((HO2.out.trans ho3).set_ (p := ⟨w1.heap.size, 2, none⟩) (.inr (by show w.heap.size ≤ w1.heap.size; omega)) (.int .i64 (10 * v3)))
    have HF3 := hide (hF3.set_ 2 (.int .i64 (10 * v3)))
    clear hs3 ho3 hF3
    go_wp2_with fail
    refine (src_pick w0 _ b A n c k3 z 25 (by omega) (by omega) (by omega) HA.out HS3.out).mono ?_
    rintro e w4 ⟨v4, k4, hv4, hv4', rfl, hk4, hs4, ho4⟩
    have hz4 : w1.heap.size < w4.heap.size := by have := ho4.size; simp at this; omega
    clear a0 a1 a2 a3 g0 g1 g2 g3
    have hF4 := ho4.blk HF3.out hn1
    obtain ⟨a0, a1, a2, a3, g0, g1, g2, g3⟩ := lim_cells hF4
    have HR4 := hide ((ho4.blk HR3.out hn0).far (p := ⟨w1.heap.size, 3, none⟩) (by show w.heap.size ≠ w1.heap.size; omega) (.int .i64 (100 + 20 * v4)))
    have HS4 := hide (hs4.set_ (p := ⟨w1.heap.size, 3, none⟩) hn1 hwa (.int .i64 (100 + 20 * v4)))
    have HO4 := hide ((HO3.out.trans ho4).set_ (p := ⟨w1.heap.size, 3, none⟩) (.inr (by show w.heap.size ≤ w1.heap.size; omega)) (.int .i64 (100 + 20 * v4)))
    have HF4 := hide (hF4.set_ 3 (.int .i64 (100 + 20 * v4)))
    clear hs4 ho4 hF4
    go_wp2_with fail
    refine (src_pick w0 _ b A n c k4 z 20 (by omega) (by omega) (by omega) HA.out HS4.out).mono ?_
    rintro e w5 ⟨v, k5, hv0, hv1, rfl, hk5, hs5, ho5⟩
    have hz5 : w1.heap.size < w5.heap.size := by have := ho5.size; simp at this; omega
    clear a0 a1 a2 a3 g0 g1 g2 g3
    have HO5 := hide (HO4.out.trans ho5)
    have HS5 := hide hs5
    have HR5 := hide (ho5.blk HR4.out hn0)
    have HF5 := hide (show Blk w5 w1.heap.size 26 #[.int .i64 (40 + 5 * v1), .int .i64 (40 + 5 * v1 + 5 * v2), .int .i64 (10 * v3), .int .i64 (100 + 20 * v4)] from ho5.blk HF4.out hn1)
    clear hs5 ho5 HR1 HR2 HR3 HR4 HF1 HF2 HF3 HF4 HS1 HS2 HS3 HS4 HO1 HO2 HO3 HO4
    by_cases h4 : 4 ≤ v
    · have b0 : (v == 0) = false := by simp; omega
      have b1 : (v == 1) = false := by simp; omega
      have b2 : (v == 2) = false := by simp; omega
      have b3 : (v == 3) = false := by simp; omega
      obtain ⟨a0, a1, a2, a3, g0, g1, g2, g3⟩ := lim_cells HF5.out
      obtain ⟨r0, r1, r2, r3, q0, q1, q2, q3⟩ := lim_cells HR5.out
      go_wp2
      refine bodyPost_ret (v := .agg #[.int .i64 (40 + 5 * v1), .int .i64 (40 + 5 * v1 + 5 * v2), .int .i64 (10 * v3), .int .i64 (100 + 20 * v4)]) ?_ rfl ?_
      · simp [results, Try.results49, go_sem, r0, r1, r2, r3]
      · refine ⟨_, _, _, _, k5, rfl, by omega, ?_, ?_⟩
        · exact ((((HS5.out.set_ (p := ⟨w.heap.size, 0, none⟩) hn0 hw0 _).set_ (p := ⟨w.heap.size, 1, none⟩) hn0 hw0 _).set_ (p := ⟨w.heap.size, 2, none⟩) hn0 hw0 _).set_ (p := ⟨w.heap.size, 3, none⟩) hn0 hw0 _)
        · exact ((((HO5.out.set_ (p := ⟨w.heap.size, 0, none⟩) (.inr (Nat.le_refl _)) _).set_ (p := ⟨w.heap.size, 1, none⟩) (.inr (Nat.le_refl _)) _).set_ (p := ⟨w.heap.size, 2, none⟩) (.inr (Nat.le_refl _)) _).set_ (p := ⟨w.heap.size, 3, none⟩) (.inr (Nat.le_refl _)) _)
    rcases (show v = 0 ∨ v = 1 ∨ v = 2 ∨ v = 3 from by omega) with rfl | rfl | rfl | rfl
    · have a1 : w5.cell? ⟨w1.heap.size, 1, none⟩ = some (.int .i64 (40 + 5 * v1 + 5 * v2)) := HF5.out.cell 1
      have v7 := Go.IntWalk.i64_in (40 + 5 * v1 + 5 * v2 + 1) ⟨by omega, by omega⟩
      go_wp2_with fail
      refine (src_amongL [-1, 0, 40 + 5 * v1 + 5 * v2, 40 + 5 * v1 + 5 * v2 + 1] _ _ rfl w0 _ b A n c k5 z 4 rfl (by omega) (by omega) (by omega) HA.out HS5.out _ _ rfl).mono ?_
      rintro e w6 ⟨u, k6, hu, rfl, hk6, hs6, ho6⟩
      clear a1 v7
      have hz6 : w1.heap.size < w6.heap.size := by have := ho6.size; omega
      have HO6 := hide ((HO5.out.trans ho6).set_ (p := ⟨w1.heap.size, 0, none⟩) (.inr (by show w.heap.size ≤ w1.heap.size; omega)) (.int .i64 u))
      have HS6 := hide (hs6.set_ (p := ⟨w1.heap.size, 0, none⟩) hn1 hwa (.int .i64 u))
      obtain ⟨a0, a1, a2, a3, g0, g1, g2, g3⟩ := lim_cells (ho6.blk HF5.out hn1)
      obtain ⟨r0, r1, r2, r3, q0, q1, q2, q3⟩ := lim_cells (ho6.blk HR5.out hn0)
      clear hs6 ho6 hu
      go_wp2
      refine bodyPost_ret (v := .agg #[.int .i64 u, .int .i64 (40 + 5 * v1 + 5 * v2), .int .i64 (10 * v3), .int .i64 (100 + 20 * v4)]) ?_ rfl ?_
      · simp [results, Try.results49, go_sem, r0, r1, r2, r3]
      · refine ⟨_, _, _, _, k6, rfl, by omega, ?_, ?_⟩
        · exact ((((HS6.out.set_ (p := ⟨w.heap.size, 0, none⟩) hn0 hw0 _).set_ (p := ⟨w.heap.size, 1, none⟩) hn0 hw0 _).set_ (p := ⟨w.heap.size, 2, none⟩) hn0 hw0 _).set_ (p := ⟨w.heap.size, 3, none⟩) hn0 hw0 _)
        · exact ((((HO6.out.set_ (p := ⟨w.heap.size, 0, none⟩) (.inr (Nat.le_refl _)) _).set_ (p := ⟨w.heap.size, 1, none⟩) (.inr (Nat.le_refl _)) _).set_ (p := ⟨w.heap.size, 2, none⟩) (.inr (Nat.le_refl _)) _).set_ (p := ⟨w.heap.size, 3, none⟩) (.inr (Nat.le_refl _)) _)
    · go_wp2_with fail
      refine (src_amongL [1000, 1001, -9223372036854775808] _ _ rfl w0 _ b A n c k5 z 3 rfl (by omega) (by omega) (by omega) HA.out HS5.out _ _ rfl).mono ?_
      rintro e w6 ⟨u, k6, hu, rfl, hk6, hs6, ho6⟩
      have hz6 : w1.heap.size < w6.heap.size := by have := ho6.size; omega
      have HO6 := hide ((HO5.out.trans ho6).set_ (p := ⟨w1.heap.size, 1, none⟩) (.inr (by show w.heap.size ≤ w1.heap.size; omega)) (.int .i64 u))
      have HS6 := hide (hs6.set_ (p := ⟨w1.heap.size, 1, none⟩) hn1 hwa (.int .i64 u))
      obtain ⟨a0, a1, a2, a3, g0, g1, g2, g3⟩ := lim_cells (ho6.blk HF5.out hn1)
      obtain ⟨r0, r1, r2, r3, q0, q1, q2, q3⟩ := lim_cells (ho6.blk HR5.out hn0)
      clear hs6 ho6 hu
      go_wp2
      refine bodyPost_ret (v := .agg #[.int .i64 (40 + 5 * v1), .int .i64 u, .int .i64 (10 * v3), .int .i64 (100 + 20 * v4)]) ?_ rfl ?_
      · simp [results, Try.results49, go_sem, r0, r1, r2, r3]
      · refine ⟨_, _, _, _, k6, rfl, by omega, ?_, ?_⟩
        · exact ((((HS6.out.set_ (p := ⟨w.heap.size, 0, none⟩) hn0 hw0 _).set_ (p := ⟨w.heap.size, 1, none⟩) hn0 hw0 _).set_ (p := ⟨w.heap.size, 2, none⟩) hn0 hw0 _).set_ (p := ⟨w.heap.size, 3, none⟩) hn0 hw0 _)
        · exact ((((HO6.out.set_ (p := ⟨w.heap.size, 0, none⟩) (.inr (Nat.le_refl _)) _).set_ (p := ⟨w.heap.size, 1, none⟩) (.inr (Nat.le_refl _)) _).set_ (p := ⟨w.heap.size, 2, none⟩) (.inr (Nat.le_refl _)) _).set_ (p := ⟨w.heap.size, 3, none⟩) (.inr (Nat.le_refl _)) _)
    · go_wp2_with fail
      refine (src_amongL [-1, 0, 1000, 1001] _ _ rfl w0 _ b A n c k5 z 4 rfl (by omega) (by omega) (by omega) HA.out HS5.out _ _ rfl).mono ?_
      rintro e w6 ⟨u, k6, hu, rfl, hk6, hs6, ho6⟩
      have hz6 : w1.heap.size < w6.heap.size := by have := ho6.size; omega
      have HO6 := hide ((HO5.out.trans ho6).set_ (p := ⟨w1.heap.size, 2, none⟩) (.inr (by show w.heap.size ≤ w1.heap.size; omega)) (.int .i64 u))
      have HS6 := hide (hs6.set_ (p := ⟨w1.heap.size, 2, none⟩) hn1 hwa (.int .i64 u))
      obtain ⟨a0, a1, a2, a3, g0, g1, g2, g3⟩ := lim_cells (ho6.blk HF5.out hn1)
      obtain ⟨r0, r1, r2, r3, q0, q1, q2, q3⟩ := lim_cells (ho6.blk HR5.out hn0)
      clear hs6 ho6 hu
      go_wp2
      refine bodyPost_ret (v := .agg #[.int .i64 (40 + 5 * v1), .int .i64 (40 + 5 * v1 + 5 * v2), .int .i64 u, .int .i64 (100 + 20 * v4)]) ?_ rfl ?_
      · simp [results, Try.results49, go_sem, r0, r1, r2, r3]
      · refine ⟨_, _, _, _, k6, rfl, by omega, ?_, ?_⟩
        · exact ((((HS6.out.set_ (p := ⟨w.heap.size, 0, none⟩) hn0 hw0 _).set_ (p := ⟨w.heap.size, 1, none⟩) hn0 hw0 _).set_ (p := ⟨w.heap.size, 2, none⟩) hn0 hw0 _).set_ (p := ⟨w.heap.size, 3, none⟩) hn0 hw0 _)
        · exact ((((HO6.out.set_ (p := ⟨w.heap.size, 0, none⟩) (.inr (Nat.le_refl _)) _).set_ (p := ⟨w.heap.size, 1, none⟩) (.inr (Nat.le_refl _)) _).set_ (p := ⟨w.heap.size, 2, none⟩) (.inr (Nat.le_refl _)) _).set_ (p := ⟨w.heap.size, 3, none⟩) (.inr (Nat.le_refl _)) _)
    · go_wp2_with fail
      refine (src_amongL [-1, 0, 1000, 1001] _ _ rfl w0 _ b A n c k5 z 4 rfl (by omega) (by omega) (by omega) HA.out HS5.out _ _ rfl).mono ?_
      rintro e w6 ⟨u, k6, hu, rfl, hk6, hs6, ho6⟩
      have hz6 : w1.heap.size < w6.heap.size := by have := ho6.size; omega
      have HO6 := hide ((HO5.out.trans ho6).set_ (p := ⟨w1.heap.size, 3, none⟩) (.inr (by show w.heap.size ≤ w1.heap.size; omega)) (.int .i64 u))
      have HS6 := hide (hs6.set_ (p := ⟨w1.heap.size, 3, none⟩) hn1 hwa (.int .i64 u))
      obtain ⟨a0, a1, a2, a3, g0, g1, g2, g3⟩ := lim_cells (ho6.blk HF5.out hn1)
      obtain ⟨r0, r1, r2, r3, q0, q1, q2, q3⟩ := lim_cells (ho6.blk HR5.out hn0)
      clear hs6 ho6 hu
      go_wp2
      refine bodyPost_ret (v := .agg #[.int .i64 (40 + 5 * v1), .int .i64 (40 + 5 * v1 + 5 * v2), .int .i64 (10 * v3), .int .i64 u]) ?_ rfl ?_
      · simp [results, Try.results49, go_sem, r0, r1, r2, r3]
      · refine ⟨_, _, _, _, k6, rfl, by omega, ?_, ?_⟩
        · exact ((((HS6.out.set_ (p := ⟨w.heap.size, 0, none⟩) hn0 hw0 _).set_ (p := ⟨w.heap.size, 1, none⟩) hn0 hw0 _).set_ (p := ⟨w.heap.size, 2, none⟩) hn0 hw0 _).set_ (p := ⟨w.heap.size, 3, none⟩) hn0 hw0 _)
        · exact ((((HO6.out.set_ (p := ⟨w.heap.size, 0, none⟩) (.inr (Nat.le_refl _)) _).set_ (p := ⟨w.heap.size, 1, none⟩) (.inr (Nat.le_refl _)) _).set_ (p := ⟨w.heap.size, 2, none⟩) (.inr (Nat.le_refl _)) _).set_ (p := ⟨w.heap.size, 3, none⟩) (.inr (Nat.le_refl _)) _)
end Go.Proofs.Ytgobpleckeeheaa
