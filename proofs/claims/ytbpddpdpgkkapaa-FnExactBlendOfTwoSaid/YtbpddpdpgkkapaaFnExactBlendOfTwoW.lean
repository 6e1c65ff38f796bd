/-
  What is proved: the law FnExactBlendOfTwo returns true and changes nothing that was there, for every input. No conditions beyond the arguments' own ranges.
-/
import Derived.Test.YtbpddpdpgkkapaaTwo2
import Derived.Test.YtbpddpdpgkkapaaAgg5
import Derived.Deep.RegionWith
namespace Go.Proofs.Ytbpddpdpgkkapaa
open Go.RowKit
set_option linter.unusedVariables false

set_option maxRecDepth 100000 in
set_option maxHeartbeats 4000000 in
theorem fnExactBlendOfTwoWalk (a0p : ByteArray) (a0q a0r a0s a0x : Int) (a1p : ByteArray) (a1q a1r a1s a1x : Int) (a2 : Int) (w : World) (w0p : a0p.size ≤ maxLen) (w0q : (Lit.int .i64 a0q).wf = true) (w0r : (Lit.int .i64 a0r).wf = true) (w0s : (Lit.int .i64 a0s).wf = true) (w0x : (Lit.int .i64 a0x).wf = true) (w1p : a1p.size ≤ maxLen) (w1q : (Lit.int .i64 a1q).wf = true) (w1r : (Lit.int .i64 a1r).wf = true) (w1s : (Lit.int .i64 a1s).wf = true) (w1x : (Lit.int .i64 a1x).wf = true) (w2 : (Lit.int .i64 a2).wf = true) :
    Calls Try.prog 4 #[.agg #[.string a0p, .int .i64 a0q, .int .i64 a0r, .int .i64 a0s, .int .i64 a0x], .agg #[.string a1p, .int .i64 a1q, .int .i64 a1r, .int .i64 a1s, .int .i64 a1x], .int .i64 a2] w fun e w' => e = .returned (.bool true) ∧ Below w.heap.size w w' := by
  clear w0q w0r w0s w0x w1q w1r w1s w1x w2
  obtain ⟨K, hK⟩ : ∃ K, twoX ⟨a0p, a0q, a0r, a0s, a0x⟩ ⟨a1p, a1q, a1r, a1s, a1x⟩ a2 = K := ⟨_, rfl⟩
  obtain ⟨Y, hY⟩ : ∃ K, twoY ⟨a0p, a0q, a0r, a0s, a0x⟩ ⟨a1p, a1q, a1r, a1s, a1x⟩ a2 = K := ⟨_, rfl⟩
  obtain ⟨cc, hC⟩ : ∃ cc, twoC ⟨a0p, a0q, a0r, a0s, a0x⟩ ⟨a1p, a1q, a1r, a1s, a1x⟩ a2 = cc := ⟨_, rfl⟩
  have HK := hide hK
  have HY := hide hY
  have HC := hide hC
  clear hK hY hC
  go_enter Try.func4, Try.ntmps4
  have B0 := hide (Below.refl w.heap.size w)
  obtain ⟨u1, hu1⟩ : ∃ u, w.alloc (.cells #[.string a0p, .int .i64 a0q, .int .i64 a0r, .int .i64 a0s, .int .i64 a0x] 29) = u := ⟨_, rfl⟩
  have hb1 : Below w.heap.size w u1 := by rw [← hu1]; exact (Below.refl _ _).alloc (Nat.le_refl _) _
  have e1 : w.heap.size < u1.heap.size := by rw [← hu1]; simp
  have B1 := hide (B0.out.trans (hb1.mono B0.out.size))
  have f1_0 : u1.cell? ⟨w.heap.size, 0, none⟩ = some (.string a0p) := by rw [← hu1]; simp [go_sem]
  have f1_1 : u1.cell? ⟨w.heap.size, 1, none⟩ = some (.int .i64 a0q) := by rw [← hu1]; simp [go_sem]
  have f1_2 : u1.cell? ⟨w.heap.size, 2, none⟩ = some (.int .i64 a0r) := by rw [← hu1]; simp [go_sem]
  have f1_3 : u1.cell? ⟨w.heap.size, 3, none⟩ = some (.int .i64 a0s) := by rw [← hu1]; simp [go_sem]
  have f1_4 : u1.cell? ⟨w.heap.size, 4, none⟩ = some (.int .i64 a0x) := by rw [← hu1]; simp [go_sem]
  have f1_0o := f1_0
  rw [← hu1] at f1_0o
  have f1_1o := f1_1
  rw [← hu1] at f1_1o
  have f1_2o := f1_2
  rw [← hu1] at f1_2o
  have f1_3o := f1_3
  rw [← hu1] at f1_3o
  have f1_4o := f1_4
  rw [← hu1] at f1_4o
  clear hb1 B0
  have HU1 := hide hu1
  clear hu1
  clear f1_0o f1_1o f1_2o f1_3o f1_4o
  obtain ⟨u2, hu2⟩ : ∃ u, u1.alloc (.cells #[.string a1p, .int .i64 a1q, .int .i64 a1r, .int .i64 a1s, .int .i64 a1x] 29) = u := ⟨_, rfl⟩
  have hb2 : Below u1.heap.size u1 u2 := by rw [← hu2]; exact (Below.refl _ _).alloc (Nat.le_refl _) _
  have e2 : u1.heap.size < u2.heap.size := by rw [← hu2]; simp
  have B2 := hide (B1.out.trans (hb2.mono B1.out.size))
  replace f1_0 := (hb2.cell (p := ⟨w.heap.size, 0, none⟩) (show w.heap.size < u1.heap.size from by omega)).trans f1_0
  replace f1_1 := (hb2.cell (p := ⟨w.heap.size, 1, none⟩) (show w.heap.size < u1.heap.size from by omega)).trans f1_1
  replace f1_2 := (hb2.cell (p := ⟨w.heap.size, 2, none⟩) (show w.heap.size < u1.heap.size from by omega)).trans f1_2
  replace f1_3 := (hb2.cell (p := ⟨w.heap.size, 3, none⟩) (show w.heap.size < u1.heap.size from by omega)).trans f1_3
  replace f1_4 := (hb2.cell (p := ⟨w.heap.size, 4, none⟩) (show w.heap.size < u1.heap.size from by omega)).trans f1_4
  have hs2 : u1.heap.size = w.heap.size + 1 := by rw [← HU1.out]; simp
  have f2_0 : u2.cell? ⟨w.heap.size + 1, 0, none⟩ = some (.string a1p) := by rw [← hu2, ← hs2]; simp [go_sem]
  have f2_1 : u2.cell? ⟨w.heap.size + 1, 1, none⟩ = some (.int .i64 a1q) := by rw [← hu2, ← hs2]; simp [go_sem]
  have f2_2 : u2.cell? ⟨w.heap.size + 1, 2, none⟩ = some (.int .i64 a1r) := by rw [← hu2, ← hs2]; simp [go_sem]
  have f2_3 : u2.cell? ⟨w.heap.size + 1, 3, none⟩ = some (.int .i64 a1s) := by rw [← hu2, ← hs2]; simp [go_sem]
  have f2_4 : u2.cell? ⟨w.heap.size + 1, 4, none⟩ = some (.int .i64 a1x) := by rw [← hu2, ← hs2]; simp [go_sem]
  have f1_0o := f1_0
  rw [← hu2] at f1_0o
  have f1_1o := f1_1
  rw [← hu2] at f1_1o
  have f1_2o := f1_2
  rw [← hu2] at f1_2o
  have f1_3o := f1_3
  rw [← hu2] at f1_3o
  have f1_4o := f1_4
  rw [← hu2] at f1_4o
  have f2_0o := f2_0
  rw [← hu2] at f2_0o
  have f2_1o := f2_1
  rw [← hu2] at f2_1o
  have f2_2o := f2_2
  rw [← hu2] at f2_2o
  have f2_3o := f2_3
  rw [← hu2] at f2_3o
  have f2_4o := f2_4
  rw [← hu2] at f2_4o
  clear hb2 B1
  have HU2 := hide hu2
  clear hu2
  go_wp2_with fail
  rw [HU1.out]
  rw [HU2.out]

  refine (szClay_ok a0p a0q a0r a0s a0x 1048576 _ (by omega) (by omega) w0p).mono ?_
  rintro e u3 ⟨⟨t0, rfl, ht0⟩, hb3⟩
  have e3 : u2.heap.size ≤ u3.heap.size := hb3.size
  clear f1_0o f1_1o f1_2o f1_3o f1_4o f2_0o f2_1o f2_2o f2_3o f2_4o
  have B3 := hide (B2.out.trans (hb3.mono B2.out.size))
  replace f1_0 := (hb3.cell (p := ⟨w.heap.size, 0, none⟩) (show w.heap.size < u2.heap.size from by omega)).trans f1_0
  replace f1_1 := (hb3.cell (p := ⟨w.heap.size, 1, none⟩) (show w.heap.size < u2.heap.size from by omega)).trans f1_1
  replace f1_2 := (hb3.cell (p := ⟨w.heap.size, 2, none⟩) (show w.heap.size < u2.heap.size from by omega)).trans f1_2
  replace f1_3 := (hb3.cell (p := ⟨w.heap.size, 3, none⟩) (show w.heap.size < u2.heap.size from by omega)).trans f1_3
  replace f1_4 := (hb3.cell (p := ⟨w.heap.size, 4, none⟩) (show w.heap.size < u2.heap.size from by omega)).trans f1_4
  replace f2_0 := (hb3.cell (p := ⟨w.heap.size + 1, 0, none⟩) (show w.heap.size + 1 < u2.heap.size from by omega)).trans f2_0
  replace f2_1 := (hb3.cell (p := ⟨w.heap.size + 1, 1, none⟩) (show w.heap.size + 1 < u2.heap.size from by omega)).trans f2_1
  replace f2_2 := (hb3.cell (p := ⟨w.heap.size + 1, 2, none⟩) (show w.heap.size + 1 < u2.heap.size from by omega)).trans f2_2
  replace f2_3 := (hb3.cell (p := ⟨w.heap.size + 1, 3, none⟩) (show w.heap.size + 1 < u2.heap.size from by omega)).trans f2_3
  replace f2_4 := (hb3.cell (p := ⟨w.heap.size + 1, 4, none⟩) (show w.heap.size + 1 < u2.heap.size from by omega)).trans f2_4
  clear hb3 B2
  rcases ht0 with rfl | ⟨hp0, hq0⟩
  · go_wp2
    go_ret
    exact ⟨rfl, B3.out⟩
  have d0 : decide (t0 < 0) = false := by simp; omega
  go_wp2_with fail
  refine (szClay_ok a1p a1q a1r a1s a1x t0 _ (by omega) (by omega) w1p).mono ?_
  rintro e u4 ⟨⟨t1, rfl, ht1⟩, hb4⟩
  have e4 : u3.heap.size ≤ u4.heap.size := hb4.size
  have B4 := hide (B3.out.trans (hb4.mono B3.out.size))
  replace f1_0 := (hb4.cell (p := ⟨w.heap.size, 0, none⟩) (show w.heap.size < u3.heap.size from by omega)).trans f1_0
  replace f1_1 := (hb4.cell (p := ⟨w.heap.size, 1, none⟩) (show w.heap.size < u3.heap.size from by omega)).trans f1_1
  replace f1_2 := (hb4.cell (p := ⟨w.heap.size, 2, none⟩) (show w.heap.size < u3.heap.size from by omega)).trans f1_2
  replace f1_3 := (hb4.cell (p := ⟨w.heap.size, 3, none⟩) (show w.heap.size < u3.heap.size from by omega)).trans f1_3
  replace f1_4 := (hb4.cell (p := ⟨w.heap.size, 4, none⟩) (show w.heap.size < u3.heap.size from by omega)).trans f1_4
  replace f2_0 := (hb4.cell (p := ⟨w.heap.size + 1, 0, none⟩) (show w.heap.size + 1 < u3.heap.size from by omega)).trans f2_0
  replace f2_1 := (hb4.cell (p := ⟨w.heap.size + 1, 1, none⟩) (show w.heap.size + 1 < u3.heap.size from by omega)).trans f2_1
  replace f2_2 := (hb4.cell (p := ⟨w.heap.size + 1, 2, none⟩) (show w.heap.size + 1 < u3.heap.size from by omega)).trans f2_2
  replace f2_3 := (hb4.cell (p := ⟨w.heap.size + 1, 3, none⟩) (show w.heap.size + 1 < u3.heap.size from by omega)).trans f2_3
  replace f2_4 := (hb4.cell (p := ⟨w.heap.size + 1, 4, none⟩) (show w.heap.size + 1 < u3.heap.size from by omega)).trans f2_4
  clear hb4 B3
  rcases ht1 with rfl | ⟨hp1, hq1⟩
  · go_wp2
    go_ret
    exact ⟨rfl, B4.out⟩
  have d1 : decide (t1 < 0) = false := by simp; omega
  go_wp2
  go_region_with (first
    | (go_at_call_of 22 (Value.string a0p)
       refine (toClay_ok a0p a0q a0r a0s a0x _).mono ?_
       rintro e v1 ⟨rfl, hb⟩
       have hzv1 : u4.heap.size ≤ v1.heap.size := hb.size
       replace f1_0 := (hb.cell (p := ⟨w.heap.size, 0, none⟩) (show w.heap.size < _ from by first | omega | (simp; omega))).trans f1_0
       replace f1_1 := (hb.cell (p := ⟨w.heap.size, 1, none⟩) (show w.heap.size < _ from by first | omega | (simp; omega))).trans f1_1
       replace f1_2 := (hb.cell (p := ⟨w.heap.size, 2, none⟩) (show w.heap.size < _ from by first | omega | (simp; omega))).trans f1_2
       replace f1_3 := (hb.cell (p := ⟨w.heap.size, 3, none⟩) (show w.heap.size < _ from by first | omega | (simp; omega))).trans f1_3
       replace f1_4 := (hb.cell (p := ⟨w.heap.size, 4, none⟩) (show w.heap.size < _ from by first | omega | (simp; omega))).trans f1_4
       replace f2_0 := (hb.cell (p := ⟨w.heap.size + 1, 0, none⟩) (show w.heap.size + 1 < _ from by first | omega | (simp; omega))).trans f2_0
       replace f2_1 := (hb.cell (p := ⟨w.heap.size + 1, 1, none⟩) (show w.heap.size + 1 < _ from by first | omega | (simp; omega))).trans f2_1
       replace f2_2 := (hb.cell (p := ⟨w.heap.size + 1, 2, none⟩) (show w.heap.size + 1 < _ from by first | omega | (simp; omega))).trans f2_2
       replace f2_3 := (hb.cell (p := ⟨w.heap.size + 1, 3, none⟩) (show w.heap.size + 1 < _ from by first | omega | (simp; omega))).trans f2_3
       replace f2_4 := (hb.cell (p := ⟨w.heap.size + 1, 4, none⟩) (show w.heap.size + 1 < _ from by first | omega | (simp; omega))).trans f2_4
       have Bv1 := hide (B4.out.drew.trans (hb.mono B4.out.size))
       clear hb)
    | (go_at_call_of 22 (Value.string a1p)
       refine (toClay_ok a1p a1q a1r a1s a1x _).mono ?_
       rintro e v2 ⟨rfl, hb⟩
       have hzv2 : v1.heap.size ≤ v2.heap.size := hb.size
       replace f1_0 := (hb.cell (p := ⟨w.heap.size, 0, none⟩) (show w.heap.size < _ from by first | omega | (simp; omega))).trans f1_0
       replace f1_1 := (hb.cell (p := ⟨w.heap.size, 1, none⟩) (show w.heap.size < _ from by first | omega | (simp; omega))).trans f1_1
       replace f1_2 := (hb.cell (p := ⟨w.heap.size, 2, none⟩) (show w.heap.size < _ from by first | omega | (simp; omega))).trans f1_2
       replace f1_3 := (hb.cell (p := ⟨w.heap.size, 3, none⟩) (show w.heap.size < _ from by first | omega | (simp; omega))).trans f1_3
       replace f1_4 := (hb.cell (p := ⟨w.heap.size, 4, none⟩) (show w.heap.size < _ from by first | omega | (simp; omega))).trans f1_4
       replace f2_0 := (hb.cell (p := ⟨w.heap.size + 1, 0, none⟩) (show w.heap.size + 1 < _ from by first | omega | (simp; omega))).trans f2_0
       replace f2_1 := (hb.cell (p := ⟨w.heap.size + 1, 1, none⟩) (show w.heap.size + 1 < _ from by first | omega | (simp; omega))).trans f2_1
       replace f2_2 := (hb.cell (p := ⟨w.heap.size + 1, 2, none⟩) (show w.heap.size + 1 < _ from by first | omega | (simp; omega))).trans f2_2
       replace f2_3 := (hb.cell (p := ⟨w.heap.size + 1, 3, none⟩) (show w.heap.size + 1 < _ from by first | omega | (simp; omega))).trans f2_3
       replace f2_4 := (hb.cell (p := ⟨w.heap.size + 1, 4, none⟩) (show w.heap.size + 1 < _ from by first | omega | (simp; omega))).trans f2_4
       have Bv2 := hide (Bv1.out.trans (hb.mono Bv1.out.size))
       clear hb)
    | (go_at_call 21
       refine (spec_two' K Y cc _ _ _ _ _ _ _ _ _ _ _ _ w0p w1p HK.out HY.out HC.out).mono ?_
       rintro e v3 ⟨rfl, hb⟩
       have hzv3 : v2.heap.size ≤ v3.heap.size := hb.size
       replace f1_0 := (hb.cell (p := ⟨w.heap.size, 0, none⟩) (show w.heap.size < _ from by first | omega | (simp; omega))).trans f1_0
       replace f1_1 := (hb.cell (p := ⟨w.heap.size, 1, none⟩) (show w.heap.size < _ from by first | omega | (simp; omega))).trans f1_1
       replace f1_2 := (hb.cell (p := ⟨w.heap.size, 2, none⟩) (show w.heap.size < _ from by first | omega | (simp; omega))).trans f1_2
       replace f1_3 := (hb.cell (p := ⟨w.heap.size, 3, none⟩) (show w.heap.size < _ from by first | omega | (simp; omega))).trans f1_3
       replace f1_4 := (hb.cell (p := ⟨w.heap.size, 4, none⟩) (show w.heap.size < _ from by first | omega | (simp; omega))).trans f1_4
       replace f2_0 := (hb.cell (p := ⟨w.heap.size + 1, 0, none⟩) (show w.heap.size + 1 < _ from by first | omega | (simp; omega))).trans f2_0
       replace f2_1 := (hb.cell (p := ⟨w.heap.size + 1, 1, none⟩) (show w.heap.size + 1 < _ from by first | omega | (simp; omega))).trans f2_1
       replace f2_2 := (hb.cell (p := ⟨w.heap.size + 1, 2, none⟩) (show w.heap.size + 1 < _ from by first | omega | (simp; omega))).trans f2_2
       replace f2_3 := (hb.cell (p := ⟨w.heap.size + 1, 3, none⟩) (show w.heap.size + 1 < _ from by first | omega | (simp; omega))).trans f2_3
       replace f2_4 := (hb.cell (p := ⟨w.heap.size + 1, 4, none⟩) (show w.heap.size + 1 < _ from by first | omega | (simp; omega))).trans f2_4
       have Bv3 := hide (Bv2.out.trans (hb.mono Bv2.out.size))
       clear hb))
  all_goals
    go_wp2
    go_region_with (first
      | (go_at_call_of 22 (Value.string a0p)
         refine (toClay_ok a0p a0q a0r a0s a0x _).mono ?_
         rintro e v11 ⟨rfl, hb⟩
         have hzv11 : v3.heap.size ≤ v11.heap.size := hb.size
         replace f1_0 := (hb.cell (p := ⟨w.heap.size, 0, none⟩) (show w.heap.size < _ from by first | omega | (simp; omega))).trans f1_0
         replace f1_1 := (hb.cell (p := ⟨w.heap.size, 1, none⟩) (show w.heap.size < _ from by first | omega | (simp; omega))).trans f1_1
         replace f1_2 := (hb.cell (p := ⟨w.heap.size, 2, none⟩) (show w.heap.size < _ from by first | omega | (simp; omega))).trans f1_2
         replace f1_3 := (hb.cell (p := ⟨w.heap.size, 3, none⟩) (show w.heap.size < _ from by first | omega | (simp; omega))).trans f1_3
         replace f1_4 := (hb.cell (p := ⟨w.heap.size, 4, none⟩) (show w.heap.size < _ from by first | omega | (simp; omega))).trans f1_4
         replace f2_0 := (hb.cell (p := ⟨w.heap.size + 1, 0, none⟩) (show w.heap.size + 1 < _ from by first | omega | (simp; omega))).trans f2_0
         replace f2_1 := (hb.cell (p := ⟨w.heap.size + 1, 1, none⟩) (show w.heap.size + 1 < _ from by first | omega | (simp; omega))).trans f2_1
         replace f2_2 := (hb.cell (p := ⟨w.heap.size + 1, 2, none⟩) (show w.heap.size + 1 < _ from by first | omega | (simp; omega))).trans f2_2
         replace f2_3 := (hb.cell (p := ⟨w.heap.size + 1, 3, none⟩) (show w.heap.size + 1 < _ from by first | omega | (simp; omega))).trans f2_3
         replace f2_4 := (hb.cell (p := ⟨w.heap.size + 1, 4, none⟩) (show w.heap.size + 1 < _ from by first | omega | (simp; omega))).trans f2_4
         have Bv11 := hide (Bv3.out.drew.trans (hb.mono Bv3.out.size))
         clear hb)
      | (go_at_call_of 22 (Value.string a1p)
         refine (toClay_ok a1p a1q a1r a1s a1x _).mono ?_
         rintro e v12 ⟨rfl, hb⟩
         have hzv12 : v11.heap.size ≤ v12.heap.size := hb.size
         replace f1_0 := (hb.cell (p := ⟨w.heap.size, 0, none⟩) (show w.heap.size < _ from by first | omega | (simp; omega))).trans f1_0
         replace f1_1 := (hb.cell (p := ⟨w.heap.size, 1, none⟩) (show w.heap.size < _ from by first | omega | (simp; omega))).trans f1_1
         replace f1_2 := (hb.cell (p := ⟨w.heap.size, 2, none⟩) (show w.heap.size < _ from by first | omega | (simp; omega))).trans f1_2
         replace f1_3 := (hb.cell (p := ⟨w.heap.size, 3, none⟩) (show w.heap.size < _ from by first | omega | (simp; omega))).trans f1_3
         replace f1_4 := (hb.cell (p := ⟨w.heap.size, 4, none⟩) (show w.heap.size < _ from by first | omega | (simp; omega))).trans f1_4
         replace f2_0 := (hb.cell (p := ⟨w.heap.size + 1, 0, none⟩) (show w.heap.size + 1 < _ from by first | omega | (simp; omega))).trans f2_0
         replace f2_1 := (hb.cell (p := ⟨w.heap.size + 1, 1, none⟩) (show w.heap.size + 1 < _ from by first | omega | (simp; omega))).trans f2_1
         replace f2_2 := (hb.cell (p := ⟨w.heap.size + 1, 2, none⟩) (show w.heap.size + 1 < _ from by first | omega | (simp; omega))).trans f2_2
         replace f2_3 := (hb.cell (p := ⟨w.heap.size + 1, 3, none⟩) (show w.heap.size + 1 < _ from by first | omega | (simp; omega))).trans f2_3
         replace f2_4 := (hb.cell (p := ⟨w.heap.size + 1, 4, none⟩) (show w.heap.size + 1 < _ from by first | omega | (simp; omega))).trans f2_4
         have Bv12 := hide (Bv11.out.trans (hb.mono Bv11.out.size))
         clear hb)
      | (go_at_call 23
         refine (impl_two' K Y cc _ _ _ _ _ _ _ _ _ _ _ _ w0p w1p HK.out HY.out HC.out).mono ?_
         rintro e v13 ⟨rfl, hb⟩
         have hzv13 : v12.heap.size ≤ v13.heap.size := hb.size
         replace f1_0 := (hb.cell (p := ⟨w.heap.size, 0, none⟩) (show w.heap.size < _ from by first | omega | (simp; omega))).trans f1_0
         replace f1_1 := (hb.cell (p := ⟨w.heap.size, 1, none⟩) (show w.heap.size < _ from by first | omega | (simp; omega))).trans f1_1
         replace f1_2 := (hb.cell (p := ⟨w.heap.size, 2, none⟩) (show w.heap.size < _ from by first | omega | (simp; omega))).trans f1_2
         replace f1_3 := (hb.cell (p := ⟨w.heap.size, 3, none⟩) (show w.heap.size < _ from by first | omega | (simp; omega))).trans f1_3
         replace f1_4 := (hb.cell (p := ⟨w.heap.size, 4, none⟩) (show w.heap.size < _ from by first | omega | (simp; omega))).trans f1_4
         replace f2_0 := (hb.cell (p := ⟨w.heap.size + 1, 0, none⟩) (show w.heap.size + 1 < _ from by first | omega | (simp; omega))).trans f2_0
         replace f2_1 := (hb.cell (p := ⟨w.heap.size + 1, 1, none⟩) (show w.heap.size + 1 < _ from by first | omega | (simp; omega))).trans f2_1
         replace f2_2 := (hb.cell (p := ⟨w.heap.size + 1, 2, none⟩) (show w.heap.size + 1 < _ from by first | omega | (simp; omega))).trans f2_2
         replace f2_3 := (hb.cell (p := ⟨w.heap.size + 1, 3, none⟩) (show w.heap.size + 1 < _ from by first | omega | (simp; omega))).trans f2_3
         replace f2_4 := (hb.cell (p := ⟨w.heap.size + 1, 4, none⟩) (show w.heap.size + 1 < _ from by first | omega | (simp; omega))).trans f2_4
         have Bv13 := hide (Bv12.out.trans (hb.mono Bv12.out.size))
         clear hb))
    all_goals
      go_wp2
      go_ret
      exact ⟨rfl, Bv13.out⟩
end Go.Proofs.Ytbpddpdpgkkapaa
