/-
  What is proved: the law FnExactSameBond returns true and changes nothing that was there, for every input. No conditions beyond the arguments' own ranges.
-/
import Derived.Test.YtlokmkiicmpccaaBondSame
import Derived.Deep.RegionHeld3
namespace Go.Proofs.Ytlokmkiicmpccaa
open Go.RowKit
set_option linter.unusedVariables false

set_option maxRecDepth 100000 in
set_option maxHeartbeats 4000000 in
theorem fnExactSameBondWalk (s0 : ByteArray) (a0 : Option Addr) (n0 c0 : Nat) (z0 : List Course) (s1 : ByteArray) (a1 : Option Addr) (n1 c1 : Nat) (z1 : List Course) (w : World) (ws0 : s0.size ≤ maxLen) (w0 : ArgRow Course.enc Course.Wf 2 w a0 n0 c0 z0) (ws1 : s1.size ≤ maxLen) (w1 : ArgRow Course.enc Course.Wf 2 w a1 n1 c1 z1) :
    Calls Try.prog 3 #[.agg #[.string s0, .slice a0 n0 c0], .agg #[.string s1, .slice a1 n1 c1]] w fun e w' => e = .returned (.bool true) ∧ Below w.heap.size w w' := by
  have W0 := hide w0
  have W1 := hide w1
  clear w0 w1
  go_enter Try.func3, Try.ntmps3
  have B0 := hide (Below.refl w.heap.size w)
  obtain ⟨u1, hu1⟩ : ∃ u, w.alloc (.cells #[.string s0, .slice a0 n0 c0] 24) = u := ⟨_, rfl⟩
  have hb1 : Below w.heap.size w u1 := by rw [← hu1]; exact (Below.refl _ _).alloc (Nat.le_refl _) _
  have e1 : w.heap.size < u1.heap.size := by rw [← hu1]; simp
  have B1 := hide (B0.out.trans (hb1.mono B0.out.size))
  have f1_0 : u1.cell? ⟨w.heap.size, 0, none⟩ = some (.string s0) := by rw [← hu1]; simp [go_sem]
  have f1_1 : u1.cell? ⟨w.heap.size, 1, none⟩ = some (.slice a0 n0 c0) := by rw [← hu1]; simp [go_sem]
  have f1_0o := f1_0
  rw [← hu1] at f1_0o
  have f1_1o := f1_1
  rw [← hu1] at f1_1o
  clear hb1 B0
  have HU1 := hide hu1
  clear hu1
  clear f1_0o f1_1o
  obtain ⟨u2, hu2⟩ : ∃ u, u1.alloc (.cells #[.string s1, .slice a1 n1 c1] 24) = u := ⟨_, rfl⟩
  have hb2 : Below u1.heap.size u1 u2 := by rw [← hu2]; exact (Below.refl _ _).alloc (Nat.le_refl _) _
  have e2 : u1.heap.size < u2.heap.size := by rw [← hu2]; simp
  have B2 := hide (B1.out.trans (hb2.mono B1.out.size))
  replace f1_0 := (hb2.cell (p := ⟨w.heap.size, 0, none⟩) (show w.heap.size < u1.heap.size from by omega)).trans f1_0
  replace f1_1 := (hb2.cell (p := ⟨w.heap.size, 1, none⟩) (show w.heap.size < u1.heap.size from by omega)).trans f1_1
  have hs2 : u1.heap.size = w.heap.size + 1 := by rw [← HU1.out]; simp
  have f2_0 : u2.cell? ⟨w.heap.size + 1, 0, none⟩ = some (.string s1) := by rw [← hu2, ← hs2]; simp [go_sem]
  have f2_1 : u2.cell? ⟨w.heap.size + 1, 1, none⟩ = some (.slice a1 n1 c1) := by rw [← hu2, ← hs2]; simp [go_sem]
  have f1_0o := f1_0
  rw [← hu2] at f1_0o
  have f1_1o := f1_1
  rw [← hu2] at f1_1o
  have f2_0o := f2_0
  rw [← hu2] at f2_0o
  have f2_1o := f2_1
  rw [← hu2] at f2_1o
  clear hb2 B1
  have HU2 := hide hu2
  clear hu2
  go_wp2_with fail
  rw [HU1.out]
  rw [HU2.out]

  refine (szBond_ok s0 _ _ _ z0 1048576 _ (by omega) (by omega) ws0 (W0.out.below B2.out)).mono ?_
  rintro e u3 ⟨⟨t0, rfl, ht0⟩, hb3⟩
  have e3 : u2.heap.size ≤ u3.heap.size := hb3.size
  clear f1_0o f1_1o f2_0o f2_1o
  have B3 := hide (B2.out.trans (hb3.mono B2.out.size))
  replace f1_0 := (hb3.cell (p := ⟨w.heap.size, 0, none⟩) (show w.heap.size < u2.heap.size from by omega)).trans f1_0
  replace f1_1 := (hb3.cell (p := ⟨w.heap.size, 1, none⟩) (show w.heap.size < u2.heap.size from by omega)).trans f1_1
  replace f2_0 := (hb3.cell (p := ⟨w.heap.size + 1, 0, none⟩) (show w.heap.size + 1 < u2.heap.size from by omega)).trans f2_0
  replace f2_1 := (hb3.cell (p := ⟨w.heap.size + 1, 1, none⟩) (show w.heap.size + 1 < u2.heap.size from by omega)).trans f2_1
  clear hb3 B2
  rcases ht0 with rfl | ⟨hp0, hq0⟩
  · go_wp2
    go_ret
    exact ⟨rfl, B3.out⟩
  have d0 : decide (t0 < 0) = false := by simp; omega
  have k0 : n0 ≤ 1048576 := by omega
  go_wp2_with fail
  refine (szBond_ok s1 _ _ _ z1 t0 _ (by omega) (by omega) ws1 (W1.out.below B3.out)).mono ?_
  rintro e u4 ⟨⟨t1, rfl, ht1⟩, hb4⟩
  have e4 : u3.heap.size ≤ u4.heap.size := hb4.size
  have B4 := hide (B3.out.trans (hb4.mono B3.out.size))
  replace f1_0 := (hb4.cell (p := ⟨w.heap.size, 0, none⟩) (show w.heap.size < u3.heap.size from by omega)).trans f1_0
  replace f1_1 := (hb4.cell (p := ⟨w.heap.size, 1, none⟩) (show w.heap.size < u3.heap.size from by omega)).trans f1_1
  replace f2_0 := (hb4.cell (p := ⟨w.heap.size + 1, 0, none⟩) (show w.heap.size + 1 < u3.heap.size from by omega)).trans f2_0
  replace f2_1 := (hb4.cell (p := ⟨w.heap.size + 1, 1, none⟩) (show w.heap.size + 1 < u3.heap.size from by omega)).trans f2_1
  clear hb4 B3
  rcases ht1 with rfl | ⟨hp1, hq1⟩
  · go_wp2
    go_ret
    exact ⟨rfl, B4.out⟩
  have d1 : decide (t1 < 0) = false := by simp; omega
  have k1 : n1 ≤ 1048576 := by omega
  go_wp2
  go_region_held3 (fun w' => w'.cell? ⟨w.heap.size, 0, none⟩ = some (.string s0) ∧ w'.cell? ⟨w.heap.size, 1, none⟩ = some (.slice a0 n0 c0) ∧ w'.cell? ⟨w.heap.size + 1, 0, none⟩ = some (.string s1) ∧ w'.cell? ⟨w.heap.size + 1, 1, none⟩ = some (.slice a1 n1 c1))
    (first
      | go_keep
      | exact ⟨f1_0, f1_1, f2_0, f2_1⟩)
    (first
      | (go_at_call_of 13 (Value.string s0)
         refine (toBond_own s0 _ _ _ z0 _ k0 (W0.out.below (by first | exact B4.out.drew | exact B4.out))).mono ?_
         rintro e v1 ⟨A1, C1, rfl, ho, hb⟩
         have hzv1 : u4.heap.size ≤ v1.heap.size := hb.size
         replace f1_0 := (hb.cell (p := ⟨w.heap.size, 0, none⟩) (show w.heap.size < _ from by first | omega | (simp; omega))).trans f1_0
         replace f1_1 := (hb.cell (p := ⟨w.heap.size, 1, none⟩) (show w.heap.size < _ from by first | omega | (simp; omega))).trans f1_1
         replace f2_0 := (hb.cell (p := ⟨w.heap.size + 1, 0, none⟩) (show w.heap.size + 1 < _ from by first | omega | (simp; omega))).trans f2_0
         replace f2_1 := (hb.cell (p := ⟨w.heap.size + 1, 1, none⟩) (show w.heap.size + 1 < _ from by first | omega | (simp; omega))).trans f2_1
         have Bv1 := hide (B4.out.drew.trans (hb.mono B4.out.size))
         have P1 := hide ho
         clear hb ho)
      | (go_at_call_of 13 (Value.string s1)
         refine (toBond_own s1 _ _ _ z1 _ k1 (W1.out.below Bv1.out)).mono ?_
         rintro e v2 ⟨A2, C2, rfl, ho, hb⟩
         have hzv2 : v1.heap.size ≤ v2.heap.size := hb.size
         replace f1_0 := (hb.cell (p := ⟨w.heap.size, 0, none⟩) (show w.heap.size < _ from by first | omega | (simp; omega))).trans f1_0
         replace f1_1 := (hb.cell (p := ⟨w.heap.size, 1, none⟩) (show w.heap.size < _ from by first | omega | (simp; omega))).trans f1_1
         replace f2_0 := (hb.cell (p := ⟨w.heap.size + 1, 0, none⟩) (show w.heap.size + 1 < _ from by first | omega | (simp; omega))).trans f2_0
         replace f2_1 := (hb.cell (p := ⟨w.heap.size + 1, 1, none⟩) (show w.heap.size + 1 < _ from by first | omega | (simp; omega))).trans f2_1
         have Bv2 := hide (Bv1.out.trans (hb.mono Bv1.out.size))
         have P2 := hide (P1.out.below hb)
         have Q2 := hide ho
         clear hb ho P1)
      | (go_at_call 12
         refine (spec_sameBond s0 s1 _ _ _ _ _ _ z0 z1 _ (by omega) (by omega) P2.out.len Q2.out.len (P2.out.row (fun _ => rfl)) (Q2.out.row (fun _ => rfl))).mono ?_
         rintro e v3 ⟨rfl, hb⟩
         have hzv3 : v2.heap.size ≤ v3.heap.size := hb.size
         replace f1_0 := (hb.cell (p := ⟨w.heap.size, 0, none⟩) (show w.heap.size < _ from by first | omega | (simp; omega))).trans f1_0
         replace f1_1 := (hb.cell (p := ⟨w.heap.size, 1, none⟩) (show w.heap.size < _ from by first | omega | (simp; omega))).trans f1_1
         replace f2_0 := (hb.cell (p := ⟨w.heap.size + 1, 0, none⟩) (show w.heap.size + 1 < _ from by first | omega | (simp; omega))).trans f2_0
         replace f2_1 := (hb.cell (p := ⟨w.heap.size + 1, 1, none⟩) (show w.heap.size + 1 < _ from by first | omega | (simp; omega))).trans f2_1
         have Bv3 := hide (Bv2.out.trans (hb.mono Bv2.out.size))
         clear hb P2 Q2))
  go_wp2_with fail
  refine (toBond_own s0 _ _ _ z0 _ k0 (W0.out.below Bv3.out)).mono ?_
  rintro e u11 ⟨A3, C3, rfl, ho, hb11⟩
  have e11 : v3.heap.size ≤ u11.heap.size := hb11.size
  have B11 := hide (Bv3.out.trans (hb11.mono Bv3.out.size))
  replace f1_0 := (hb11.cell (p := ⟨w.heap.size, 0, none⟩) (show w.heap.size < v3.heap.size from by omega)).trans f1_0
  replace f1_1 := (hb11.cell (p := ⟨w.heap.size, 1, none⟩) (show w.heap.size < v3.heap.size from by omega)).trans f1_1
  replace f2_0 := (hb11.cell (p := ⟨w.heap.size + 1, 0, none⟩) (show w.heap.size + 1 < v3.heap.size from by omega)).trans f2_0
  replace f2_1 := (hb11.cell (p := ⟨w.heap.size + 1, 1, none⟩) (show w.heap.size + 1 < v3.heap.size from by omega)).trans f2_1
  clear hb11 Bv3
  have X_11 := hide ho
  clear ho
  obtain ⟨u12, hu12⟩ : ∃ u, u11.alloc (.cells #[.string s0, .slice A3 n0 C3] 29) = u := ⟨_, rfl⟩
  have hb12 : Below u11.heap.size u11 u12 := by rw [← hu12]; exact (Below.refl _ _).alloc (Nat.le_refl _) _
  have e12 : u11.heap.size < u12.heap.size := by rw [← hu12]; simp
  have B12 := hide (B11.out.trans (hb12.mono B11.out.size))
  replace f1_0 := (hb12.cell (p := ⟨w.heap.size, 0, none⟩) (show w.heap.size < u11.heap.size from by omega)).trans f1_0
  replace f1_1 := (hb12.cell (p := ⟨w.heap.size, 1, none⟩) (show w.heap.size < u11.heap.size from by omega)).trans f1_1
  replace f2_0 := (hb12.cell (p := ⟨w.heap.size + 1, 0, none⟩) (show w.heap.size + 1 < u11.heap.size from by omega)).trans f2_0
  replace f2_1 := (hb12.cell (p := ⟨w.heap.size + 1, 1, none⟩) (show w.heap.size + 1 < u11.heap.size from by omega)).trans f2_1
  have f12_0 : u12.cell? ⟨u11.heap.size, 0, none⟩ = some (.string s0) := by rw [← hu12]; simp [go_sem]
  have f12_1 : u12.cell? ⟨u11.heap.size, 1, none⟩ = some (.slice A3 n0 C3) := by rw [← hu12]; simp [go_sem]
  have f1_0o := f1_0
  rw [← hu12] at f1_0o
  have f1_1o := f1_1
  rw [← hu12] at f1_1o
  have f2_0o := f2_0
  rw [← hu12] at f2_0o
  have f2_1o := f2_1
  rw [← hu12] at f2_1o
  have f12_0o := f12_0
  rw [← hu12] at f12_0o
  have f12_1o := f12_1
  rw [← hu12] at f12_1o
  have X_12 := hide (X_11.out.below hb12)
  clear X_11
  clear hb12 B11
  have HU12 := hide hu12
  clear hu12
  go_wp2_with fail
  rw [HU12.out]

  refine (toBond_own s1 _ _ _ z1 _ k1 (W1.out.below B12.out)).mono ?_
  rintro e u13 ⟨A4, C4, rfl, ho, hb13⟩
  have e13 : u12.heap.size ≤ u13.heap.size := hb13.size
  clear f1_0o f1_1o f2_0o f2_1o f12_0o f12_1o
  have B13 := hide (B12.out.trans (hb13.mono B12.out.size))
  replace f1_0 := (hb13.cell (p := ⟨w.heap.size, 0, none⟩) (show w.heap.size < u12.heap.size from by omega)).trans f1_0
  replace f1_1 := (hb13.cell (p := ⟨w.heap.size, 1, none⟩) (show w.heap.size < u12.heap.size from by omega)).trans f1_1
  replace f2_0 := (hb13.cell (p := ⟨w.heap.size + 1, 0, none⟩) (show w.heap.size + 1 < u12.heap.size from by omega)).trans f2_0
  replace f2_1 := (hb13.cell (p := ⟨w.heap.size + 1, 1, none⟩) (show w.heap.size + 1 < u12.heap.size from by omega)).trans f2_1
  replace f12_0 := (hb13.cell (p := ⟨u11.heap.size, 0, none⟩) (show u11.heap.size < u12.heap.size from by omega)).trans f12_0
  replace f12_1 := (hb13.cell (p := ⟨u11.heap.size, 1, none⟩) (show u11.heap.size < u12.heap.size from by omega)).trans f12_1
  have X_13 := hide (X_12.out.below hb13)
  clear X_12
  clear hb13 B12
  have Y_13 := hide ho
  clear ho
  obtain ⟨u14, hu14⟩ : ∃ u, u13.alloc (.cells #[.string s1, .slice A4 n1 C4] 29) = u := ⟨_, rfl⟩
  have hb14 : Below u13.heap.size u13 u14 := by rw [← hu14]; exact (Below.refl _ _).alloc (Nat.le_refl _) _
  have e14 : u13.heap.size < u14.heap.size := by rw [← hu14]; simp
  have B14 := hide (B13.out.trans (hb14.mono B13.out.size))
  replace f1_0 := (hb14.cell (p := ⟨w.heap.size, 0, none⟩) (show w.heap.size < u13.heap.size from by omega)).trans f1_0
  replace f1_1 := (hb14.cell (p := ⟨w.heap.size, 1, none⟩) (show w.heap.size < u13.heap.size from by omega)).trans f1_1
  replace f2_0 := (hb14.cell (p := ⟨w.heap.size + 1, 0, none⟩) (show w.heap.size + 1 < u13.heap.size from by omega)).trans f2_0
  replace f2_1 := (hb14.cell (p := ⟨w.heap.size + 1, 1, none⟩) (show w.heap.size + 1 < u13.heap.size from by omega)).trans f2_1
  replace f12_0 := (hb14.cell (p := ⟨u11.heap.size, 0, none⟩) (show u11.heap.size < u13.heap.size from by omega)).trans f12_0
  replace f12_1 := (hb14.cell (p := ⟨u11.heap.size, 1, none⟩) (show u11.heap.size < u13.heap.size from by omega)).trans f12_1
  have f14_0 : u14.cell? ⟨u13.heap.size, 0, none⟩ = some (.string s1) := by rw [← hu14]; simp [go_sem]
  have f14_1 : u14.cell? ⟨u13.heap.size, 1, none⟩ = some (.slice A4 n1 C4) := by rw [← hu14]; simp [go_sem]
  have f1_0o := f1_0
  rw [← hu14] at f1_0o
  have f1_1o := f1_1
  rw [← hu14] at f1_1o
  have f2_0o := f2_0
  rw [← hu14] at f2_0o
  have f2_1o := f2_1
  rw [← hu14] at f2_1o
  have f12_0o := f12_0
  rw [← hu14] at f12_0o
  have f12_1o := f12_1
  rw [← hu14] at f12_1o
  have f14_0o := f14_0
  rw [← hu14] at f14_0o
  have f14_1o := f14_1
  rw [← hu14] at f14_1o
  have X_14 := hide (X_13.out.below hb14)
  clear X_13
  have Y_14 := hide (Y_13.out.below hb14)
  clear Y_13
  clear hb14 B13
  have HU14 := hide hu14
  clear hu14
  go_wp2_with fail
  rw [HU14.out]

  refine (impl_sameBond s0 s1 _ _ _ _ _ _ z0 z1 _ (by omega) (by omega) X_14.out.len Y_14.out.len (X_14.out.row (fun _ => rfl)) (Y_14.out.row (fun _ => rfl))).mono ?_
  rintro e u15 ⟨rfl, hb15⟩
  have e15 : u14.heap.size ≤ u15.heap.size := hb15.size
  clear f1_0o f1_1o f2_0o f2_1o f12_0o f12_1o f14_0o f14_1o
  have B15 := hide (B14.out.trans (hb15.mono B14.out.size))
  replace f1_0 := (hb15.cell (p := ⟨w.heap.size, 0, none⟩) (show w.heap.size < u14.heap.size from by omega)).trans f1_0
  replace f1_1 := (hb15.cell (p := ⟨w.heap.size, 1, none⟩) (show w.heap.size < u14.heap.size from by omega)).trans f1_1
  replace f2_0 := (hb15.cell (p := ⟨w.heap.size + 1, 0, none⟩) (show w.heap.size + 1 < u14.heap.size from by omega)).trans f2_0
  replace f2_1 := (hb15.cell (p := ⟨w.heap.size + 1, 1, none⟩) (show w.heap.size + 1 < u14.heap.size from by omega)).trans f2_1
  replace f12_0 := (hb15.cell (p := ⟨u11.heap.size, 0, none⟩) (show u11.heap.size < u14.heap.size from by omega)).trans f12_0
  replace f12_1 := (hb15.cell (p := ⟨u11.heap.size, 1, none⟩) (show u11.heap.size < u14.heap.size from by omega)).trans f12_1
  replace f14_0 := (hb15.cell (p := ⟨u13.heap.size, 0, none⟩) (show u13.heap.size < u14.heap.size from by omega)).trans f14_0
  replace f14_1 := (hb15.cell (p := ⟨u13.heap.size, 1, none⟩) (show u13.heap.size < u14.heap.size from by omega)).trans f14_1
  have X_15 := hide (X_14.out.below hb15)
  clear X_14
  have Y_15 := hide (Y_14.out.below hb15)
  clear Y_14
  clear hb15 B14
  generalize bondSame s0 s1 z0 z1 = v at *
  go_wp2
  go_region_held3 (fun w' => w'.cell? ⟨w.heap.size, 0, none⟩ = some (.string s0) ∧ w'.cell? ⟨w.heap.size, 1, none⟩ = some (.slice a0 n0 c0) ∧ w'.cell? ⟨w.heap.size + 1, 0, none⟩ = some (.string s1) ∧ w'.cell? ⟨w.heap.size + 1, 1, none⟩ = some (.slice a1 n1 c1) ∧ w'.cell? ⟨u11.heap.size, 0, none⟩ = some (.string s0) ∧ w'.cell? ⟨u11.heap.size, 1, none⟩ = some (.slice A3 n0 C3) ∧ w'.cell? ⟨u13.heap.size, 0, none⟩ = some (.string s1) ∧ w'.cell? ⟨u13.heap.size, 1, none⟩ = some (.slice A4 n1 C4))
    (first
      | go_keep
      | exact ⟨f1_0, f1_1, f2_0, f2_1, f12_0, f12_1, f14_0, f14_1⟩)
    (first
      | (go_at_call 13
         refine (toBond_own s0 _ _ _ z0 _ k0 (W0.out.below (by first | exact B15.out.drew | exact B15.out))).mono ?_
         rintro e y21 ⟨AZ21, CZ21, rfl, ho, hb⟩
         have hzy21 : u15.heap.size ≤ y21.heap.size := hb.size
         replace f1_0 := (hb.cell (p := ⟨w.heap.size, 0, none⟩) (show w.heap.size < _ from by first | omega | (simp; omega))).trans f1_0
         replace f1_1 := (hb.cell (p := ⟨w.heap.size, 1, none⟩) (show w.heap.size < _ from by first | omega | (simp; omega))).trans f1_1
         replace f2_0 := (hb.cell (p := ⟨w.heap.size + 1, 0, none⟩) (show w.heap.size + 1 < _ from by first | omega | (simp; omega))).trans f2_0
         replace f2_1 := (hb.cell (p := ⟨w.heap.size + 1, 1, none⟩) (show w.heap.size + 1 < _ from by first | omega | (simp; omega))).trans f2_1
         replace f12_0 := (hb.cell (p := ⟨u11.heap.size, 0, none⟩) (show u11.heap.size < _ from by first | omega | (simp; omega))).trans f12_0
         replace f12_1 := (hb.cell (p := ⟨u11.heap.size, 1, none⟩) (show u11.heap.size < _ from by first | omega | (simp; omega))).trans f12_1
         replace f14_0 := (hb.cell (p := ⟨u13.heap.size, 0, none⟩) (show u13.heap.size < _ from by first | omega | (simp; omega))).trans f14_0
         replace f14_1 := (hb.cell (p := ⟨u13.heap.size, 1, none⟩) (show u13.heap.size < _ from by first | omega | (simp; omega))).trans f14_1
         have hbb := (show Below u15.heap.size u15 y21 from (Below.refl _ _).drew.trans hb)
         have X_21 := hide (X_15.out.below hbb)
         clear X_15
         have Y_21 := hide (Y_15.out.below hbb)
         clear Y_15
         have By21 := hide (B15.out.trans (hbb.mono B15.out.size))
         have Z21 := hide ho
         clear hb ho hbb)
      | (go_at_call 15
         refine (eqBond_same s0 _ _ _ _ _ z0 _ (by omega) X_21.out.len (X_21.out.row (fun _ => rfl)) (Z21.out.row (fun _ => rfl))).mono ?_
         rintro e y22 ⟨rfl, hb⟩
         have hzy22 : y21.heap.size ≤ y22.heap.size := hb.size
         replace f1_0 := (hb.cell (p := ⟨w.heap.size, 0, none⟩) (show w.heap.size < _ from by first | omega | (simp; omega))).trans f1_0
         replace f1_1 := (hb.cell (p := ⟨w.heap.size, 1, none⟩) (show w.heap.size < _ from by first | omega | (simp; omega))).trans f1_1
         replace f2_0 := (hb.cell (p := ⟨w.heap.size + 1, 0, none⟩) (show w.heap.size + 1 < _ from by first | omega | (simp; omega))).trans f2_0
         replace f2_1 := (hb.cell (p := ⟨w.heap.size + 1, 1, none⟩) (show w.heap.size + 1 < _ from by first | omega | (simp; omega))).trans f2_1
         replace f12_0 := (hb.cell (p := ⟨u11.heap.size, 0, none⟩) (show u11.heap.size < _ from by first | omega | (simp; omega))).trans f12_0
         replace f12_1 := (hb.cell (p := ⟨u11.heap.size, 1, none⟩) (show u11.heap.size < _ from by first | omega | (simp; omega))).trans f12_1
         replace f14_0 := (hb.cell (p := ⟨u13.heap.size, 0, none⟩) (show u13.heap.size < _ from by first | omega | (simp; omega))).trans f14_0
         replace f14_1 := (hb.cell (p := ⟨u13.heap.size, 1, none⟩) (show u13.heap.size < _ from by first | omega | (simp; omega))).trans f14_1
         have X_22 := hide (X_21.out.below hb)
         clear X_21
         have Y_22 := hide (Y_21.out.below hb)
         clear Y_21
         have By22 := hide (By21.out.trans (hb.mono By21.out.size))
         clear hb Z21))
  go_wp2
  go_region_held3 (fun w' => w'.cell? ⟨w.heap.size, 0, none⟩ = some (.string s0) ∧ w'.cell? ⟨w.heap.size, 1, none⟩ = some (.slice a0 n0 c0) ∧ w'.cell? ⟨w.heap.size + 1, 0, none⟩ = some (.string s1) ∧ w'.cell? ⟨w.heap.size + 1, 1, none⟩ = some (.slice a1 n1 c1) ∧ w'.cell? ⟨u11.heap.size, 0, none⟩ = some (.string s0) ∧ w'.cell? ⟨u11.heap.size, 1, none⟩ = some (.slice A3 n0 C3) ∧ w'.cell? ⟨u13.heap.size, 0, none⟩ = some (.string s1) ∧ w'.cell? ⟨u13.heap.size, 1, none⟩ = some (.slice A4 n1 C4))
    (first
      | go_keep
      | exact ⟨f1_0, f1_1, f2_0, f2_1, f12_0, f12_1, f14_0, f14_1⟩)
    (first
      | (go_at_call 13
         refine (toBond_own s1 _ _ _ z1 _ k1 (W1.out.below (by first | exact By22.out.drew | exact By22.out))).mono ?_
         rintro e y31 ⟨AZ31, CZ31, rfl, ho, hb⟩
         have hzy31 : y22.heap.size ≤ y31.heap.size := hb.size
         replace f1_0 := (hb.cell (p := ⟨w.heap.size, 0, none⟩) (show w.heap.size < _ from by first | omega | (simp; omega))).trans f1_0
         replace f1_1 := (hb.cell (p := ⟨w.heap.size, 1, none⟩) (show w.heap.size < _ from by first | omega | (simp; omega))).trans f1_1
         replace f2_0 := (hb.cell (p := ⟨w.heap.size + 1, 0, none⟩) (show w.heap.size + 1 < _ from by first | omega | (simp; omega))).trans f2_0
         replace f2_1 := (hb.cell (p := ⟨w.heap.size + 1, 1, none⟩) (show w.heap.size + 1 < _ from by first | omega | (simp; omega))).trans f2_1
         replace f12_0 := (hb.cell (p := ⟨u11.heap.size, 0, none⟩) (show u11.heap.size < _ from by first | omega | (simp; omega))).trans f12_0
         replace f12_1 := (hb.cell (p := ⟨u11.heap.size, 1, none⟩) (show u11.heap.size < _ from by first | omega | (simp; omega))).trans f12_1
         replace f14_0 := (hb.cell (p := ⟨u13.heap.size, 0, none⟩) (show u13.heap.size < _ from by first | omega | (simp; omega))).trans f14_0
         replace f14_1 := (hb.cell (p := ⟨u13.heap.size, 1, none⟩) (show u13.heap.size < _ from by first | omega | (simp; omega))).trans f14_1
         have hbb := (show Below y22.heap.size y22 y31 from (Below.refl _ _).drew.trans hb)
         have X_31 := hide (X_22.out.below hbb)
         clear X_22
         have Y_31 := hide (Y_22.out.below hbb)
         clear Y_22
         have By31 := hide (By22.out.trans (hbb.mono By22.out.size))
         have Z31 := hide ho
         clear hb ho hbb)
      | (go_at_call 15
         refine (eqBond_same s1 _ _ _ _ _ z1 _ (by omega) Y_31.out.len (Y_31.out.row (fun _ => rfl)) (Z31.out.row (fun _ => rfl))).mono ?_
         rintro e y32 ⟨rfl, hb⟩
         have hzy32 : y31.heap.size ≤ y32.heap.size := hb.size
         replace f1_0 := (hb.cell (p := ⟨w.heap.size, 0, none⟩) (show w.heap.size < _ from by first | omega | (simp; omega))).trans f1_0
         replace f1_1 := (hb.cell (p := ⟨w.heap.size, 1, none⟩) (show w.heap.size < _ from by first | omega | (simp; omega))).trans f1_1
         replace f2_0 := (hb.cell (p := ⟨w.heap.size + 1, 0, none⟩) (show w.heap.size + 1 < _ from by first | omega | (simp; omega))).trans f2_0
         replace f2_1 := (hb.cell (p := ⟨w.heap.size + 1, 1, none⟩) (show w.heap.size + 1 < _ from by first | omega | (simp; omega))).trans f2_1
         replace f12_0 := (hb.cell (p := ⟨u11.heap.size, 0, none⟩) (show u11.heap.size < _ from by first | omega | (simp; omega))).trans f12_0
         replace f12_1 := (hb.cell (p := ⟨u11.heap.size, 1, none⟩) (show u11.heap.size < _ from by first | omega | (simp; omega))).trans f12_1
         replace f14_0 := (hb.cell (p := ⟨u13.heap.size, 0, none⟩) (show u13.heap.size < _ from by first | omega | (simp; omega))).trans f14_0
         replace f14_1 := (hb.cell (p := ⟨u13.heap.size, 1, none⟩) (show u13.heap.size < _ from by first | omega | (simp; omega))).trans f14_1
         have X_32 := hide (X_31.out.below hb)
         clear X_31
         have Y_32 := hide (Y_31.out.below hb)
         clear Y_31
         have By32 := hide (By31.out.trans (hb.mono By31.out.size))
         clear hb Z31))
  go_wp2
  go_ret
  exact ⟨rfl, By32.out⟩
end Go.Proofs.Ytlokmkiicmpccaa
