/-
  What is proved: the law FnExactBlendPrice returns true and changes nothing that was there, for every input. No conditions beyond the arguments' own ranges.
-/
import Derived.Test.YtbpddpdpgkkapaaMeans
import Derived.Test.YtbpddpdpgkkapaaClayM
import Derived.Test.YtbpddpdpgkkapaaIntTo
namespace Go.Proofs.Ytbpddpdpgkkapaa
open Go.RowKit
set_option linter.unusedVariables false

set_option maxRecDepth 100000 in
set_option maxHeartbeats 1000000 in
theorem fnExactBlendPriceWalk (a0 : Option Addr) (n0 c0 : Nat) (z0 : List Clay) (a1 : Option Addr) (n1 c1 : Nat) (z1 : List Int) (w : World) (w0 : ArgRow Clay.enc Clay.Wf 5 w a0 n0 c0 z0) (w1 : ArgInts .i64 w a1 n1 c1 z1) :
    Calls Try.prog 9 #[.slice a0 n0 c0, .slice a1 n1 c1] w fun e w' => e = .returned (.bool true) ∧ Below w.heap.size w w' := by
  have NM := names_of w0
  have m1 : n1 ≤ maxLen := Nat.le_trans w1.2.1 w1.2.2.1
  unfold maxLen at m1
  obtain ⟨X, hX⟩ : ∃ X, mnum (valOf 3) z0 z1 = X := ⟨_, rfl⟩
  obtain ⟨Y, hY⟩ : ∃ X, mden (valOf 3) z0 z1 = X := ⟨_, rfl⟩
  obtain ⟨K, hK⟩ : ∃ X, scode z0 z1 = X := ⟨_, rfl⟩
  have HX := hide hX
  have HY := hide hY
  have HK := hide hK
  clear hX hY hK
  have W0 := hide w0
  clear w0
  have W1 := hide w1
  clear w1
  by_cases hs1 : (1048576 : Int) < n1
  · go_enter Try.func9, Try.ntmps9
    go_wp2
    go_ret
    exact ⟨rfl, Below.refl _ _⟩
  go_enter Try.func9, Try.ntmps9
  have B0 := hide (Below.refl w.heap.size w)
  go_wp2_with fail
  refine (szClayS_ok _ _ _ z0 1048576 _ (by omega) (by omega) (W0.out.below B0.out)).mono ?_
  rintro e u1 ⟨⟨t0, rfl, ht0⟩, hb1⟩
  have e1 : w.heap.size ≤ u1.heap.size := hb1.size
  have B1 := hide (B0.out.trans (hb1.mono B0.out.size))
  clear hb1 B0
  rcases ht0 with rfl | ⟨hp0, hq0⟩
  · go_wp2
    go_ret
    exact ⟨rfl, B1.out⟩
  have d0 : decide (t0 < 0) = false := by simp; omega
  have k0 : n0 ≤ 1048576 := by omega
  have k1 : n1 ≤ 1048576 := by omega
  go_wp2_with fail
  refine (toClayS_own _ _ _ z0 _ k0 (W0.out.below B1.out)).mono ?_
  rintro e u2 ⟨A1, C1, rfl, ho, hb2⟩
  have e2 : u1.heap.size ≤ u2.heap.size := hb2.size
  have B2 := hide (B1.out.trans (hb2.mono B1.out.size))
  clear hb2 B1
  have P_2 := hide ho
  clear ho
  go_wp2_with fail
  refine (toInt64S_own _ _ _ z1 _ k1 (W1.out.below B2.out)).mono ?_
  rintro e u3 ⟨A2, C2, rfl, ho, hb3⟩
  have e3 : u2.heap.size ≤ u3.heap.size := hb3.size
  have B3 := hide (B2.out.trans (hb3.mono B2.out.size))
  have P_3 := hide (P_2.out.below hb3)
  clear P_2
  clear hb3 B2
  have Q_3 := hide ho
  clear ho
  go_wp2_with fail
  refine (spec_BlendPrice _ _ _ _ _ _ z0 z1 X Y K _ HX.out HY.out HK.out (by omega) (own_cap P_3.out) (by omega) P_3.out.len Q_3.out.len (P_3.out.row (fun _ => rfl)) (Q_3.out.row (fun _ => rfl)) NM).mono ?_
  rintro e u4 ⟨rfl, hb4⟩
  have e4 : u3.heap.size ≤ u4.heap.size := hb4.size
  have B4 := hide (B3.out.trans (hb4.mono B3.out.size))
  have P_4 := hide (P_3.out.below hb4)
  clear P_3
  have Q_4 := hide (Q_3.out.below hb4)
  clear Q_3
  clear hb4 B3
  obtain ⟨u5, hu5⟩ : ∃ u, u4.alloc (.cells #[.int .i64 X, .int .i64 Y] 50) = u := ⟨_, rfl⟩
  have hb5 : Below u4.heap.size u4 u5 := by rw [← hu5]; exact (Below.refl _ _).alloc (Nat.le_refl _) _
  have e5 : u4.heap.size < u5.heap.size := by rw [← hu5]; simp
  have B5 := hide (B4.out.trans (hb5.mono B4.out.size))
  have f5_0 : u5.cell? ⟨u4.heap.size, 0, none⟩ = some (.int .i64 X) := by rw [← hu5]; simp [go_sem]
  have f5_1 : u5.cell? ⟨u4.heap.size, 1, none⟩ = some (.int .i64 Y) := by rw [← hu5]; simp [go_sem]
  have f5_0o := f5_0
  rw [← hu5] at f5_0o
  have f5_1o := f5_1
  rw [← hu5] at f5_1o
  have P_5 := hide (P_4.out.below hb5)
  clear P_4
  have Q_5 := hide (Q_4.out.below hb5)
  clear Q_4
  clear hb5 B4
  have HU5 := hide hu5
  clear hu5
  go_wp2_with fail
  rw [HU5.out]

  refine (toClayS_own _ _ _ z0 _ k0 (W0.out.below B5.out)).mono ?_
  rintro e u6 ⟨A3, C3, rfl, ho, hb6⟩
  have e6 : u5.heap.size ≤ u6.heap.size := hb6.size
  clear f5_0o f5_1o
  have B6 := hide (B5.out.trans (hb6.mono B5.out.size))
  replace f5_0 := (hb6.cell (p := ⟨u4.heap.size, 0, none⟩) (show u4.heap.size < u5.heap.size from by omega)).trans f5_0
  replace f5_1 := (hb6.cell (p := ⟨u4.heap.size, 1, none⟩) (show u4.heap.size < u5.heap.size from by omega)).trans f5_1
  have P_6 := hide (P_5.out.below hb6)
  clear P_5
  have Q_6 := hide (Q_5.out.below hb6)
  clear Q_5
  clear hb6 B5
  have X_6 := hide ho
  clear ho
  go_wp2_with fail
  refine (toInt64S_own _ _ _ z1 _ k1 (W1.out.below B6.out)).mono ?_
  rintro e u7 ⟨A4, C4, rfl, ho, hb7⟩
  have e7 : u6.heap.size ≤ u7.heap.size := hb7.size
  have B7 := hide (B6.out.trans (hb7.mono B6.out.size))
  replace f5_0 := (hb7.cell (p := ⟨u4.heap.size, 0, none⟩) (show u4.heap.size < u6.heap.size from by omega)).trans f5_0
  replace f5_1 := (hb7.cell (p := ⟨u4.heap.size, 1, none⟩) (show u4.heap.size < u6.heap.size from by omega)).trans f5_1
  have P_7 := hide (P_6.out.below hb7)
  clear P_6
  have Q_7 := hide (Q_6.out.below hb7)
  clear Q_6
  have X_7 := hide (X_6.out.below hb7)
  clear X_6
  clear hb7 B6
  have Y_7 := hide ho
  clear ho
  go_wp2_with fail
  refine (impl_BlendPrice _ _ _ _ _ _ z0 z1 X Y K _ HX.out HY.out HK.out (by omega) (own_cap X_7.out) (by omega) X_7.out.len Y_7.out.len (X_7.out.row (fun _ => rfl)) (Y_7.out.row (fun _ => rfl)) NM).mono ?_
  rintro e u8 ⟨rfl, hb8⟩
  have e8 : u7.heap.size ≤ u8.heap.size := hb8.size
  have B8 := hide (B7.out.trans (hb8.mono B7.out.size))
  replace f5_0 := (hb8.cell (p := ⟨u4.heap.size, 0, none⟩) (show u4.heap.size < u7.heap.size from by omega)).trans f5_0
  replace f5_1 := (hb8.cell (p := ⟨u4.heap.size, 1, none⟩) (show u4.heap.size < u7.heap.size from by omega)).trans f5_1
  have P_8 := hide (P_7.out.below hb8)
  clear P_7
  have Q_8 := hide (Q_7.out.below hb8)
  clear Q_7
  have X_8 := hide (X_7.out.below hb8)
  clear X_7
  have Y_8 := hide (Y_7.out.below hb8)
  clear Y_7
  clear hb8 B7
  obtain ⟨u9, hu9⟩ : ∃ u, u8.alloc (.cells #[.int .i64 X, .int .i64 Y] 50) = u := ⟨_, rfl⟩
  have hb9 : Below u8.heap.size u8 u9 := by rw [← hu9]; exact (Below.refl _ _).alloc (Nat.le_refl _) _
  have e9 : u8.heap.size < u9.heap.size := by rw [← hu9]; simp
  have B9 := hide (B8.out.trans (hb9.mono B8.out.size))
  replace f5_0 := (hb9.cell (p := ⟨u4.heap.size, 0, none⟩) (show u4.heap.size < u8.heap.size from by omega)).trans f5_0
  replace f5_1 := (hb9.cell (p := ⟨u4.heap.size, 1, none⟩) (show u4.heap.size < u8.heap.size from by omega)).trans f5_1
  have f9_0 : u9.cell? ⟨u8.heap.size, 0, none⟩ = some (.int .i64 X) := by rw [← hu9]; simp [go_sem]
  have f9_1 : u9.cell? ⟨u8.heap.size, 1, none⟩ = some (.int .i64 Y) := by rw [← hu9]; simp [go_sem]
  have f5_0o := f5_0
  rw [← hu9] at f5_0o
  have f5_1o := f5_1
  rw [← hu9] at f5_1o
  have f9_0o := f9_0
  rw [← hu9] at f9_0o
  have f9_1o := f9_1
  rw [← hu9] at f9_1o
  have P_9 := hide (P_8.out.below hb9)
  clear P_8
  have Q_9 := hide (Q_8.out.below hb9)
  clear Q_8
  have X_9 := hide (X_8.out.below hb9)
  clear X_8
  have Y_9 := hide (Y_8.out.below hb9)
  clear Y_8
  clear hb9 B8
  have HU9 := hide hu9
  clear hu9
  go_wp2_with fail
  rw [HU9.out]

  refine (eqFraction_same X Y _).mono ?_
  rintro e u10 ⟨rfl, hb10⟩
  have e10 : u9.heap.size ≤ u10.heap.size := hb10.size
  clear f5_0o f5_1o f9_0o f9_1o
  have B10 := hide (B9.out.trans (hb10.mono B9.out.size))
  replace f5_0 := (hb10.cell (p := ⟨u4.heap.size, 0, none⟩) (show u4.heap.size < u9.heap.size from by omega)).trans f5_0
  replace f5_1 := (hb10.cell (p := ⟨u4.heap.size, 1, none⟩) (show u4.heap.size < u9.heap.size from by omega)).trans f5_1
  replace f9_0 := (hb10.cell (p := ⟨u8.heap.size, 0, none⟩) (show u8.heap.size < u9.heap.size from by omega)).trans f9_0
  replace f9_1 := (hb10.cell (p := ⟨u8.heap.size, 1, none⟩) (show u8.heap.size < u9.heap.size from by omega)).trans f9_1
  have P_10 := hide (P_9.out.below hb10)
  clear P_9
  have Q_10 := hide (Q_9.out.below hb10)
  clear Q_9
  have X_10 := hide (X_9.out.below hb10)
  clear X_9
  have Y_10 := hide (Y_9.out.below hb10)
  clear Y_9
  clear hb10 B9
  go_wp2_with fail
  refine (toClayS_own _ _ _ z0 _ k0 (W0.out.below B10.out)).mono ?_
  rintro e u11 ⟨AZ, CZ, rfl, ho, hb11⟩
  have e11 : u10.heap.size ≤ u11.heap.size := hb11.size
  have B11 := hide (B10.out.trans (hb11.mono B10.out.size))
  replace f5_0 := (hb11.cell (p := ⟨u4.heap.size, 0, none⟩) (show u4.heap.size < u10.heap.size from by omega)).trans f5_0
  replace f5_1 := (hb11.cell (p := ⟨u4.heap.size, 1, none⟩) (show u4.heap.size < u10.heap.size from by omega)).trans f5_1
  replace f9_0 := (hb11.cell (p := ⟨u8.heap.size, 0, none⟩) (show u8.heap.size < u10.heap.size from by omega)).trans f9_0
  replace f9_1 := (hb11.cell (p := ⟨u8.heap.size, 1, none⟩) (show u8.heap.size < u10.heap.size from by omega)).trans f9_1
  have P_11 := hide (P_10.out.below hb11)
  clear P_10
  have Q_11 := hide (Q_10.out.below hb11)
  clear Q_10
  have X_11 := hide (X_10.out.below hb11)
  clear X_10
  have Y_11 := hide (Y_10.out.below hb11)
  clear Y_10
  clear hb11 B10
  have Z_11 := hide ho
  clear ho
  go_wp2_with fail
  refine (eqClayS_same _ _ _ _ _ z0 _ (by omega) X_11.out.len (X_11.out.row (fun _ => rfl)) (Z_11.out.row (fun _ => rfl))).mono ?_
  rintro e u12 ⟨rfl, hb12⟩
  have e12 : u11.heap.size ≤ u12.heap.size := hb12.size
  have B12 := hide (B11.out.trans (hb12.mono B11.out.size))
  replace f5_0 := (hb12.cell (p := ⟨u4.heap.size, 0, none⟩) (show u4.heap.size < u11.heap.size from by omega)).trans f5_0
  replace f5_1 := (hb12.cell (p := ⟨u4.heap.size, 1, none⟩) (show u4.heap.size < u11.heap.size from by omega)).trans f5_1
  replace f9_0 := (hb12.cell (p := ⟨u8.heap.size, 0, none⟩) (show u8.heap.size < u11.heap.size from by omega)).trans f9_0
  replace f9_1 := (hb12.cell (p := ⟨u8.heap.size, 1, none⟩) (show u8.heap.size < u11.heap.size from by omega)).trans f9_1
  have P_12 := hide (P_11.out.below hb12)
  clear P_11
  have Q_12 := hide (Q_11.out.below hb12)
  clear Q_11
  have X_12 := hide (X_11.out.below hb12)
  clear X_11
  have Y_12 := hide (Y_11.out.below hb12)
  clear Y_11
  have Z_12 := hide (Z_11.out.below hb12)
  clear Z_11
  clear hb12 B11
  go_wp2_with fail
  refine (toInt64S_own _ _ _ z1 _ k1 (W1.out.below B12.out)).mono ?_
  rintro e u13 ⟨AT, CT, rfl, ho, hb13⟩
  have e13 : u12.heap.size ≤ u13.heap.size := hb13.size
  have B13 := hide (B12.out.trans (hb13.mono B12.out.size))
  replace f5_0 := (hb13.cell (p := ⟨u4.heap.size, 0, none⟩) (show u4.heap.size < u12.heap.size from by omega)).trans f5_0
  replace f5_1 := (hb13.cell (p := ⟨u4.heap.size, 1, none⟩) (show u4.heap.size < u12.heap.size from by omega)).trans f5_1
  replace f9_0 := (hb13.cell (p := ⟨u8.heap.size, 0, none⟩) (show u8.heap.size < u12.heap.size from by omega)).trans f9_0
  replace f9_1 := (hb13.cell (p := ⟨u8.heap.size, 1, none⟩) (show u8.heap.size < u12.heap.size from by omega)).trans f9_1
  have P_13 := hide (P_12.out.below hb13)
  clear P_12
  have Q_13 := hide (Q_12.out.below hb13)
  clear Q_12
  have X_13 := hide (X_12.out.below hb13)
  clear X_12
  have Y_13 := hide (Y_12.out.below hb13)
  clear Y_12
  have Z_13 := hide (Z_12.out.below hb13)
  clear Z_12
  clear hb13 B12
  have T_13 := hide ho
  clear ho
  go_wp2_with fail
  refine (quiet_below (eqInt64S_same _ _ _ _ _ z1 _ (by omega) Y_13.out.len (Y_13.out.row (fun _ => rfl)) (T_13.out.row (fun _ => rfl)))).mono ?_
  rintro e u14 ⟨rfl, hb14⟩
  have e14 : u13.heap.size ≤ u14.heap.size := hb14.size
  have B14 := hide (B13.out.trans (hb14.mono B13.out.size))
  replace f5_0 := (hb14.cell (p := ⟨u4.heap.size, 0, none⟩) (show u4.heap.size < u13.heap.size from by omega)).trans f5_0
  replace f5_1 := (hb14.cell (p := ⟨u4.heap.size, 1, none⟩) (show u4.heap.size < u13.heap.size from by omega)).trans f5_1
  replace f9_0 := (hb14.cell (p := ⟨u8.heap.size, 0, none⟩) (show u8.heap.size < u13.heap.size from by omega)).trans f9_0
  replace f9_1 := (hb14.cell (p := ⟨u8.heap.size, 1, none⟩) (show u8.heap.size < u13.heap.size from by omega)).trans f9_1
  have P_14 := hide (P_13.out.below hb14)
  clear P_13
  have Q_14 := hide (Q_13.out.below hb14)
  clear Q_13
  have X_14 := hide (X_13.out.below hb14)
  clear X_13
  have Y_14 := hide (Y_13.out.below hb14)
  clear Y_13
  have Z_14 := hide (Z_13.out.below hb14)
  clear Z_13
  have T_14 := hide (T_13.out.below hb14)
  clear T_13
  clear hb14 B13
  go_wp2
  go_ret
  exact ⟨rfl, B14.out⟩
end Go.Proofs.Ytbpddpdpgkkapaa
