/-
  What is proved: the law FnExactLeastParts returns true and changes nothing that was there, for every input. No conditions beyond the arguments' own ranges.
-/
import Derived.Test.YtbpddpdpgkkapaaLeast2
import Derived.Test.YtbpddpdpgkkapaaClayM
import Derived.Test.YtbpddpdpgkkapaaIntTo
namespace Go.Proofs.Ytbpddpdpgkkapaa
open Go.RowKit
set_option linter.unusedVariables false

set_option maxRecDepth 100000 in
set_option maxHeartbeats 1000000 in
theorem fnExactLeastPartsWalk (a0 : Option Addr) (n0 c0 : Nat) (z0 : List Clay) (a1 : Option Addr) (n1 c1 : Nat) (z1 : List Int) (w : World) (w0 : ArgRow Clay.enc Clay.Wf 5 w a0 n0 c0 z0) (w1 : ArgInts .i64 w a1 n1 c1 z1) :
    Calls Try.prog 7 #[.slice a0 n0 c0, .slice a1 n1 c1] w fun e w' => e = .returned (.bool true) ∧ Below w.heap.size w w' := by
  have NM := names_of w0
  have m1 : n1 ≤ maxLen := Nat.le_trans w1.2.1 w1.2.2.1
  unfold maxLen at m1
  have hlen := leastL_len z0 z1
  rw [w1.1] at hlen
  obtain ⟨K, hK⟩ : ∃ K, leastL z0 z1 = K := ⟨_, rfl⟩
  obtain ⟨cc, hC⟩ : ∃ cc, scode z0 z1 = cc := ⟨_, rfl⟩
  rw [hK] at hlen
  have HK := hide hK
  have HC := hide hC
  clear hK hC
  have W0 := hide w0
  clear w0
  have W1 := hide w1
  clear w1
  by_cases hs1 : (1048576 : Int) < n1
  · go_enter Try.func7, Try.ntmps7
    go_wp2
    go_ret
    exact ⟨rfl, Below.refl _ _⟩
  go_enter Try.func7, Try.ntmps7
  have B0 := hide (Below.refl w.heap.size w)
  go_wp2_with fail
  refine (szClayS_ok _ _ _ z0 1048576 _ (by omega) (by omega) (W0.out.below B0.out)).mono ?_
  rintro e u1 ⟨⟨t0, rfl, ht0⟩, hb1⟩
  have e1 : w.heap.size ≤ u1.heap.size := hb1.size
  have B1 := hide (B0.out.trans (hb1.mono B0.out.size))
  clear hb1 B0
  rcases ht0 with rfl | ⟨hp0, hq0⟩
  · go_wp2
    go_ret
    exact ⟨rfl, B1.out⟩
  have d0 : decide (t0 < 0) = false := by simp; omega
  have k0 : n0 ≤ 1048576 := by omega
  have k1 : n1 ≤ 1048576 := by omega
  have hkn : ¬ ((1:Int) + 5 * (n0 : Int) + n1 < 0) := by omega
  have d1 : decide ((1:Int) + 5 * (n0 : Int) + n1 < 0) = false := by simpa using hkn
  have d2 : decide ((1:Int) + (K.length : Int) < 0) = false := by simp; omega
  clear hkn
  go_wp2_with fail
  refine (toClayS_own _ _ _ z0 _ k0 (W0.out.below B1.out)).mono ?_
  rintro e u2 ⟨A1, C1, rfl, ho, hb2⟩
  have e2 : u1.heap.size ≤ u2.heap.size := hb2.size
  have B2 := hide (B1.out.trans (hb2.mono B1.out.size))
  clear hb2 B1
  have P_2 := hide ho
  clear ho
  go_wp2_with fail
  refine (toInt64S_own _ _ _ z1 _ k1 (W1.out.below B2.out)).mono ?_
  rintro e u3 ⟨A2, C2, rfl, ho, hb3⟩
  have e3 : u2.heap.size ≤ u3.heap.size := hb3.size
  have B3 := hide (B2.out.trans (hb3.mono B2.out.size))
  have P_3 := hide (P_2.out.below hb3)
  clear P_2
  clear hb3 B2
  have Q_3 := hide ho
  clear ho
  go_wp2_with fail
  refine (spec_leastParts' K cc _ _ _ _ _ _ z0 z1 _ (by omega) (by omega) P_3.out.len Q_3.out.len (P_3.out.row (fun _ => rfl)) (Q_3.out.row (fun _ => rfl)) NM HK.out HC.out).mono ?_
  rintro e u4 ⟨A3, C3, rfl, ho, hb4⟩
  have e4 : u3.heap.size ≤ u4.heap.size := hb4.size
  have B4 := hide (B3.out.trans (hb4.mono B3.out.size))
  have P_4 := hide (P_3.out.below hb4)
  clear P_3
  have Q_4 := hide (Q_3.out.below hb4)
  clear Q_3
  clear hb4 B3
  have U_4 := hide ho
  clear ho
  go_wp2_with fail
  refine (toClayS_own _ _ _ z0 _ k0 (W0.out.below B4.out)).mono ?_
  rintro e u5 ⟨A4, C4, rfl, ho, hb5⟩
  have e5 : u4.heap.size ≤ u5.heap.size := hb5.size
  have B5 := hide (B4.out.trans (hb5.mono B4.out.size))
  have P_5 := hide (P_4.out.below hb5)
  clear P_4
  have Q_5 := hide (Q_4.out.below hb5)
  clear Q_4
  have U_5 := hide (U_4.out.below hb5)
  clear U_4
  clear hb5 B4
  have X_5 := hide ho
  clear ho
  go_wp2_with fail
  refine (toInt64S_own _ _ _ z1 _ k1 (W1.out.below B5.out)).mono ?_
  rintro e u6 ⟨A5, C5, rfl, ho, hb6⟩
  have e6 : u5.heap.size ≤ u6.heap.size := hb6.size
  have B6 := hide (B5.out.trans (hb6.mono B5.out.size))
  have P_6 := hide (P_5.out.below hb6)
  clear P_5
  have Q_6 := hide (Q_5.out.below hb6)
  clear Q_5
  have U_6 := hide (U_5.out.below hb6)
  clear U_5
  have X_6 := hide (X_5.out.below hb6)
  clear X_5
  clear hb6 B5
  have Y_6 := hide ho
  clear ho
  go_wp2_with fail
  refine (impl_leastParts' K cc _ _ _ _ _ _ z0 z1 _ (by omega) (own_cap X_6.out) (by omega) X_6.out.len Y_6.out.len (X_6.out.row (fun _ => rfl)) (Y_6.out.row (fun _ => rfl)) NM HK.out HC.out).mono ?_
  rintro e u7 ⟨A6, C6, rfl, ho, hb7⟩
  have e7 : u6.heap.size ≤ u7.heap.size := hb7.size
  have B7 := hide (B6.out.trans (hb7.mono B6.out.size))
  have P_7 := hide (P_6.out.below hb7)
  clear P_6
  have Q_7 := hide (Q_6.out.below hb7)
  clear Q_6
  have U_7 := hide (U_6.out.below hb7)
  clear U_6
  have X_7 := hide (X_6.out.below hb7)
  clear X_6
  have Y_7 := hide (Y_6.out.below hb7)
  clear Y_6
  clear hb7 B6
  have G_7 := hide ho
  clear ho
  go_wp2_with fail
  refine (quiet_below (eqInt64S_same _ _ _ _ _ K _ (by omega) G_7.out.len (G_7.out.row (fun _ => rfl)) (U_7.out.row (fun _ => rfl)))).mono ?_
  rintro e u8 ⟨rfl, hb8⟩
  have e8 : u7.heap.size ≤ u8.heap.size := hb8.size
  have B8 := hide (B7.out.trans (hb8.mono B7.out.size))
  have P_8 := hide (P_7.out.below hb8)
  clear P_7
  have Q_8 := hide (Q_7.out.below hb8)
  clear Q_7
  have U_8 := hide (U_7.out.below hb8)
  clear U_7
  have X_8 := hide (X_7.out.below hb8)
  clear X_7
  have Y_8 := hide (Y_7.out.below hb8)
  clear Y_7
  have G_8 := hide (G_7.out.below hb8)
  clear G_7
  clear hb8 B7
  go_wp2_with fail
  refine (toClayS_own _ _ _ z0 _ k0 (W0.out.below B8.out)).mono ?_
  rintro e u9 ⟨AZ, CZ, rfl, ho, hb9⟩
  have e9 : u8.heap.size ≤ u9.heap.size := hb9.size
  have B9 := hide (B8.out.trans (hb9.mono B8.out.size))
  have P_9 := hide (P_8.out.below hb9)
  clear P_8
  have Q_9 := hide (Q_8.out.below hb9)
  clear Q_8
  have U_9 := hide (U_8.out.below hb9)
  clear U_8
  have X_9 := hide (X_8.out.below hb9)
  clear X_8
  have Y_9 := hide (Y_8.out.below hb9)
  clear Y_8
  have G_9 := hide (G_8.out.below hb9)
  clear G_8
  clear hb9 B8
  have Z_9 := hide ho
  clear ho
  go_wp2_with fail
  refine (eqClayS_same _ _ _ _ _ z0 _ (by omega) X_9.out.len (X_9.out.row (fun _ => rfl)) (Z_9.out.row (fun _ => rfl))).mono ?_
  rintro e u10 ⟨rfl, hb10⟩
  have e10 : u9.heap.size ≤ u10.heap.size := hb10.size
  have B10 := hide (B9.out.trans (hb10.mono B9.out.size))
  have P_10 := hide (P_9.out.below hb10)
  clear P_9
  have Q_10 := hide (Q_9.out.below hb10)
  clear Q_9
  have U_10 := hide (U_9.out.below hb10)
  clear U_9
  have X_10 := hide (X_9.out.below hb10)
  clear X_9
  have Y_10 := hide (Y_9.out.below hb10)
  clear Y_9
  have G_10 := hide (G_9.out.below hb10)
  clear G_9
  have Z_10 := hide (Z_9.out.below hb10)
  clear Z_9
  clear hb10 B9
  go_wp2_with fail
  refine (toInt64S_own _ _ _ z1 _ k1 (W1.out.below B10.out)).mono ?_
  rintro e u11 ⟨AT, CT, rfl, ho, hb11⟩
  have e11 : u10.heap.size ≤ u11.heap.size := hb11.size
  have B11 := hide (B10.out.trans (hb11.mono B10.out.size))
  have P_11 := hide (P_10.out.below hb11)
  clear P_10
  have Q_11 := hide (Q_10.out.below hb11)
  clear Q_10
  have U_11 := hide (U_10.out.below hb11)
  clear U_10
  have X_11 := hide (X_10.out.below hb11)
  clear X_10
  have Y_11 := hide (Y_10.out.below hb11)
  clear Y_10
  have G_11 := hide (G_10.out.below hb11)
  clear G_10
  have Z_11 := hide (Z_10.out.below hb11)
  clear Z_10
  clear hb11 B10
  have T_11 := hide ho
  clear ho
  go_wp2_with fail
  refine (quiet_below (eqInt64S_same _ _ _ _ _ z1 _ (by omega) Y_11.out.len (Y_11.out.row (fun _ => rfl)) (T_11.out.row (fun _ => rfl)))).mono ?_
  rintro e u12 ⟨rfl, hb12⟩
  have e12 : u11.heap.size ≤ u12.heap.size := hb12.size
  have B12 := hide (B11.out.trans (hb12.mono B11.out.size))
  have P_12 := hide (P_11.out.below hb12)
  clear P_11
  have Q_12 := hide (Q_11.out.below hb12)
  clear Q_11
  have U_12 := hide (U_11.out.below hb12)
  clear U_11
  have X_12 := hide (X_11.out.below hb12)
  clear X_11
  have Y_12 := hide (Y_11.out.below hb12)
  clear Y_11
  have G_12 := hide (G_11.out.below hb12)
  clear G_11
  have Z_12 := hide (Z_11.out.below hb12)
  clear Z_11
  have T_12 := hide (T_11.out.below hb12)
  clear T_11
  clear hb12 B11
  go_wp2_with fail
  refine (markClayS_own _ _ _ _ _ 1 z0 _ (by omega) (by omega) (by omega) X_12.out).mono ?_
  rintro e u13 ⟨rfl, ho, hb13⟩
  have e13 : u12.heap.size ≤ u13.heap.size := hb13.size
  have B13 := hide (B12.out.trans (hb13.below (by have := B12.out.size; omega) B12.out.size))
  have P_13 := hide (P_12.out.touch hb13 (by omega))
  clear P_12
  have Q_13 := hide (Q_12.out.touch hb13 (by omega))
  clear Q_12
  have U_13 := hide (U_12.out.touch hb13 (by omega))
  clear U_12
  have Y_13 := hide (Y_12.out.touch hb13 (by omega))
  clear Y_12
  have G_13 := hide (G_12.out.touch hb13 (by omega))
  clear G_12
  have Z_13 := hide (Z_12.out.touch hb13 (by omega))
  clear Z_12
  have T_13 := hide (T_12.out.touch hb13 (by omega))
  clear T_12
  clear hb13 B12 X_12
  have X_13 := hide ho
  clear ho
  go_wp2_with fail
  refine (markInt64S_own _ _ _ _ _ (1 + 5 * (n0 : Int)) z1 _ (by omega) (by omega) (by omega) Y_13.out).mono ?_
  rintro e u14 ⟨rfl, ho, hb14⟩
  have e14 : u13.heap.size ≤ u14.heap.size := hb14.size
  have B14 := hide (B13.out.trans (hb14.below (by have := B13.out.size; omega) B13.out.size))
  have P_14 := hide (P_13.out.touch hb14 (by omega))
  clear P_13
  have Q_14 := hide (Q_13.out.touch hb14 (by omega))
  clear Q_13
  have U_14 := hide (U_13.out.touch hb14 (by omega))
  clear U_13
  have X_14 := hide (X_13.out.touch hb14 (by omega))
  clear X_13
  have G_14 := hide (G_13.out.touch hb14 (by omega))
  clear G_13
  have Z_14 := hide (Z_13.out.touch hb14 (by omega))
  clear Z_13
  have T_14 := hide (T_13.out.touch hb14 (by omega))
  clear T_13
  clear hb14 B13 Y_13
  have Y_14 := hide ho
  clear ho
  go_wp2_with fail
  refine (quiet_below (eqInt64S_same _ _ _ _ _ K _ (by omega) G_14.out.len (G_14.out.row (fun _ => rfl)) (U_14.out.row (fun _ => rfl)))).mono ?_
  rintro e u15 ⟨rfl, hb15⟩
  have e15 : u14.heap.size ≤ u15.heap.size := hb15.size
  have B15 := hide (B14.out.trans (hb15.mono B14.out.size))
  have P_15 := hide (P_14.out.below hb15)
  clear P_14
  have Q_15 := hide (Q_14.out.below hb15)
  clear Q_14
  have U_15 := hide (U_14.out.below hb15)
  clear U_14
  have X_15 := hide (X_14.out.below hb15)
  clear X_14
  have Y_15 := hide (Y_14.out.below hb15)
  clear Y_14
  have G_15 := hide (G_14.out.below hb15)
  clear G_14
  have Z_15 := hide (Z_14.out.below hb15)
  clear Z_14
  have T_15 := hide (T_14.out.below hb15)
  clear T_14
  clear hb15 B14
  go_wp2_with fail
  refine (markInt64S_own _ _ _ _ _ 1 K _ (by omega) (by omega) (by omega) G_15.out).mono ?_
  rintro e u16 ⟨rfl, ho, hb16⟩
  have e16 : u15.heap.size ≤ u16.heap.size := hb16.size
  have B16 := hide (B15.out.trans (hb16.below (by have := B15.out.size; omega) B15.out.size))
  have P_16 := hide (P_15.out.touch hb16 (by omega))
  clear P_15
  have Q_16 := hide (Q_15.out.touch hb16 (by omega))
  clear Q_15
  have U_16 := hide (U_15.out.touch hb16 (by omega))
  clear U_15
  have X_16 := hide (X_15.out.touch hb16 (by omega))
  clear X_15
  have Y_16 := hide (Y_15.out.touch hb16 (by omega))
  clear Y_15
  have Z_16 := hide (Z_15.out.touch hb16 (by omega))
  clear Z_15
  have T_16 := hide (T_15.out.touch hb16 (by omega))
  clear T_15
  clear hb16 B15 G_15
  have G_16 := hide ho
  clear ho
  go_wp2_with fail
  refine (heldInt64S_ok _ _ _ 1 _ (by omega) (by omega) (by omega) (G_16.out.row (fun _ => rfl))).mono ?_
  rintro e u17 ⟨rfl, rfl⟩
  go_wp2_with fail
  refine (toClayS_own _ _ _ z0 _ k0 (W0.out.below B16.out)).mono ?_
  rintro e u18 ⟨A7, C7, rfl, ho, hb18⟩
  have e18 : u16.heap.size ≤ u18.heap.size := hb18.size
  have B18 := hide (B16.out.trans (hb18.mono B16.out.size))
  have P_18 := hide (P_16.out.below hb18)
  clear P_16
  have Q_18 := hide (Q_16.out.below hb18)
  clear Q_16
  have U_18 := hide (U_16.out.below hb18)
  clear U_16
  have X_18 := hide (X_16.out.below hb18)
  clear X_16
  have Y_18 := hide (Y_16.out.below hb18)
  clear Y_16
  have G_18 := hide (G_16.out.below hb18)
  clear G_16
  have Z_18 := hide (Z_16.out.below hb18)
  clear Z_16
  have T_18 := hide (T_16.out.below hb18)
  clear T_16
  clear hb18 B16
  have V_18 := hide ho
  clear ho
  go_wp2_with fail
  refine (toInt64S_own _ _ _ z1 _ k1 (W1.out.below B18.out)).mono ?_
  rintro e u19 ⟨A8, C8, rfl, ho, hb19⟩
  have e19 : u18.heap.size ≤ u19.heap.size := hb19.size
  have B19 := hide (B18.out.trans (hb19.mono B18.out.size))
  have P_19 := hide (P_18.out.below hb19)
  clear P_18
  have Q_19 := hide (Q_18.out.below hb19)
  clear Q_18
  have U_19 := hide (U_18.out.below hb19)
  clear U_18
  have X_19 := hide (X_18.out.below hb19)
  clear X_18
  have Y_19 := hide (Y_18.out.below hb19)
  clear Y_18
  have G_19 := hide (G_18.out.below hb19)
  clear G_18
  have Z_19 := hide (Z_18.out.below hb19)
  clear Z_18
  have T_19 := hide (T_18.out.below hb19)
  clear T_18
  have V_19 := hide (V_18.out.below hb19)
  clear V_18
  clear hb19 B18
  have S_19 := hide ho
  clear ho
  go_wp2_with fail
  refine (impl_leastParts' K cc _ _ _ _ _ _ z0 z1 _ (by omega) (own_cap V_19.out) (by omega) V_19.out.len S_19.out.len (V_19.out.row (fun _ => rfl)) (S_19.out.row (fun _ => rfl)) NM HK.out HC.out).mono ?_
  rintro e u20 ⟨A9, C9, rfl, ho, hb20⟩
  have e20 : u19.heap.size ≤ u20.heap.size := hb20.size
  have B20 := hide (B19.out.trans (hb20.mono B19.out.size))
  have P_20 := hide (P_19.out.below hb20)
  clear P_19
  have Q_20 := hide (Q_19.out.below hb20)
  clear Q_19
  have U_20 := hide (U_19.out.below hb20)
  clear U_19
  have X_20 := hide (X_19.out.below hb20)
  clear X_19
  have Y_20 := hide (Y_19.out.below hb20)
  clear Y_19
  have G_20 := hide (G_19.out.below hb20)
  clear G_19
  have Z_20 := hide (Z_19.out.below hb20)
  clear Z_19
  have T_20 := hide (T_19.out.below hb20)
  clear T_19
  have V_20 := hide (V_19.out.below hb20)
  clear V_19
  have S_20 := hide (S_19.out.below hb20)
  clear S_19
  clear hb20 B19
  have H_20 := hide ho
  clear ho
  go_wp2_with fail
  refine (quiet_below (eqInt64S_same _ _ _ _ _ K _ (by omega) H_20.out.len (H_20.out.row (fun _ => rfl)) (U_20.out.row (fun _ => rfl)))).mono ?_
  rintro e u21 ⟨rfl, hb21⟩
  have e21 : u20.heap.size ≤ u21.heap.size := hb21.size
  have B21 := hide (B20.out.trans (hb21.mono B20.out.size))
  have P_21 := hide (P_20.out.below hb21)
  clear P_20
  have Q_21 := hide (Q_20.out.below hb21)
  clear Q_20
  have U_21 := hide (U_20.out.below hb21)
  clear U_20
  have X_21 := hide (X_20.out.below hb21)
  clear X_20
  have Y_21 := hide (Y_20.out.below hb21)
  clear Y_20
  have G_21 := hide (G_20.out.below hb21)
  clear G_20
  have Z_21 := hide (Z_20.out.below hb21)
  clear Z_20
  have T_21 := hide (T_20.out.below hb21)
  clear T_20
  have V_21 := hide (V_20.out.below hb21)
  clear V_20
  have S_21 := hide (S_20.out.below hb21)
  clear S_20
  have H_21 := hide (H_20.out.below hb21)
  clear H_20
  clear hb21 B20
  go_wp2_with fail
  refine (heldInt64S_ok _ _ _ 1 _ (by omega) (by omega) (by omega) (G_21.out.row (fun _ => rfl))).mono ?_
  rintro e u22 ⟨rfl, rfl⟩
  go_wp2
  go_ret
  exact ⟨rfl, B21.out⟩
end Go.Proofs.Ytbpddpdpgkkapaa
