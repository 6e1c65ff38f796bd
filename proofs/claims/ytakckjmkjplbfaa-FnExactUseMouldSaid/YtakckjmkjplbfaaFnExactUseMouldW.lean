/-
  What is proved: the law FnExactUseMould returns true and changes nothing that was there, for every input. No conditions beyond the arguments' own ranges.
-/
import Derived.Test.YtakckjmkjplbfaaMouldV3
import Derived.Test.YtakckjmkjplbfaaMouldSame
namespace Go.Proofs.Ytakckjmkjplbfaa
open Go.RowKit
set_option linter.unusedVariables false

set_option maxHeartbeats 1000000 in
theorem fnExactUseMouldWalk (a0 : Option Addr) (n0 c0 : Nat) (z0 : List Mould) (a1 a2 : Int) (w : World) (w0 : ArgRow Mould.enc Mould.Wf 4 w a0 n0 c0 z0) (w1 : (Lit.int .i64 a1).wf = true) (w2 : (Lit.int .i64 a2).wf = true) :
    Calls Try.prog 8 #[.slice a0 n0 c0, .int .i64 a1, .int .i64 a2] w fun e w' => e = .returned (.bool true) ∧ Below w.heap.size w w' := by
  have hlen := useL_len z0 a1 a2
  rw [w0.1] at hlen
  clear w1 w2
  obtain ⟨K, hK⟩ : ∃ K, useL z0 a1 a2 = K := ⟨_, rfl⟩
  obtain ⟨cc, hC⟩ : ∃ cc, useC z0 a1 a2 = cc := ⟨_, rfl⟩
  rw [hK] at hlen
  have HK := hide hK
  have HC := hide hC
  clear hK hC
  have W0 := hide w0
  have m0 : n0 ≤ maxLen := Nat.le_trans w0.2.1 w0.2.2.1
  have M0 := hide m0
  clear w0 m0
  by_cases hs0 : (1048576 : Int) < n0
  · go_enter Try.func8, Try.ntmps8
    go_wp2_with fail
    refine (szMouldS_ok _ _ _ _ _ (by omega) (by omega) M0.out).mono ?_
    rintro e u1 ⟨rfl, rfl⟩
    rw [if_pos (by omega)]
    go_wp2
    go_ret
    exact ⟨rfl, Below.refl _ _⟩
  have d0 : decide ((1048576 : Int) - n0 < 0) = false := by simp; omega
  go_enter Try.func8, Try.ntmps8
  have B0 := hide (Below.refl w.heap.size w)
  go_wp2_with fail
  refine (szMouldS_ok _ _ _ _ _ (by omega) (by omega) M0.out).mono ?_
  rintro e u1 ⟨rfl, rfl⟩
  rw [if_neg (by omega)]
  have k0 : n0 ≤ 1048576 := by omega
  clear hs0
  have hkn : ¬ ((1:Int) + 4 * (n0 : Int) < 0) := by omega
  have d1 : decide ((1:Int) + 4 * (n0 : Int) < 0) = false := by simpa using hkn
  have d2 : decide ((1:Int) + 4 * (K.length : Int) < 0) = false := by simp; omega
  clear hkn
  go_wp2_with fail
  refine (toMouldS_own _ _ _ z0 _ k0 (W0.out.below B0.out)).mono ?_
  rintro e u2 ⟨A1, C1, rfl, ho, hb2⟩
  have e2 : w.heap.size ≤ u2.heap.size := hb2.size
  have B2 := hide (B0.out.trans (hb2.mono B0.out.size))
  clear hb2 B0
  have P_2 := hide ho
  clear ho
  go_wp2_with fail
  refine (spec_use' _ _ _ z0 a1 a2 K cc _ HK.out HC.out (by omega) P_2.out.len (P_2.out.row (fun _ => rfl))).mono ?_
  rintro e u3 ⟨A2, C2, rfl, ho, hb3⟩
  have e3 : u2.heap.size ≤ u3.heap.size := hb3.size
  have B3 := hide (B2.out.trans (hb3.mono B2.out.size))
  have P_3 := hide (P_2.out.below hb3)
  clear P_2
  clear hb3 B2
  have U_3 := hide ho
  clear ho
  go_wp2_with fail
  refine (toMouldS_own _ _ _ z0 _ k0 (W0.out.below B3.out)).mono ?_
  rintro e u4 ⟨A3, C3, rfl, ho, hb4⟩
  have e4 : u3.heap.size ≤ u4.heap.size := hb4.size
  have B4 := hide (B3.out.trans (hb4.mono B3.out.size))
  have P_4 := hide (P_3.out.below hb4)
  clear P_3
  have U_4 := hide (U_3.out.below hb4)
  clear U_3
  clear hb4 B3
  have X_4 := hide ho
  clear ho
  go_wp2_with fail
  refine (impl_use' _ _ _ z0 a1 a2 K cc _ HK.out HC.out (by omega) X_4.out.len (X_4.out.row (fun _ => rfl))).mono ?_
  rintro e u5 ⟨A4, C4, rfl, ho, hb5⟩
  have e5 : u4.heap.size ≤ u5.heap.size := hb5.size
  have B5 := hide (B4.out.trans (hb5.mono B4.out.size))
  have P_5 := hide (P_4.out.below hb5)
  clear P_4
  have U_5 := hide (U_4.out.below hb5)
  clear U_4
  have X_5 := hide (X_4.out.below hb5)
  clear X_4
  clear hb5 B4
  have G_5 := hide ho
  clear ho
  go_wp2_with fail
  refine (eqMouldS_same _ _ _ _ _ K _ (by omega) G_5.out.len (G_5.out.row (fun _ => rfl)) (U_5.out.row (fun _ => rfl))).mono ?_
  rintro e u6 ⟨rfl, hb6⟩
  have e6 : u5.heap.size ≤ u6.heap.size := hb6.size
  have B6 := hide (B5.out.trans (hb6.mono B5.out.size))
  have P_6 := hide (P_5.out.below hb6)
  clear P_5
  have U_6 := hide (U_5.out.below hb6)
  clear U_5
  have X_6 := hide (X_5.out.below hb6)
  clear X_5
  have G_6 := hide (G_5.out.below hb6)
  clear G_5
  clear hb6 B5
  go_wp2_with fail
  refine (toMouldS_own _ _ _ z0 _ k0 (W0.out.below B6.out)).mono ?_
  rintro e u7 ⟨A5, C5, rfl, ho, hb7⟩
  have e7 : u6.heap.size ≤ u7.heap.size := hb7.size
  have B7 := hide (B6.out.trans (hb7.mono B6.out.size))
  have P_7 := hide (P_6.out.below hb7)
  clear P_6
  have U_7 := hide (U_6.out.below hb7)
  clear U_6
  have X_7 := hide (X_6.out.below hb7)
  clear X_6
  have G_7 := hide (G_6.out.below hb7)
  clear G_6
  clear hb7 B6
  have Z_7 := hide ho
  clear ho
  go_wp2_with fail
  refine (eqMouldS_same _ _ _ _ _ z0 _ (by omega) X_7.out.len (X_7.out.row (fun _ => rfl)) (Z_7.out.row (fun _ => rfl))).mono ?_
  rintro e u8 ⟨rfl, hb8⟩
  have e8 : u7.heap.size ≤ u8.heap.size := hb8.size
  have B8 := hide (B7.out.trans (hb8.mono B7.out.size))
  have P_8 := hide (P_7.out.below hb8)
  clear P_7
  have U_8 := hide (U_7.out.below hb8)
  clear U_7
  have X_8 := hide (X_7.out.below hb8)
  clear X_7
  have G_8 := hide (G_7.out.below hb8)
  clear G_7
  have Z_8 := hide (Z_7.out.below hb8)
  clear Z_7
  clear hb8 B7
  go_wp2_with fail
  refine (markMouldS_own _ _ _ _ _ 1 z0 _ (by omega) (by omega) (by omega) X_8.out).mono ?_
  rintro e u9 ⟨rfl, ho, hb9⟩
  have e9 : u8.heap.size ≤ u9.heap.size := hb9.size
  have B9 := hide (B8.out.trans (hb9.below (by have := B8.out.size; omega) B8.out.size))
  have P_9 := hide (P_8.out.touch hb9 (by omega))
  clear P_8
  have U_9 := hide (U_8.out.touch hb9 (by omega))
  clear U_8
  have G_9 := hide (G_8.out.touch hb9 (by omega))
  clear G_8
  have Z_9 := hide (Z_8.out.touch hb9 (by omega))
  clear Z_8
  clear hb9 B8 X_8
  have X_9 := hide ho
  clear ho
  go_wp2_with fail
  refine (eqMouldS_same _ _ _ _ _ K _ (by omega) G_9.out.len (G_9.out.row (fun _ => rfl)) (U_9.out.row (fun _ => rfl))).mono ?_
  rintro e u10 ⟨rfl, hb10⟩
  have e10 : u9.heap.size ≤ u10.heap.size := hb10.size
  have B10 := hide (B9.out.trans (hb10.mono B9.out.size))
  have P_10 := hide (P_9.out.below hb10)
  clear P_9
  have U_10 := hide (U_9.out.below hb10)
  clear U_9
  have X_10 := hide (X_9.out.below hb10)
  clear X_9
  have G_10 := hide (G_9.out.below hb10)
  clear G_9
  have Z_10 := hide (Z_9.out.below hb10)
  clear Z_9
  clear hb10 B9
  go_wp2_with fail
  refine (markMouldS_own _ _ _ _ _ 1 K _ (by omega) (by omega) (by omega) G_10.out).mono ?_
  rintro e u11 ⟨rfl, ho, hb11⟩
  have e11 : u10.heap.size ≤ u11.heap.size := hb11.size
  have B11 := hide (B10.out.trans (hb11.below (by have := B10.out.size; omega) B10.out.size))
  have P_11 := hide (P_10.out.touch hb11 (by omega))
  clear P_10
  have U_11 := hide (U_10.out.touch hb11 (by omega))
  clear U_10
  have X_11 := hide (X_10.out.touch hb11 (by omega))
  clear X_10
  have Z_11 := hide (Z_10.out.touch hb11 (by omega))
  clear Z_10
  clear hb11 B10 G_10
  have G_11 := hide ho
  clear ho
  go_wp2_with fail
  refine (heldMouldS_ok _ _ _ 1 _ (by omega) (by omega) (by omega) (G_11.out.row (fun _ => rfl))).mono ?_
  rintro e u12 ⟨rfl, rfl⟩
  go_wp2_with fail
  refine (toMouldS_own _ _ _ z0 _ k0 (W0.out.below B11.out)).mono ?_
  rintro e u13 ⟨A6, C6, rfl, ho, hb13⟩
  have e13 : u11.heap.size ≤ u13.heap.size := hb13.size
  have B13 := hide (B11.out.trans (hb13.mono B11.out.size))
  have P_13 := hide (P_11.out.below hb13)
  clear P_11
  have U_13 := hide (U_11.out.below hb13)
  clear U_11
  have X_13 := hide (X_11.out.below hb13)
  clear X_11
  have G_13 := hide (G_11.out.below hb13)
  clear G_11
  have Z_13 := hide (Z_11.out.below hb13)
  clear Z_11
  clear hb13 B11
  have Y_13 := hide ho
  clear ho
  go_wp2_with fail
  refine (impl_use' _ _ _ z0 a1 a2 K cc _ HK.out HC.out (by omega) Y_13.out.len (Y_13.out.row (fun _ => rfl))).mono ?_
  rintro e u14 ⟨A7, C7, rfl, ho, hb14⟩
  have e14 : u13.heap.size ≤ u14.heap.size := hb14.size
  have B14 := hide (B13.out.trans (hb14.mono B13.out.size))
  have P_14 := hide (P_13.out.below hb14)
  clear P_13
  have U_14 := hide (U_13.out.below hb14)
  clear U_13
  have X_14 := hide (X_13.out.below hb14)
  clear X_13
  have G_14 := hide (G_13.out.below hb14)
  clear G_13
  have Z_14 := hide (Z_13.out.below hb14)
  clear Z_13
  have Y_14 := hide (Y_13.out.below hb14)
  clear Y_13
  clear hb14 B13
  have H_14 := hide ho
  clear ho
  go_wp2_with fail
  refine (eqMouldS_same _ _ _ _ _ K _ (by omega) H_14.out.len (H_14.out.row (fun _ => rfl)) (U_14.out.row (fun _ => rfl))).mono ?_
  rintro e u15 ⟨rfl, hb15⟩
  have e15 : u14.heap.size ≤ u15.heap.size := hb15.size
  have B15 := hide (B14.out.trans (hb15.mono B14.out.size))
  have P_15 := hide (P_14.out.below hb15)
  clear P_14
  have U_15 := hide (U_14.out.below hb15)
  clear U_14
  have X_15 := hide (X_14.out.below hb15)
  clear X_14
  have G_15 := hide (G_14.out.below hb15)
  clear G_14
  have Z_15 := hide (Z_14.out.below hb15)
  clear Z_14
  have Y_15 := hide (Y_14.out.below hb15)
  clear Y_14
  have H_15 := hide (H_14.out.below hb15)
  clear H_14
  clear hb15 B14
  go_wp2_with fail
  refine (heldMouldS_ok _ _ _ 1 _ (by omega) (by omega) (by omega) (G_15.out.row (fun _ => rfl))).mono ?_
  rintro e u16 ⟨rfl, rfl⟩
  go_wp2
  go_ret
  exact ⟨rfl, B15.out⟩
end Go.Proofs.Ytakckjmkjplbfaa
