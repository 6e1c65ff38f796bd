/-
  What is proved: the law FnClays returns true and changes nothing that was there, for every input. No conditions beyond the arguments' own ranges.
-/
import Derived.Test.YtfjdhjbfingofaaGreatDoorDrawC8
import Derived.Test.YtfjdhjbfingofaaGreatDoorClaysLaw
import Derived.Test.YtfjdhjbfingofaaGreatDoorAdd2
import Derived.Test.YtfjdhjbfingofaaGreatDoorJoinE
import Derived.Test.YtfjdhjbfingofaaGreatDoorClayV2
import Derived.Test.YtfjdhjbfingofaaGreatDoorKept
import Derived.Deep.DeepCutAuto
import Derived.Lib.MinMax
namespace Go.Proofs.YtfjdhjbfingofaaGreatDoor
open Go.RowKit
set_option linter.unusedVariables false

set_option maxRecDepth 100000 in
set_option maxHeartbeats 16000000 in
theorem fnClaysWalk (a0 : Option Addr) (n0 c0 : Nat) (z0 : List Int) (w : World) (w0 : ArgInts .u8 w a0 n0 c0 z0) (hT : Pow10 w ∧ ErrSyn w ∧ MaxLenIs w) :
    Calls Tryz.prog 3 #[.slice a0 n0 c0] w fun e w' => e = .returned (.bool true) ∧ Below w.heap.size w w' := by
  have hMz : 1 < w.heap.size := by obtain ⟨m, hm⟩ := hT.2.2; exact cell_lt hm
  have HP := hide hT.1
  have HY := hide hT.2.1
  have HM := hide hT.2.2
  have W0 := hide w0
  clear w0 hT
  by_cases hlong : 4096 < n0
  · go_enter Tryz.func3, Tryz.ntmps3
    go_wp2_with fail
    refine (f6big_yes _ _ _ _ hlong).mono ?_
    rintro e w1 ⟨rfl, rfl⟩
    go_wp2
    go_ret
    exact ⟨rfl, Below.refl _ _⟩
  have hshort : n0 ≤ 4096 := by omega
  clear hlong
  have HMz := hide hMz
  clear hMz
  go_enter Tryz.func3, Tryz.ntmps3
  have B0 := hide (Below.refl w.heap.size w)
  go_wp2_with fail
  refine (f6big_no _ _ _ _ hshort).mono ?_
  rintro e u1 ⟨rfl, rfl⟩
  clear hshort
  go_wp2_with fail
  refine (src_DrawShrinkOf _ _ _ _ z0 (W0.out.below B0.out)).mono ?_
  rintro e u2 ⟨zs, ps, g, d, g2, d2, hl7, hl8, hnm, rfl, ho, hop, hb2⟩
  have B2 := hide (B0.out.trans (hb2.mono B0.out.size))
  clear hb2 B0
  obtain ⟨nz, hnz⟩ : ∃ r, zs.length = r := ⟨_, rfl⟩
  obtain ⟨np, hnp⟩ : ∃ r, ps.length = r := ⟨_, rfl⟩
  rw [hnz] at ho hl7 ⊢
  rw [hnp] at hl8 ⊢
  have Hnz := hide hnz
  have Hnp := hide hnp
  have P_0 := hide ho
  have R_0 := hide hop
  have NM := hide (names_short hnm)
  clear ho hop hnz hnp hnm
  obtain ⟨cc, hcc⟩ : ∃ r, scode zs ps = r := ⟨_, rfl⟩
  obtain ⟨X0, hX0⟩ : ∃ r, mnum (valOf 0) zs ps = r := ⟨_, rfl⟩
  obtain ⟨Y0, hY0⟩ : ∃ r, mden (valOf 0) zs ps = r := ⟨_, rfl⟩
  obtain ⟨X1, hX1⟩ : ∃ r, mnum (valOf 1) zs ps = r := ⟨_, rfl⟩
  obtain ⟨Y1, hY1⟩ : ∃ r, mden (valOf 1) zs ps = r := ⟨_, rfl⟩
  obtain ⟨X3, hX3⟩ : ∃ r, mnum (valOf 3) zs ps = r := ⟨_, rfl⟩
  obtain ⟨Y3, hY3⟩ : ∃ r, mden (valOf 3) zs ps = r := ⟨_, rfl⟩
  obtain ⟨K, hK⟩ : ∃ r, leastL zs ps = r := ⟨_, rfl⟩
  have Hcc := hide hcc
  have HX0 := hide hX0
  have HY0 := hide hY0
  have HX1 := hide hX1
  have HY1 := hide hY1
  have HX3 := hide hX3
  have HY3 := hide hY3
  have HK := hide hK
  clear hcc hX0 hY0 hX1 hY1 hX3 hY3 hK
  go_wp2_with fail
  refine (impl_ShrinkOf _ _ _ _ _ _ zs ps X0 Y0 cc _ HX0.out HY0.out Hcc.out (by omega) (own_cap P_0.out) (by omega) Hnz.out Hnp.out (P_0.out.row (fun _ => rfl)) R_0.out NM.out).mono ?_
  rintro e u3 ⟨rfl, hb3⟩
  have B3 := hide (B2.out.trans (hb3.mono B2.out.size))
  have P_3 := hide (P_0.out.below hb3)
  clear P_0
  have R_3 := hide (R_0.out.below hb3)
  clear R_0
  clear hb3 B2
  obtain ⟨u4, hu4⟩ : ∃ u, u3.alloc (.cells #[.int .i64 X0, .int .i64 Y0] 29) = u := ⟨_, rfl⟩
  have hb4 : Below u3.heap.size u3 u4 := by rw [← hu4]; exact (Below.refl _ _).alloc (Nat.le_refl _) _
  have B4 := hide (B3.out.trans (hb4.mono B3.out.size))
  have P_4 := hide (P_3.out.below hb4)
  clear P_3
  have R_4 := hide (R_3.out.below hb4)
  clear R_3
  have Fi0_4 := hide (show Kept2 u3.heap.size (.int .i64 X0) (.int .i64 Y0) u4 from by rw [← hu4]; exact Kept2.new ..)
  clear hb4 B3
  have HU4 := hide hu4
  clear hu4
  go_wp2_with fail
  rw [HU4.out]
  clear HU4
  refine (spec_ShrinkOf _ _ _ _ _ _ zs ps X0 Y0 cc _ HX0.out HY0.out Hcc.out (by omega) (own_cap P_4.out) (by omega) Hnz.out Hnp.out (P_4.out.row (fun _ => rfl)) R_4.out NM.out).mono ?_
  rintro e u5 ⟨rfl, hb5⟩
  have B5 := hide (B4.out.trans (hb5.mono B4.out.size))
  have P_5 := hide (P_4.out.below hb5)
  clear P_4
  have R_5 := hide (R_4.out.below hb5)
  clear R_4
  have Fi0_5 := hide (Fi0_4.out.below hb5)
  clear Fi0_4
  clear hb5 B4
  obtain ⟨u6, hu6⟩ : ∃ u, u5.alloc (.cells #[.int .i64 X0, .int .i64 Y0] 29) = u := ⟨_, rfl⟩
  have hb6 : Below u5.heap.size u5 u6 := by rw [← hu6]; exact (Below.refl _ _).alloc (Nat.le_refl _) _
  have B6 := hide (B5.out.trans (hb6.mono B5.out.size))
  have P_6 := hide (P_5.out.below hb6)
  clear P_5
  have R_6 := hide (R_5.out.below hb6)
  clear R_5
  have Fi0_6 := hide (Fi0_5.out.below hb6)
  clear Fi0_5
  have Fs0_6 := hide (show Kept2 u5.heap.size (.int .i64 X0) (.int .i64 Y0) u6 from by rw [← hu6]; exact Kept2.new ..)
  clear hb6 B5
  have HU6 := hide hu6
  clear hu6
  go_wp2_with fail
  rw [HU6.out]
  clear HU6
  refine (impl_LimeOf _ _ _ _ _ _ zs ps X1 Y1 cc _ HX1.out HY1.out Hcc.out (by omega) (own_cap P_6.out) (by omega) Hnz.out Hnp.out (P_6.out.row (fun _ => rfl)) R_6.out NM.out).mono ?_
  rintro e u7 ⟨rfl, hb7⟩
  have B7 := hide (B6.out.trans (hb7.mono B6.out.size))
  have P_7 := hide (P_6.out.below hb7)
  clear P_6
  have R_7 := hide (R_6.out.below hb7)
  clear R_6
  have Fi0_7 := hide (Fi0_6.out.below hb7)
  clear Fi0_6
  have Fs0_7 := hide (Fs0_6.out.below hb7)
  clear Fs0_6
  clear hb7 B6
  obtain ⟨u8, hu8⟩ : ∃ u, u7.alloc (.cells #[.int .i64 X1, .int .i64 Y1] 29) = u := ⟨_, rfl⟩
  have hb8 : Below u7.heap.size u7 u8 := by rw [← hu8]; exact (Below.refl _ _).alloc (Nat.le_refl _) _
  have B8 := hide (B7.out.trans (hb8.mono B7.out.size))
  have P_8 := hide (P_7.out.below hb8)
  clear P_7
  have R_8 := hide (R_7.out.below hb8)
  clear R_7
  have Fi0_8 := hide (Fi0_7.out.below hb8)
  clear Fi0_7
  have Fs0_8 := hide (Fs0_7.out.below hb8)
  clear Fs0_7
  have Fi1_8 := hide (show Kept2 u7.heap.size (.int .i64 X1) (.int .i64 Y1) u8 from by rw [← hu8]; exact Kept2.new ..)
  clear hb8 B7
  have HU8 := hide hu8
  clear hu8
  go_wp2_with fail
  rw [HU8.out]
  clear HU8
  refine (spec_LimeOf _ _ _ _ _ _ zs ps X1 Y1 cc _ HX1.out HY1.out Hcc.out (by omega) (own_cap P_8.out) (by omega) Hnz.out Hnp.out (P_8.out.row (fun _ => rfl)) R_8.out NM.out).mono ?_
  rintro e u9 ⟨rfl, hb9⟩
  have B9 := hide (B8.out.trans (hb9.mono B8.out.size))
  have P_9 := hide (P_8.out.below hb9)
  clear P_8
  have R_9 := hide (R_8.out.below hb9)
  clear R_8
  have Fi0_9 := hide (Fi0_8.out.below hb9)
  clear Fi0_8
  have Fs0_9 := hide (Fs0_8.out.below hb9)
  clear Fs0_8
  have Fi1_9 := hide (Fi1_8.out.below hb9)
  clear Fi1_8
  clear hb9 B8
  obtain ⟨u10, hu10⟩ : ∃ u, u9.alloc (.cells #[.int .i64 X1, .int .i64 Y1] 29) = u := ⟨_, rfl⟩
  have hb10 : Below u9.heap.size u9 u10 := by rw [← hu10]; exact (Below.refl _ _).alloc (Nat.le_refl _) _
  have B10 := hide (B9.out.trans (hb10.mono B9.out.size))
  have P_10 := hide (P_9.out.below hb10)
  clear P_9
  have R_10 := hide (R_9.out.below hb10)
  clear R_9
  have Fi0_10 := hide (Fi0_9.out.below hb10)
  clear Fi0_9
  have Fs0_10 := hide (Fs0_9.out.below hb10)
  clear Fs0_9
  have Fi1_10 := hide (Fi1_9.out.below hb10)
  clear Fi1_9
  have Fs1_10 := hide (show Kept2 u9.heap.size (.int .i64 X1) (.int .i64 Y1) u10 from by rw [← hu10]; exact Kept2.new ..)
  clear hb10 B9
  have HU10 := hide hu10
  clear hu10
  go_wp2_with fail
  rw [HU10.out]
  clear HU10
  refine (impl_BlendPrice _ _ _ _ _ _ zs ps X3 Y3 cc _ HX3.out HY3.out Hcc.out (by omega) (own_cap P_10.out) (by omega) Hnz.out Hnp.out (P_10.out.row (fun _ => rfl)) R_10.out NM.out).mono ?_
  rintro e u11 ⟨rfl, hb11⟩
  have B11 := hide (B10.out.trans (hb11.mono B10.out.size))
  have P_11 := hide (P_10.out.below hb11)
  clear P_10
  have R_11 := hide (R_10.out.below hb11)
  clear R_10
  have Fi0_11 := hide (Fi0_10.out.below hb11)
  clear Fi0_10
  have Fs0_11 := hide (Fs0_10.out.below hb11)
  clear Fs0_10
  have Fi1_11 := hide (Fi1_10.out.below hb11)
  clear Fi1_10
  have Fs1_11 := hide (Fs1_10.out.below hb11)
  clear Fs1_10
  clear hb11 B10
  obtain ⟨u12, hu12⟩ : ∃ u, u11.alloc (.cells #[.int .i64 X3, .int .i64 Y3] 29) = u := ⟨_, rfl⟩
  have hb12 : Below u11.heap.size u11 u12 := by rw [← hu12]; exact (Below.refl _ _).alloc (Nat.le_refl _) _
  have B12 := hide (B11.out.trans (hb12.mono B11.out.size))
  have P_12 := hide (P_11.out.below hb12)
  clear P_11
  have R_12 := hide (R_11.out.below hb12)
  clear R_11
  have Fi0_12 := hide (Fi0_11.out.below hb12)
  clear Fi0_11
  have Fs0_12 := hide (Fs0_11.out.below hb12)
  clear Fs0_11
  have Fi1_12 := hide (Fi1_11.out.below hb12)
  clear Fi1_11
  have Fs1_12 := hide (Fs1_11.out.below hb12)
  clear Fs1_11
  have Fi3_12 := hide (show Kept2 u11.heap.size (.int .i64 X3) (.int .i64 Y3) u12 from by rw [← hu12]; exact Kept2.new ..)
  clear hb12 B11
  have HU12 := hide hu12
  clear hu12
  go_wp2_with fail
  rw [HU12.out]
  clear HU12
  refine (spec_BlendPrice _ _ _ _ _ _ zs ps X3 Y3 cc _ HX3.out HY3.out Hcc.out (by omega) (own_cap P_12.out) (by omega) Hnz.out Hnp.out (P_12.out.row (fun _ => rfl)) R_12.out NM.out).mono ?_
  rintro e u13 ⟨rfl, hb13⟩
  have B13 := hide (B12.out.trans (hb13.mono B12.out.size))
  have P_13 := hide (P_12.out.below hb13)
  clear P_12
  have R_13 := hide (R_12.out.below hb13)
  clear R_12
  have Fi0_13 := hide (Fi0_12.out.below hb13)
  clear Fi0_12
  have Fs0_13 := hide (Fs0_12.out.below hb13)
  clear Fs0_12
  have Fi1_13 := hide (Fi1_12.out.below hb13)
  clear Fi1_12
  have Fs1_13 := hide (Fs1_12.out.below hb13)
  clear Fs1_12
  have Fi3_13 := hide (Fi3_12.out.below hb13)
  clear Fi3_12
  clear hb13 B12
  obtain ⟨u14, hu14⟩ : ∃ u, u13.alloc (.cells #[.int .i64 X3, .int .i64 Y3] 29) = u := ⟨_, rfl⟩
  have hb14 : Below u13.heap.size u13 u14 := by rw [← hu14]; exact (Below.refl _ _).alloc (Nat.le_refl _) _
  have B14 := hide (B13.out.trans (hb14.mono B13.out.size))
  have P_14 := hide (P_13.out.below hb14)
  clear P_13
  have R_14 := hide (R_13.out.below hb14)
  clear R_13
  have Fi0_14 := hide (Fi0_13.out.below hb14)
  clear Fi0_13
  have Fs0_14 := hide (Fs0_13.out.below hb14)
  clear Fs0_13
  have Fi1_14 := hide (Fi1_13.out.below hb14)
  clear Fi1_13
  have Fs1_14 := hide (Fs1_13.out.below hb14)
  clear Fs1_13
  have Fi3_14 := hide (Fi3_13.out.below hb14)
  clear Fi3_13
  have Fs3_14 := hide (show Kept2 u13.heap.size (.int .i64 X3) (.int .i64 Y3) u14 from by rw [← hu14]; exact Kept2.new ..)
  clear hb14 B13
  have HU14 := hide hu14
  clear hu14
  have hkl : K.length ≤ 8 := by rw [← HK.out]; have := leastL_len zs ps; have := Hnp.out; omega
  go_wp2_with fail
  rw [HU14.out]
  clear HU14
  refine (impl_leastParts' K cc _ _ _ _ _ _ zs ps _ (by omega) (own_cap P_14.out) (by omega) Hnz.out Hnp.out (P_14.out.row (fun _ => rfl)) R_14.out NM.out HK.out Hcc.out).mono ?_
  rintro e u15 ⟨A1, C1, rfl, ho, hb15⟩
  have B15 := hide (B14.out.trans (hb15.mono B14.out.size))
  have P_15 := hide (P_14.out.below hb15)
  clear P_14
  have R_15 := hide (R_14.out.below hb15)
  clear R_14
  have Fi0_15 := hide (Fi0_14.out.below hb15)
  clear Fi0_14
  have Fs0_15 := hide (Fs0_14.out.below hb15)
  clear Fs0_14
  have Fi1_15 := hide (Fi1_14.out.below hb15)
  clear Fi1_14
  have Fs1_15 := hide (Fs1_14.out.below hb15)
  clear Fs1_14
  have Fi3_15 := hide (Fi3_14.out.below hb15)
  clear Fi3_14
  have Fs3_15 := hide (Fs3_14.out.below hb15)
  clear Fs3_14
  clear hb15 B14
  have U_15 := hide ho
  clear ho
  go_wp2_with fail
  refine (spec_leastParts' K cc _ _ _ _ _ _ zs ps _ (by omega) (by omega) Hnz.out Hnp.out (P_15.out.row (fun _ => rfl)) R_15.out NM.out HK.out Hcc.out).mono ?_
  rintro e u16 ⟨A2, C2, rfl, ho, hb16⟩
  have B16 := hide (B15.out.trans (hb16.mono B15.out.size))
  have P_16 := hide (P_15.out.below hb16)
  clear P_15
  have R_16 := hide (R_15.out.below hb16)
  clear R_15
  have Fi0_16 := hide (Fi0_15.out.below hb16)
  clear Fi0_15
  have Fs0_16 := hide (Fs0_15.out.below hb16)
  clear Fs0_15
  have Fi1_16 := hide (Fi1_15.out.below hb16)
  clear Fi1_15
  have Fs1_16 := hide (Fs1_15.out.below hb16)
  clear Fs1_15
  have Fi3_16 := hide (Fi3_15.out.below hb16)
  clear Fi3_15
  have Fs3_16 := hide (Fs3_15.out.below hb16)
  clear Fs3_15
  have U_16 := hide (U_15.out.below hb16)
  clear U_15
  clear hb16 B15
  have V_16 := hide ho
  clear ho
  go_wp2_with fail
  refine (src_DrawAddClay _ _ _ _ z0 (W0.out.below B16.out)).mono ?_
  rintro e u17 ⟨za, ga, da, x0, x1, x2, x3, x4, hla, hnma, hx0, rfl, ho, hb17⟩
  have B17 := hide (B16.out.trans (hb17.mono B16.out.size))
  have P_17 := hide (P_16.out.below hb17)
  clear P_16
  have R_17 := hide (R_16.out.below hb17)
  clear R_16
  have Fi0_17 := hide (Fi0_16.out.below hb17)
  clear Fi0_16
  have Fs0_17 := hide (Fs0_16.out.below hb17)
  clear Fs0_16
  have Fi1_17 := hide (Fi1_16.out.below hb17)
  clear Fi1_16
  have Fs1_17 := hide (Fs1_16.out.below hb17)
  clear Fs1_16
  have Fi3_17 := hide (Fi3_16.out.below hb17)
  clear Fi3_16
  have Fs3_17 := hide (Fs3_16.out.below hb17)
  clear Fs3_16
  have U_17 := hide (U_16.out.below hb17)
  clear U_16
  have V_17 := hide (V_16.out.below hb17)
  clear V_16
  clear hb17 B16
  obtain ⟨na, hna⟩ : ∃ r, za.length = r := ⟨_, rfl⟩
  rw [hna] at ho hla ⊢
  have Hna := hide hna
  have Q_0 := hide ho
  have NA := hide (names_short hnma)
  have hmx : x0.size ≤ maxLen := by unfold maxLen; omega
  clear ho hna hnma hx0
  obtain ⟨u18, hu18⟩ : ∃ u, u17.alloc (.cells #[.string x0, .int .i64 x1, .int .i64 x2, .int .i64 x3, .int .i64 x4] 35) = u := ⟨_, rfl⟩
  have hb18 : Below u17.heap.size u17 u18 := by rw [← hu18]; exact (Below.refl _ _).alloc (Nat.le_refl _) _
  have B18 := hide (B17.out.trans (hb18.mono B17.out.size))
  have P_18 := hide (P_17.out.below hb18)
  clear P_17
  have R_18 := hide (R_17.out.below hb18)
  clear R_17
  have Fi0_18 := hide (Fi0_17.out.below hb18)
  clear Fi0_17
  have Fs0_18 := hide (Fs0_17.out.below hb18)
  clear Fs0_17
  have Fi1_18 := hide (Fi1_17.out.below hb18)
  clear Fi1_17
  have Fs1_18 := hide (Fs1_17.out.below hb18)
  clear Fs1_17
  have Fi3_18 := hide (Fi3_17.out.below hb18)
  clear Fi3_17
  have Fs3_18 := hide (Fs3_17.out.below hb18)
  clear Fs3_17
  have U_18 := hide (U_17.out.below hb18)
  clear U_17
  have V_18 := hide (V_17.out.below hb18)
  clear V_17
  have Q_18 := hide (Q_0.out.below hb18)
  clear Q_0
  have C_18 := hide (show Kept5 u17.heap.size (.string x0) (.int .i64 x1) (.int .i64 x2) (.int .i64 x3) (.int .i64 x4) u18 from by rw [← hu18]; exact Kept5.new ..)
  clear hb18 B17
  have HU18 := hide hu18
  clear hu18
  obtain ⟨KA, hKA⟩ : ∃ r, addL za ⟨x0, x1, x2, x3, x4⟩ = r := ⟨_, rfl⟩
  obtain ⟨ca, hca⟩ : ∃ r, addC za ⟨x0, x1, x2, x3, x4⟩ = r := ⟨_, rfl⟩
  have HKA := hide hKA
  have Hca := hide hca
  clear hKA hca
  go_wp2_with fail
  rw [HU18.out]
  clear HU18
  refine (impl_add' KA ca _ _ _ _ za x0 x1 x2 x3 x4 _ (by omega) (own_cap Q_18.out) Hna.out (Q_18.out.row (fun _ => rfl)) NA.out hmx HKA.out Hca.out).mono ?_
  rintro e u19 ⟨A3, C3, rfl, ho, hb19⟩
  have B19 := hide (B18.out.trans (hb19.mono B18.out.size))
  have P_19 := hide (P_18.out.below hb19)
  clear P_18
  have R_19 := hide (R_18.out.below hb19)
  clear R_18
  have Fi0_19 := hide (Fi0_18.out.below hb19)
  clear Fi0_18
  have Fs0_19 := hide (Fs0_18.out.below hb19)
  clear Fs0_18
  have Fi1_19 := hide (Fi1_18.out.below hb19)
  clear Fi1_18
  have Fs1_19 := hide (Fs1_18.out.below hb19)
  clear Fs1_18
  have Fi3_19 := hide (Fi3_18.out.below hb19)
  clear Fi3_18
  have Fs3_19 := hide (Fs3_18.out.below hb19)
  clear Fs3_18
  have U_19 := hide (U_18.out.below hb19)
  clear U_18
  have V_19 := hide (V_18.out.below hb19)
  clear V_18
  have Q_19 := hide (Q_18.out.below hb19)
  clear Q_18
  have C_19 := hide (C_18.out.below hb19)
  clear C_18
  clear hb19 B18
  have M_19 := hide ho
  clear ho
  obtain ⟨-, kC_0, kC_1, kC_2, kC_3, kC_4⟩ := C_19.out
  go_wp2_with fail
  refine (spec_add' KA ca _ _ _ _ za x0 x1 x2 x3 x4 _ (by omega) (own_cap Q_19.out) Hna.out (Q_19.out.row (fun _ => rfl)) NA.out hmx HKA.out Hca.out).mono ?_
  rintro e u20 ⟨A4, C4, rfl, ho, hb20⟩
  have B20 := hide (B19.out.trans (hb20.mono B19.out.size))
  have P_20 := hide (P_19.out.below hb20)
  clear P_19
  have R_20 := hide (R_19.out.below hb20)
  clear R_19
  have Fi0_20 := hide (Fi0_19.out.below hb20)
  clear Fi0_19
  have Fs0_20 := hide (Fs0_19.out.below hb20)
  clear Fs0_19
  have Fi1_20 := hide (Fi1_19.out.below hb20)
  clear Fi1_19
  have Fs1_20 := hide (Fs1_19.out.below hb20)
  clear Fs1_19
  have Fi3_20 := hide (Fi3_19.out.below hb20)
  clear Fi3_19
  have Fs3_20 := hide (Fs3_19.out.below hb20)
  clear Fs3_19
  have U_20 := hide (U_19.out.below hb20)
  clear U_19
  have V_20 := hide (V_19.out.below hb20)
  clear V_19
  have Q_20 := hide (Q_19.out.below hb20)
  clear Q_19
  have C_20 := hide (C_19.out.below hb20)
  clear C_19
  have M_20 := hide (M_19.out.below hb20)
  clear M_19
  clear hb20 B19
  have N_20 := hide ho
  clear ho
  clear hmx NA kC_0 kC_1 kC_2 kC_3 kC_4
  clear Q_20 C_20
  have hka : KA.length ≤ 8 := by rw [← HKA.out]; have := addL_len za ⟨x0, x1, x2, x3, x4⟩; have := Hna.out; omega
  clear hla Hca HKA Hna
  go_wp2_with fail
  refine (src_DrawClayText _ _ _ _ z0 (W0.out.below B20.out)).mono ?_
  rintro e u21 ⟨t0, t1, t2, t3, t4, ht0, rfl, hb21⟩
  have B21 := hide (B20.out.trans (hb21.mono B20.out.size))
  have P_21 := hide (P_20.out.below hb21)
  clear P_20
  have R_21 := hide (R_20.out.below hb21)
  clear R_20
  have Fi0_21 := hide (Fi0_20.out.below hb21)
  clear Fi0_20
  have Fs0_21 := hide (Fs0_20.out.below hb21)
  clear Fs0_20
  have Fi1_21 := hide (Fi1_20.out.below hb21)
  clear Fi1_20
  have Fs1_21 := hide (Fs1_20.out.below hb21)
  clear Fs1_20
  have Fi3_21 := hide (Fi3_20.out.below hb21)
  clear Fi3_20
  have Fs3_21 := hide (Fs3_20.out.below hb21)
  clear Fs3_20
  have U_21 := hide (U_20.out.below hb21)
  clear U_20
  have V_21 := hide (V_20.out.below hb21)
  clear V_20
  have M_21 := hide (M_20.out.below hb21)
  clear M_20
  have N_21 := hide (N_20.out.below hb21)
  clear N_20
  clear hb21 B20
  have hmt : t0.size ≤ maxLen := by unfold maxLen; omega
  obtain ⟨u22, hu22⟩ : ∃ u, u21.alloc (.cells #[.string t0, .int .i64 t1, .int .i64 t2, .int .i64 t3, .int .i64 t4] 35) = u := ⟨_, rfl⟩
  have hb22 : Below u21.heap.size u21 u22 := by rw [← hu22]; exact (Below.refl _ _).alloc (Nat.le_refl _) _
  have B22 := hide (B21.out.trans (hb22.mono B21.out.size))
  have P_22 := hide (P_21.out.below hb22)
  clear P_21
  have R_22 := hide (R_21.out.below hb22)
  clear R_21
  have Fi0_22 := hide (Fi0_21.out.below hb22)
  clear Fi0_21
  have Fs0_22 := hide (Fs0_21.out.below hb22)
  clear Fs0_21
  have Fi1_22 := hide (Fi1_21.out.below hb22)
  clear Fi1_21
  have Fs1_22 := hide (Fs1_21.out.below hb22)
  clear Fs1_21
  have Fi3_22 := hide (Fi3_21.out.below hb22)
  clear Fi3_21
  have Fs3_22 := hide (Fs3_21.out.below hb22)
  clear Fs3_21
  have U_22 := hide (U_21.out.below hb22)
  clear U_21
  have V_22 := hide (V_21.out.below hb22)
  clear V_21
  have M_22 := hide (M_21.out.below hb22)
  clear M_21
  have N_22 := hide (N_21.out.below hb22)
  clear N_21
  have T_22 := hide (show Kept5 u21.heap.size (.string t0) (.int .i64 t1) (.int .i64 t2) (.int .i64 t3) (.int .i64 t4) u22 from by rw [← hu22]; exact Kept5.new ..)
  clear hb22 B21
  have HU22 := hide hu22
  clear hu22
  obtain ⟨TX, hTX⟩ : ∃ r, clayT ⟨t0, t1, t2, t3, t4⟩ = r := ⟨_, rfl⟩
  have HTX := hide hTX
  clear hTX
  go_wp2_with fail
  rw [HU22.out]
  clear HU22
  refine (impl_clayText t0 t1 t2 t3 t4 _ hmt (HP.out.below B22.out)).mono ?_
  rintro e u23 ⟨rfl, hb23⟩
  have B23 := hide (B22.out.trans (hb23.mono B22.out.size))
  have P_23 := hide (P_22.out.below hb23)
  clear P_22
  have R_23 := hide (R_22.out.below hb23)
  clear R_22
  have Fi0_23 := hide (Fi0_22.out.below hb23)
  clear Fi0_22
  have Fs0_23 := hide (Fs0_22.out.below hb23)
  clear Fs0_22
  have Fi1_23 := hide (Fi1_22.out.below hb23)
  clear Fi1_22
  have Fs1_23 := hide (Fs1_22.out.below hb23)
  clear Fs1_22
  have Fi3_23 := hide (Fi3_22.out.below hb23)
  clear Fi3_22
  have Fs3_23 := hide (Fs3_22.out.below hb23)
  clear Fs3_22
  have U_23 := hide (U_22.out.below hb23)
  clear U_22
  have V_23 := hide (V_22.out.below hb23)
  clear V_22
  have M_23 := hide (M_22.out.below hb23)
  clear M_22
  have N_23 := hide (N_22.out.below hb23)
  clear N_22
  have T_23 := hide (T_22.out.below hb23)
  clear T_22
  clear hb23 B22
  rw [HTX.out]
  have htxs : TX.size ≤ 1048576 := by rw [← HTX.out]; exact clayT_size ht0
  clear ht0
  obtain ⟨r0, r1, r2, r3, r4, rb, hrb⟩ := read_is (clyL TX.data.toList)
  have HRB := hide hrb
  clear hrb
  go_wp2_with fail
  refine ((impl_readClay TX _ htxs (HM.out.below HMz.out B23.out) (HP.out.below B23.out) (HY.out.below B23.out)).mono fun e w' h => read_post HRB.out h).mono ?_
  rintro e u24 ⟨rfl, hb24⟩
  have B24 := hide (B23.out.trans (hb24.mono B23.out.size))
  have P_24 := hide (P_23.out.below hb24)
  clear P_23
  have R_24 := hide (R_23.out.below hb24)
  clear R_23
  have Fi0_24 := hide (Fi0_23.out.below hb24)
  clear Fi0_23
  have Fs0_24 := hide (Fs0_23.out.below hb24)
  clear Fs0_23
  have Fi1_24 := hide (Fi1_23.out.below hb24)
  clear Fi1_23
  have Fs1_24 := hide (Fs1_23.out.below hb24)
  clear Fs1_23
  have Fi3_24 := hide (Fi3_23.out.below hb24)
  clear Fi3_23
  have Fs3_24 := hide (Fs3_23.out.below hb24)
  clear Fs3_23
  have U_24 := hide (U_23.out.below hb24)
  clear U_23
  have V_24 := hide (V_23.out.below hb24)
  clear V_23
  have M_24 := hide (M_23.out.below hb24)
  clear M_23
  have N_24 := hide (N_23.out.below hb24)
  clear N_23
  have T_24 := hide (T_23.out.below hb24)
  clear T_23
  clear hb24 B23
  clear htxs
  obtain ⟨u25, hu25⟩ : ∃ u, u24.alloc (.cells #[.string r0, .int .i64 r1, .int .i64 r2, .int .i64 r3, .int .i64 r4] 35) = u := ⟨_, rfl⟩
  have hb25 : Below u24.heap.size u24 u25 := by rw [← hu25]; exact (Below.refl _ _).alloc (Nat.le_refl _) _
  have B25 := hide (B24.out.trans (hb25.mono B24.out.size))
  have P_25 := hide (P_24.out.below hb25)
  clear P_24
  have R_25 := hide (R_24.out.below hb25)
  clear R_24
  have Fi0_25 := hide (Fi0_24.out.below hb25)
  clear Fi0_24
  have Fs0_25 := hide (Fs0_24.out.below hb25)
  clear Fs0_24
  have Fi1_25 := hide (Fi1_24.out.below hb25)
  clear Fi1_24
  have Fs1_25 := hide (Fs1_24.out.below hb25)
  clear Fs1_24
  have Fi3_25 := hide (Fi3_24.out.below hb25)
  clear Fi3_24
  have Fs3_25 := hide (Fs3_24.out.below hb25)
  clear Fs3_24
  have U_25 := hide (U_24.out.below hb25)
  clear U_24
  have V_25 := hide (V_24.out.below hb25)
  clear V_24
  have M_25 := hide (M_24.out.below hb25)
  clear M_24
  have N_25 := hide (N_24.out.below hb25)
  clear N_24
  have T_25 := hide (T_24.out.below hb25)
  clear T_24
  have B_25 := hide (show Kept5 u24.heap.size (.string r0) (.int .i64 r1) (.int .i64 r2) (.int .i64 r3) (.int .i64 r4) u25 from by rw [← hu25]; exact Kept5.new ..)
  clear hb25 B24
  have HU25 := hide hu25
  clear hu25
  go_wp2_with fail
  rw [HU25.out]
  clear HU25
  refine (src_DrawReadClay _ _ _ _ z0 (W0.out.below B25.out)).mono ?_
  rintro e u26 ⟨s, hs, rfl, hb26⟩
  have B26 := hide (B25.out.trans (hb26.mono B25.out.size))
  have P_26 := hide (P_25.out.below hb26)
  clear P_25
  have R_26 := hide (R_25.out.below hb26)
  clear R_25
  have Fi0_26 := hide (Fi0_25.out.below hb26)
  clear Fi0_25
  have Fs0_26 := hide (Fs0_25.out.below hb26)
  clear Fs0_25
  have Fi1_26 := hide (Fi1_25.out.below hb26)
  clear Fi1_25
  have Fs1_26 := hide (Fs1_25.out.below hb26)
  clear Fs1_25
  have Fi3_26 := hide (Fi3_25.out.below hb26)
  clear Fi3_25
  have Fs3_26 := hide (Fs3_25.out.below hb26)
  clear Fs3_25
  have U_26 := hide (U_25.out.below hb26)
  clear U_25
  have V_26 := hide (V_25.out.below hb26)
  clear V_25
  have M_26 := hide (M_25.out.below hb26)
  clear M_25
  have N_26 := hide (N_25.out.below hb26)
  clear N_25
  have T_26 := hide (T_25.out.below hb26)
  clear T_25
  have B_26 := hide (B_25.out.below hb26)
  clear B_25
  clear hb26 B25
  obtain ⟨q0, q1, q2, q3, q4, qb, hqb⟩ := read_is (clyL s.data.toList)
  have HQB := hide hqb
  clear hqb
  go_wp2_with fail
  refine ((impl_readClay s _ (by omega) (HM.out.below HMz.out B26.out) (HP.out.below B26.out) (HY.out.below B26.out)).mono fun e w' h => read_post HQB.out h).mono ?_
  rintro e u27 ⟨rfl, hb27⟩
  have B27 := hide (B26.out.trans (hb27.mono B26.out.size))
  have P_27 := hide (P_26.out.below hb27)
  clear P_26
  have R_27 := hide (R_26.out.below hb27)
  clear R_26
  have Fi0_27 := hide (Fi0_26.out.below hb27)
  clear Fi0_26
  have Fs0_27 := hide (Fs0_26.out.below hb27)
  clear Fs0_26
  have Fi1_27 := hide (Fi1_26.out.below hb27)
  clear Fi1_26
  have Fs1_27 := hide (Fs1_26.out.below hb27)
  clear Fs1_26
  have Fi3_27 := hide (Fi3_26.out.below hb27)
  clear Fi3_26
  have Fs3_27 := hide (Fs3_26.out.below hb27)
  clear Fs3_26
  have U_27 := hide (U_26.out.below hb27)
  clear U_26
  have V_27 := hide (V_26.out.below hb27)
  clear V_26
  have M_27 := hide (M_26.out.below hb27)
  clear M_26
  have N_27 := hide (N_26.out.below hb27)
  clear N_26
  have T_27 := hide (T_26.out.below hb27)
  clear T_26
  have B_27 := hide (B_26.out.below hb27)
  clear B_26
  clear hb27 B26
  obtain ⟨u28, hu28⟩ : ∃ u, u27.alloc (.cells #[.string q0, .int .i64 q1, .int .i64 q2, .int .i64 q3, .int .i64 q4] 35) = u := ⟨_, rfl⟩
  have hb28 : Below u27.heap.size u27 u28 := by rw [← hu28]; exact (Below.refl _ _).alloc (Nat.le_refl _) _
  have B28 := hide (B27.out.trans (hb28.mono B27.out.size))
  have P_28 := hide (P_27.out.below hb28)
  clear P_27
  have R_28 := hide (R_27.out.below hb28)
  clear R_27
  have Fi0_28 := hide (Fi0_27.out.below hb28)
  clear Fi0_27
  have Fs0_28 := hide (Fs0_27.out.below hb28)
  clear Fs0_27
  have Fi1_28 := hide (Fi1_27.out.below hb28)
  clear Fi1_27
  have Fs1_28 := hide (Fs1_27.out.below hb28)
  clear Fs1_27
  have Fi3_28 := hide (Fi3_27.out.below hb28)
  clear Fi3_27
  have Fs3_28 := hide (Fs3_27.out.below hb28)
  clear Fs3_27
  have U_28 := hide (U_27.out.below hb28)
  clear U_27
  have V_28 := hide (V_27.out.below hb28)
  clear V_27
  have M_28 := hide (M_27.out.below hb28)
  clear M_27
  have N_28 := hide (N_27.out.below hb28)
  clear N_27
  have T_28 := hide (T_27.out.below hb28)
  clear T_27
  have B_28 := hide (B_27.out.below hb28)
  clear B_27
  have D1_28 := hide (show Kept5 u27.heap.size (.string q0) (.int .i64 q1) (.int .i64 q2) (.int .i64 q3) (.int .i64 q4) u28 from by rw [← hu28]; exact Kept5.new ..)
  clear hb28 B27
  have HU28 := hide hu28
  clear hu28
  go_wp2_with fail
  rw [HU28.out]
  clear HU28
  refine ((spec_readClay s _ (by omega)).mono fun e w' h => read_post HQB.out h).mono ?_
  rintro e u29 ⟨rfl, hb29⟩
  have B29 := hide (B28.out.trans (hb29.mono B28.out.size))
  have P_29 := hide (P_28.out.below hb29)
  clear P_28
  have R_29 := hide (R_28.out.below hb29)
  clear R_28
  have Fi0_29 := hide (Fi0_28.out.below hb29)
  clear Fi0_28
  have Fs0_29 := hide (Fs0_28.out.below hb29)
  clear Fs0_28
  have Fi1_29 := hide (Fi1_28.out.below hb29)
  clear Fi1_28
  have Fs1_29 := hide (Fs1_28.out.below hb29)
  clear Fs1_28
  have Fi3_29 := hide (Fi3_28.out.below hb29)
  clear Fi3_28
  have Fs3_29 := hide (Fs3_28.out.below hb29)
  clear Fs3_28
  have U_29 := hide (U_28.out.below hb29)
  clear U_28
  have V_29 := hide (V_28.out.below hb29)
  clear V_28
  have M_29 := hide (M_28.out.below hb29)
  clear M_28
  have N_29 := hide (N_28.out.below hb29)
  clear N_28
  have T_29 := hide (T_28.out.below hb29)
  clear T_28
  have B_29 := hide (B_28.out.below hb29)
  clear B_28
  have D1_29 := hide (D1_28.out.below hb29)
  clear D1_28
  clear hb29 B28
  obtain ⟨u30, hu30⟩ : ∃ u, u29.alloc (.cells #[.string q0, .int .i64 q1, .int .i64 q2, .int .i64 q3, .int .i64 q4] 35) = u := ⟨_, rfl⟩
  have hb30 : Below u29.heap.size u29 u30 := by rw [← hu30]; exact (Below.refl _ _).alloc (Nat.le_refl _) _
  have B30 := hide (B29.out.trans (hb30.mono B29.out.size))
  have P_30 := hide (P_29.out.below hb30)
  clear P_29
  have R_30 := hide (R_29.out.below hb30)
  clear R_29
  have Fi0_30 := hide (Fi0_29.out.below hb30)
  clear Fi0_29
  have Fs0_30 := hide (Fs0_29.out.below hb30)
  clear Fs0_29
  have Fi1_30 := hide (Fi1_29.out.below hb30)
  clear Fi1_29
  have Fs1_30 := hide (Fs1_29.out.below hb30)
  clear Fs1_29
  have Fi3_30 := hide (Fi3_29.out.below hb30)
  clear Fi3_29
  have Fs3_30 := hide (Fs3_29.out.below hb30)
  clear Fs3_29
  have U_30 := hide (U_29.out.below hb30)
  clear U_29
  have V_30 := hide (V_29.out.below hb30)
  clear V_29
  have M_30 := hide (M_29.out.below hb30)
  clear M_29
  have N_30 := hide (N_29.out.below hb30)
  clear N_29
  have T_30 := hide (T_29.out.below hb30)
  clear T_29
  have B_30 := hide (B_29.out.below hb30)
  clear B_29
  have D1_30 := hide (D1_29.out.below hb30)
  clear D1_29
  have D2_30 := hide (show Kept5 u29.heap.size (.string q0) (.int .i64 q1) (.int .i64 q2) (.int .i64 q3) (.int .i64 q4) u30 from by rw [← hu30]; exact Kept5.new ..)
  clear hb30 B29
  have HU30 := hide hu30
  clear hu30
  go_wp2_with fail
  rw [HU30.out]
  clear HU30
  refine (src_DrawSameClays _ _ _ _ z0 (W0.out.below B30.out)).mono ?_
  rintro e u31 ⟨zd, ze, gd, dd, ge, de, hld, hle, rfl, ho1, ho2, hb31⟩
  have B31 := hide (B30.out.trans (hb31.mono B30.out.size))
  have P_31 := hide (P_30.out.below hb31)
  clear P_30
  have R_31 := hide (R_30.out.below hb31)
  clear R_30
  have Fi0_31 := hide (Fi0_30.out.below hb31)
  clear Fi0_30
  have Fs0_31 := hide (Fs0_30.out.below hb31)
  clear Fs0_30
  have Fi1_31 := hide (Fi1_30.out.below hb31)
  clear Fi1_30
  have Fs1_31 := hide (Fs1_30.out.below hb31)
  clear Fs1_30
  have Fi3_31 := hide (Fi3_30.out.below hb31)
  clear Fi3_30
  have Fs3_31 := hide (Fs3_30.out.below hb31)
  clear Fs3_30
  have U_31 := hide (U_30.out.below hb31)
  clear U_30
  have V_31 := hide (V_30.out.below hb31)
  clear V_30
  have M_31 := hide (M_30.out.below hb31)
  clear M_30
  have N_31 := hide (N_30.out.below hb31)
  clear N_30
  have T_31 := hide (T_30.out.below hb31)
  clear T_30
  have B_31 := hide (B_30.out.below hb31)
  clear B_30
  have D1_31 := hide (D1_30.out.below hb31)
  clear D1_30
  have D2_31 := hide (D2_30.out.below hb31)
  clear D2_30
  clear hb31 B30
  clear hs HQB HM HP HY W0 HMz
  obtain ⟨nd, hnd⟩ : ∃ r, zd.length = r := ⟨_, rfl⟩
  obtain ⟨ne, hne⟩ : ∃ r, ze.length = r := ⟨_, rfl⟩
  rw [hnd] at hld ⊢
  rw [hne] at hle ⊢
  have Hnd := hide hnd
  have Hne := hide hne
  have D_0 := hide ho1
  have E_0 := hide ho2
  clear hnd hne ho1 ho2
  obtain ⟨sv, hsv⟩ : ∃ v, sameL Clay.same zd ze = v := ⟨_, rfl⟩
  obtain ⟨mv, hmv⟩ : ∃ v, claysOk zs = v := ⟨_, rfl⟩
  have HSV := hide hsv
  have HMV := hide hmv
  clear hsv hmv
  obtain ⟨-, kFi0_0, kFi0_1⟩ := Fi0_31.out
  obtain ⟨-, kFs0_0, kFs0_1⟩ := Fs0_31.out
  obtain ⟨-, kFi1_0, kFi1_1⟩ := Fi1_31.out
  obtain ⟨-, kFs1_0, kFs1_1⟩ := Fs1_31.out
  obtain ⟨-, kFi3_0, kFi3_1⟩ := Fi3_31.out
  obtain ⟨-, kFs3_0, kFs3_1⟩ := Fs3_31.out
  go_upto_region 22 with fail
  go_cut [236] (fun v wx => v = .bool false ∧ Hid (Below u31.heap.size u31 wx))
  case first =>
    as_aux_lemma =>
      have HBU := hide (Below.refl u31.heap.size u31)
      clear Fi0_31 Fs0_31 Fi1_31 Fs1_31 Fi3_31 Fs3_31 R_31
      go_wp2_with fail
      refine (quiet_below (f6ints_same _ _ _ _ _ K _ (by omega) rfl (U_31.out.row (fun _ => rfl)) (V_31.out.row (fun _ => rfl)))).mono ?_
      rintro e u32 ⟨rfl, hb32⟩
      have B32 := hide (HBU.out.trans (hb32.mono HBU.out.size))
      have P_32 := hide (P_31.out.below hb32)
      clear P_31
      have U_32 := hide (U_31.out.below hb32)
      clear U_31
      have V_32 := hide (V_31.out.below hb32)
      clear V_31
      have M_32 := hide (M_31.out.below hb32)
      clear M_31
      have N_32 := hide (N_31.out.below hb32)
      clear N_31
      have T_32 := hide (T_31.out.below hb32)
      clear T_31
      have B_32 := hide (B_31.out.below hb32)
      clear B_31
      have D1_32 := hide (D1_31.out.below hb32)
      clear D1_31
      have D2_32 := hide (D2_31.out.below hb32)
      clear D2_31
      have D_32 := hide (D_0.out.below hb32)
      clear D_0
      have E_32 := hide (E_0.out.below hb32)
      clear E_0
      clear hb32 HBU
      clear kFi0_0 kFi0_1 kFs0_0 kFs0_1 kFi1_0 kFi1_1 kFs1_0 kFs1_1 kFi3_0 kFi3_1 kFs3_0 kFs3_1
      clear U_32 V_32
      go_wp2_with fail
      refine (quiet_below (spec_sameClay _ _ _ _ _ _ KA KA _ (by omega) (by omega) rfl rfl (M_32.out.row (fun _ => rfl)) (N_32.out.row (fun _ => rfl)))).mono ?_
      rintro e u33 ⟨rfl, hb33⟩
      have B33 := hide (B32.out.trans (hb33.mono B32.out.size))
      have P_33 := hide (P_32.out.below hb33)
      clear P_32
      have M_33 := hide (M_32.out.below hb33)
      clear M_32
      have N_33 := hide (N_32.out.below hb33)
      clear N_32
      have T_33 := hide (T_32.out.below hb33)
      clear T_32
      have B_33 := hide (B_32.out.below hb33)
      clear B_32
      have D1_33 := hide (D1_32.out.below hb33)
      clear D1_32
      have D2_33 := hide (D2_32.out.below hb33)
      clear D2_32
      have D_33 := hide (D_32.out.below hb33)
      clear D_32
      have E_33 := hide (E_32.out.below hb33)
      clear E_32
      clear hb33 B32
      rw [sameL_self (fun x => by simp [Clay.same])]
      clear M_33 N_33
      obtain ⟨-, kT_0, kT_1, kT_2, kT_3, kT_4⟩ := T_33.out
      go_wp2_with fail
      refine (spec_clayText t0 t1 t2 t3 t4 _ hmt).mono ?_
      rintro e u34 ⟨rfl, hb34⟩
      have B34 := hide (B33.out.trans (hb34.mono B33.out.size))
      have P_34 := hide (P_33.out.below hb34)
      clear P_33
      have T_34 := hide (T_33.out.below hb34)
      clear T_33
      have B_34 := hide (B_33.out.below hb34)
      clear B_33
      have D1_34 := hide (D1_33.out.below hb34)
      clear D1_33
      have D2_34 := hide (D2_33.out.below hb34)
      clear D2_33
      have D_34 := hide (D_33.out.below hb34)
      clear D_33
      have E_34 := hide (E_33.out.below hb34)
      clear E_33
      clear hb34 B33
      rw [HTX.out]
      clear kT_0 kT_1 kT_2 kT_3 kT_4
      obtain ⟨-, kT_0, kT_1, kT_2, kT_3, kT_4⟩ := T_34.out
      obtain ⟨-, kB_0, kB_1, kB_2, kB_3, kB_4⟩ := B_34.out
      obtain ⟨-, kD1_0, kD1_1, kD1_2, kD1_3, kD1_4⟩ := D1_34.out
      obtain ⟨-, kD2_0, kD2_1, kD2_2, kD2_3, kD2_4⟩ := D2_34.out
      clear T_34 B_34 D1_34 D2_34
      have hsn := str_ne TX
      have hsq := str_eq t0
      have hsq2 := str_eq q0
      have hsn1 := str_ne t0
      have hsn2 := str_ne q0
      rcases read_text HTX.out HRB.out with ⟨hne2, rfl, rfl, rfl, rfl, rfl, rfl⟩ | ⟨hne2, rfl⟩
      · clear HTX HRB
        go_wp2_with fail
        refine (quiet_below (impl_sameClay _ _ _ _ _ _ zd ze _ (by omega) (by omega) Hnd.out Hne.out D_34.out E_34.out)).mono ?_
        rintro e u35 ⟨rfl, hb35⟩
        have B35 := hide (B34.out.trans (hb35.mono B34.out.size))
        have P_35 := hide (P_34.out.below hb35)
        clear P_34
        have D_35 := hide (D_34.out.below hb35)
        clear D_34
        have E_35 := hide (E_34.out.below hb35)
        clear E_34
        clear hb35 B34
        rw [HSV.out]
        clear hsn hsq hsq2 hsn1 hsn2 hne2 kT_0 kT_1 kT_2 kT_3 kT_4 kB_0 kB_1 kB_2 kB_3 kB_4 kD1_0 kD1_1 kD1_2 kD1_3 kD1_4 kD2_0 kD2_1 kD2_2 kD2_3 kD2_4
        go_wp2_with fail
        refine (quiet_below (spec_sameClay _ _ _ _ _ _ zd ze _ (by omega) (by omega) Hnd.out Hne.out D_35.out E_35.out)).mono ?_
        rintro e u36 ⟨rfl, hb36⟩
        have B36 := hide (B35.out.trans (hb36.mono B35.out.size))
        have P_36 := hide (P_35.out.below hb36)
        clear P_35
        have D_36 := hide (D_35.out.below hb36)
        clear D_35
        have E_36 := hide (E_35.out.below hb36)
        clear E_35
        clear hb36 B35
        rw [HSV.out]
        go_wp2_with fail
        refine (impl_validClays _ _ _ zs _ (by omega) (own_cap P_36.out) Hnz.out (P_36.out.row (fun _ => rfl)) NM.out).mono ?_
        rintro e u37 ⟨rfl, hb37⟩
        have B37 := hide (B36.out.trans (hb37.mono B36.out.size))
        have P_37 := hide (P_36.out.below hb37)
        clear P_36
        have D_37 := hide (D_36.out.below hb37)
        clear D_36
        have E_37 := hide (E_36.out.below hb37)
        clear E_36
        clear hb37 B36
        rw [HMV.out]
        go_wp2_with fail
        refine (spec_validClays _ _ _ zs _ (by omega) Hnz.out (P_37.out.row (fun _ => rfl)) NM.out).mono ?_
        rintro e u38 ⟨rfl, hb38⟩
        have B38 := hide (B37.out.trans (hb38.mono B37.out.size))
        have P_38 := hide (P_37.out.below hb38)
        clear P_37
        have D_38 := hide (D_37.out.below hb38)
        clear D_37
        have E_38 := hide (E_37.out.below hb38)
        clear E_37
        clear hb38 B37
        rw [HMV.out]
        go_wp2
        go_meet
        exact ⟨rfl, B38⟩
      · clear HTX HRB
        go_wp2_with fail
        refine (quiet_below (impl_sameClay _ _ _ _ _ _ zd ze _ (by omega) (by omega) Hnd.out Hne.out D_34.out E_34.out)).mono ?_
        rintro e u35 ⟨rfl, hb35⟩
        have B35 := hide (B34.out.trans (hb35.mono B34.out.size))
        have P_35 := hide (P_34.out.below hb35)
        clear P_34
        have D_35 := hide (D_34.out.below hb35)
        clear D_34
        have E_35 := hide (E_34.out.below hb35)
        clear E_34
        clear hb35 B34
        rw [HSV.out]
        clear hsn hsq hsq2 hsn1 hsn2 hne2 kT_0 kT_1 kT_2 kT_3 kT_4 kB_0 kB_1 kB_2 kB_3 kB_4 kD1_0 kD1_1 kD1_2 kD1_3 kD1_4 kD2_0 kD2_1 kD2_2 kD2_3 kD2_4
        go_wp2_with fail
        refine (quiet_below (spec_sameClay _ _ _ _ _ _ zd ze _ (by omega) (by omega) Hnd.out Hne.out D_35.out E_35.out)).mono ?_
        rintro e u36 ⟨rfl, hb36⟩
        have B36 := hide (B35.out.trans (hb36.mono B35.out.size))
        have P_36 := hide (P_35.out.below hb36)
        clear P_35
        have D_36 := hide (D_35.out.below hb36)
        clear D_35
        have E_36 := hide (E_35.out.below hb36)
        clear E_35
        clear hb36 B35
        rw [HSV.out]
        go_wp2_with fail
        refine (impl_validClays _ _ _ zs _ (by omega) (own_cap P_36.out) Hnz.out (P_36.out.row (fun _ => rfl)) NM.out).mono ?_
        rintro e u37 ⟨rfl, hb37⟩
        have B37 := hide (B36.out.trans (hb37.mono B36.out.size))
        have P_37 := hide (P_36.out.below hb37)
        clear P_36
        have D_37 := hide (D_36.out.below hb37)
        clear D_36
        have E_37 := hide (E_36.out.below hb37)
        clear E_36
        clear hb37 B36
        rw [HMV.out]
        go_wp2_with fail
        refine (spec_validClays _ _ _ zs _ (by omega) Hnz.out (P_37.out.row (fun _ => rfl)) NM.out).mono ?_
        rintro e u38 ⟨rfl, hb38⟩
        have B38 := hide (B37.out.trans (hb38.mono B37.out.size))
        have P_38 := hide (P_37.out.below hb38)
        clear P_37
        have D_38 := hide (D_37.out.below hb38)
        clear D_37
        have E_38 := hide (E_37.out.below hb38)
        clear E_37
        clear hb38 B37
        rw [HMV.out]
        go_wp2
        go_meet
        exact ⟨rfl, B38⟩
  case rest =>
    as_aux_lemma =>
      obtain ⟨rfl, hcut⟩ := hcut
      clear hmt hld hle Hnd Hne HSV HMV hka HX1 HY1 HX3 HY3 kFi0_0 kFi0_1 kFs0_0 kFs0_1 kFi1_0 kFi1_1 kFs1_0 kFs1_1 kFi3_0 kFi3_1 kFs3_0 kFs3_1
      clear Fs0_31 Fi1_31 Fs1_31 Fi3_31 Fs3_31 U_31 M_31 N_31 T_31 B_31 D1_31 D2_31 D_0 E_0
      have hcu := hcut.out
      clear hcut
      obtain ⟨wd2, hwd2⟩ : ∃ u, wc = u := ⟨_, rfl⟩
      rw [hwd2] at hcu ⊢
      clear hwd2
      have P_c := hide (P_31.out.below hcu)
      clear P_31
      have R_c := hide (R_31.out.below hcu)
      clear R_31
      have Fi0_c := hide (Fi0_31.out.below hcu)
      clear Fi0_31
      have V_c := hide (V_31.out.below hcu)
      clear V_31
      have B_c := hide (B31.out.trans (hcu.mono B31.out.size))
      clear hcu B31
      by_cases hcc : cc = 0
      case neg =>
        have d1 : (cc == 0) = false := by simpa using hcc
        clear hcc
        go_wp2
        go_ret
        exact ⟨rfl, B_c.out⟩
      subst hcc
      obtain ⟨h1, h2, ⟨h3, h4⟩, h5, h6, h7⟩ := clays_law Hcc.out
      obtain ⟨q1, q2, q3, q4⟩ := scode_ok Hcc.out
      have hlo := low_in q1 (ps := ps) nz
      have hhi := high_in q1 (ps := ps) nz
      rw [Hnz.out] at h1 h2 q2
      rw [Hnp.out] at q2
      rw [HX0.out] at h1 h2 h6
      rw [HY0.out] at h1 h2 h3 h4 h7
      rw [HK.out] at h5 h6 h7
      have HSC := hide h5
      have HX9 := hide h6
      have HY9 := hide h7
      clear h5 h6 h7 q3 q4 q1 Hcc HX0 HY0 HK
      obtain ⟨lo9, hlo9⟩ : ∃ r, lowK zs ps nz = r := ⟨_, rfl⟩
      obtain ⟨hi9, hhi9⟩ : ∃ r, highK zs ps nz = r := ⟨_, rfl⟩
      rw [hlo9] at h1 hlo
      rw [hhi9] at h2 hhi
      have HLO9 := hide hlo9
      have HHI9 := hide hhi9
      have HA := hide (And.intro h1 (And.intro h2 (And.intro h3 (And.intro h4 (And.intro hlo hhi)))))
      have HNP := hide q2
      clear h1 h2 h3 h4 hlo hhi hlo9 hhi9 q2
      go_wp2
      go_loopw [38, 39, 40] (fun lv hv iv wr => ∃ (k : Nat) (lo hi : Int), k ≤ nz ∧ iv = .int .i64 (k : Int) ∧ lv = .int .i64 lo ∧ hv = .int .i64 hi ∧ Hid (lowK zs ps k = lo) ∧ Hid (highK zs ps k = hi) ∧ Hid (Below wd2.heap.size wd2 wr)) (fun _ _ iv _ => nz - (intOf iv).toNat)
      case atStart => exact ⟨0, 201, -1, by omega, rfl, rfl, rfl, hide rfl, hide rfl, hide (Below.refl _ _)⟩
      case round =>
        obtain ⟨k, lo, hi, hk, rfl, rfl, rfl, HLO, HHI, HW⟩ := hrel
        by_cases hlt : k < nz
        · have hkn : (k : Int) < (nz : Int) := by omega
          obtain ⟨p, hp⟩ : ∃ y, ps[k]? = some y := ⟨ps[k]'(by have := Hnp.out; have := HNP.out; omega), List.getElem?_eq_getElem (by have := Hnp.out; have := HNP.out; omega)⟩
          obtain ⟨⟨x0', x1', x2', x3', x4'⟩, hx⟩ : ∃ y, zs[k]? = some y := ⟨zs[k]'(by have := Hnz.out; omega), List.getElem?_eq_getElem (by have := Hnz.out; omega)⟩
          have hgp : ps.getD k 0 = p := by rw [List.getD_eq_getElem?_getD, hp]; rfl
          have hvx : valAt (valOf 0) zs k = x1' := valAt_is hx
          obtain ⟨bv, ov, hve, hbv, a0⟩ := row_at_1 (R_c.out.below HW.out) hp rfl
          obtain ⟨bx, ox, hxe, hbx, c0, c1, c2, c3, c4⟩ := row_at_5 ((show Row Clay.enc 5 wd2 (some ⟨g, 0, none⟩) zs from P_c.out.row (fun _ => rfl)).below HW.out) hx rfl
          obtain ⟨rfl, rfl⟩ : g2 = bv ∧ 0 = ov := by injection hve with h1; injection h1 with h1 h2; exact ⟨h1, h2⟩
          obtain ⟨rfl, rfl⟩ : g = bx ∧ 0 = ox := by injection hxe with h1; injection h1 with h1 h2; exact ⟨h1, h2⟩
          rw [Nat.zero_add] at a0 c1
          have hnk : k < np := by have := HNP.out; omega
          have hnk2 : (k : Int) < (np : Int) := by omega
          clear hve hxe hp hx c0 c2 c3 c4
          by_cases hpp : 0 < p
          · have HL2 := hide (show lowK zs ps (k + 1) = min lo x1' from by show (if 0 < ps.getD k 0 then min (lowK zs ps k) (valAt (valOf 0) zs k) else lowK zs ps k) = _; rw [hgp, hvx, HLO.out, if_pos hpp])
            have HH2 := hide (show highK zs ps (k + 1) = max hi x1' from by show (if 0 < ps.getD k 0 then max (highK zs ps k) (valAt (valOf 0) zs k) else highK zs ps k) = _; rw [hgp, hvx, HHI.out, if_pos hpp])
            clear hgp hvx HLO HHI
            go_wp2
            go_roundw
            case rel => exact ⟨k + 1, _, _, by omega, by go_num, rfl, rfl, HL2, HH2, HW⟩
            case measure => simp [intOf]; omega
          · have HL2 := hide (show lowK zs ps (k + 1) = lo from by show (if 0 < ps.getD k 0 then min (lowK zs ps k) (valAt (valOf 0) zs k) else lowK zs ps k) = _; rw [hgp, HLO.out, if_neg hpp])
            have HH2 := hide (show highK zs ps (k + 1) = hi from by show (if 0 < ps.getD k 0 then max (highK zs ps k) (valAt (valOf 0) zs k) else highK zs ps k) = _; rw [hgp, HHI.out, if_neg hpp])
            clear hgp hvx HLO HHI
            go_wp2
            go_roundw
            case rel => exact ⟨k + 1, _, _, by omega, by go_num, rfl, rfl, HL2, HH2, HW⟩
            case measure => simp [intOf]; omega
        · obtain rfl : k = nz := by omega
          obtain rfl : lo = lo9 := HLO.out.symm.trans HLO9.out
          obtain rfl : hi = hi9 := HHI.out.symm.trans HHI9.out
          clear hlt HLO HHI HLO9 HHI9
          go_wp2_with fail
          refine (impl_ShrinkOf _ _ _ _ _ _ zs K X0 Y0 0 _ HX9.out HY9.out HSC.out (by omega) (own_cap P_c.out) (by omega) Hnz.out rfl ((show Row Clay.enc 5 wd2 (some ⟨g, 0, none⟩) zs from P_c.out.row (fun _ => rfl)).below HW.out) ((show Row encI 1 wd2 A2 K from V_c.out.row (fun _ => rfl)).below HW.out) NM.out).mono ?_
          rintro e y1 ⟨rfl, hb⟩
          have HB9 := hide (B_c.out.trans ((HW.out.trans (hb.mono HW.out.size)).mono B_c.out.size))
          have HE := hide ((Fi0_c.out.below HW.out).below hb)
          obtain ⟨y2, hy2⟩ : ∃ u, y1.alloc (.cells #[.int .i64 X0, .int .i64 Y0] 29) = u := ⟨_, rfl⟩
          have hb2 : Below y1.heap.size y1 y2 := by rw [← hy2]; exact (Below.refl _ _).alloc (Nat.le_refl _) _
          have HB10 := hide (HB9.out.trans (hb2.mono HB9.out.size))
          obtain ⟨-, k0, k1⟩ := HE.out.below hb2
          have HE2 := hide (show Kept2 y1.heap.size (.int .i64 X0) (.int .i64 Y0) y2 from by rw [← hy2]; exact Kept2.new ..)
          obtain ⟨-, k2, k3⟩ := HE2.out
          clear hb hb2 HE HE2 HB9 HW
          obtain ⟨h1, h2, h3, h4, ⟨h5, h6⟩, h7, h8⟩ := HA.out
          have b1 := mul_bd lo Y0 201 7000 h5 h6 h3 h4 (by omega)
          have b2 := mul_bd (hi + 1) Y0 10001 7000 (by omega) (by omega) h3 h4 (by omega)
          rw [Int.add_mul, Int.one_mul] at b2
          have v1 := Go.IntWalk.i64_in (lo * Y0) ⟨by omega, by omega⟩
          have d1 : ¬ (X0 < lo * Y0) := by omega
          have d3 : lo * Y0 ≤ X0 := h1
          have d2 : ¬ (hi * Y0 < X0) := by omega
          have d4 : X0 ≤ hi * Y0 := h2
          have v2 := Go.IntWalk.i64_in (hi * Y0) ⟨by omega, by omega⟩
          rw [← hy2] at k0 k1 k2 k3
          have HY2 := hide hy2
          clear hy2 h1 h2 h3 h4 h5 h6 h7 h8 b1 b2
          go_wp2

          go_ret
          exact ⟨rfl, by rw [HY2.out]; exact HB10.out⟩
end Go.Proofs.YtfjdhjbfingofaaGreatDoor
