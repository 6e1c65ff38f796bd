/-
  What is proved: the law FnExactPerpendsOf returns true and changes nothing that was there, for every input. No conditions beyond the arguments' own ranges.
-/
import Derived.Test.YtlokmkiicmpccaaPerps
import Derived.Deep.RegionHeld3
namespace Go.Proofs.Ytlokmkiicmpccaa
open Go.RowKit
set_option linter.unusedVariables false

set_option maxRecDepth 100000 in
set_option maxHeartbeats 4000000 in
theorem fnExactPerpendsOfWalk (s0 : ByteArray) (a0 : Option Addr) (n0 c0 : Nat) (z0 : List Course) (a1 a2 : Int) (w : World) (ws0 : s0.size ≤ maxLen) (w0 : ArgRow Course.enc Course.Wf 2 w a0 n0 c0 z0) (w1 : (Lit.int .i64 a1).wf = true) (w2 : (Lit.int .i64 a2).wf = true) :
    Calls Try.prog 7 #[.agg #[.string s0, .slice a0 n0 c0], .int .i64 a1, .int .i64 a2] w fun e w' => e = .returned (.bool true) ∧ Below w.heap.size w w' := by
  have TX := texts_of w0
  have W0 := hide w0
  clear w0
  go_enter Try.func7, Try.ntmps7
  have B0 := hide (Below.refl w.heap.size w)
  obtain ⟨u1, hu1⟩ : ∃ u, w.alloc (.cells #[.string s0, .slice a0 n0 c0] 24) = u := ⟨_, rfl⟩
  have hb1 : Below w.heap.size w u1 := by rw [← hu1]; exact (Below.refl _ _).alloc (Nat.le_refl _) _
  have e1 : w.heap.size < u1.heap.size := by rw [← hu1]; simp
  have B1 := hide (B0.out.trans (hb1.mono B0.out.size))
  have f1_0 : u1.cell? ⟨w.heap.size, 0, none⟩ = some (.string s0) := by rw [← hu1]; simp [go_sem]
  have f1_1 : u1.cell? ⟨w.heap.size, 1, none⟩ = some (.slice a0 n0 c0) := by rw [← hu1]; simp [go_sem]
  have f1_0o := f1_0
  rw [← hu1] at f1_0o
  have f1_1o := f1_1
  rw [← hu1] at f1_1o
  clear hb1 B0
  have HU1 := hide hu1
  clear hu1
  go_wp2_with fail
  rw [HU1.out]

  refine (szBond_ok s0 _ _ _ z0 1048576 _ (by omega) (by omega) ws0 (W0.out.below B1.out)).mono ?_
  rintro e u2 ⟨⟨t0, rfl, ht0⟩, hb2⟩
  have e2 : u1.heap.size ≤ u2.heap.size := hb2.size
  clear f1_0o f1_1o
  have B2 := hide (B1.out.trans (hb2.mono B1.out.size))
  replace f1_0 := (hb2.cell (p := ⟨w.heap.size, 0, none⟩) (show w.heap.size < u1.heap.size from by omega)).trans f1_0
  replace f1_1 := (hb2.cell (p := ⟨w.heap.size, 1, none⟩) (show w.heap.size < u1.heap.size from by omega)).trans f1_1
  clear hb2 B1
  rcases ht0 with rfl | ⟨hp0, hq0⟩
  · go_wp2
    go_ret
    exact ⟨rfl, B2.out⟩
  have d0 : decide (t0 < 0) = false := by simp; omega
  have k0 : n0 ≤ 1048576 := by omega
  clear w1 w2
  have hlen := perpsL_len s0 z0 a1 a2
  obtain ⟨K, hK⟩ : ∃ K, perpsL s0 z0 a1 a2 = K := ⟨_, rfl⟩
  obtain ⟨cc, hC⟩ : ∃ cc, bcode s0 z0 [a1] a2 = cc := ⟨_, rfl⟩
  rw [hK] at hlen
  have HK := hide hK
  have HC := hide hC
  clear hK hC
  have d1 : decide ((1:Int) + 2 * (n0 : Int) < 0) = false := by simp; omega
  have d2 : decide ((1:Int) + (K.length : Int) < 0) = false := by simp; omega
  go_wp2_with fail
  refine (toBond_own s0 _ _ _ z0 _ k0 (W0.out.below B2.out)).mono ?_
  rintro e u3 ⟨A1, C1, rfl, ho, hb3⟩
  have e3 : u2.heap.size ≤ u3.heap.size := hb3.size
  have B3 := hide (B2.out.trans (hb3.mono B2.out.size))
  replace f1_0 := (hb3.cell (p := ⟨w.heap.size, 0, none⟩) (show w.heap.size < u2.heap.size from by omega)).trans f1_0
  replace f1_1 := (hb3.cell (p := ⟨w.heap.size, 1, none⟩) (show w.heap.size < u2.heap.size from by omega)).trans f1_1
  clear hb3 B2
  have P_3 := hide ho
  clear ho
  go_wp2_with fail
  refine (spec_perpendsOf' s0 _ _ _ z0 a1 a2 K cc _ HK.out HC.out ws0 (by omega) P_3.out.len (P_3.out.row (fun _ => rfl)) TX).mono ?_
  rintro e u4 ⟨A9, C9, rfl, ho, hb4⟩
  have e4 : u3.heap.size ≤ u4.heap.size := hb4.size
  have B4 := hide (B3.out.trans (hb4.mono B3.out.size))
  replace f1_0 := (hb4.cell (p := ⟨w.heap.size, 0, none⟩) (show w.heap.size < u3.heap.size from by omega)).trans f1_0
  replace f1_1 := (hb4.cell (p := ⟨w.heap.size, 1, none⟩) (show w.heap.size < u3.heap.size from by omega)).trans f1_1
  have P_4 := hide (P_3.out.below hb4)
  clear P_3
  clear hb4 B3
  have U_4 := hide ho
  clear ho
  go_wp2_with fail
  refine (toBond_own s0 _ _ _ z0 _ k0 (W0.out.below B4.out)).mono ?_
  rintro e u5 ⟨A2, C2, rfl, ho, hb5⟩
  have e5 : u4.heap.size ≤ u5.heap.size := hb5.size
  have B5 := hide (B4.out.trans (hb5.mono B4.out.size))
  replace f1_0 := (hb5.cell (p := ⟨w.heap.size, 0, none⟩) (show w.heap.size < u4.heap.size from by omega)).trans f1_0
  replace f1_1 := (hb5.cell (p := ⟨w.heap.size, 1, none⟩) (show w.heap.size < u4.heap.size from by omega)).trans f1_1
  have P_5 := hide (P_4.out.below hb5)
  clear P_4
  have U_5 := hide (U_4.out.below hb5)
  clear U_4
  clear hb5 B4
  have X_5 := hide ho
  clear ho
  obtain ⟨u6, hu6⟩ : ∃ u, u5.alloc (.cells #[.string s0, .slice A2 n0 C2] 29) = u := ⟨_, rfl⟩
  have hb6 : Below u5.heap.size u5 u6 := by rw [← hu6]; exact (Below.refl _ _).alloc (Nat.le_refl _) _
  have e6 : u5.heap.size < u6.heap.size := by rw [← hu6]; simp
  have B6 := hide (B5.out.trans (hb6.mono B5.out.size))
  replace f1_0 := (hb6.cell (p := ⟨w.heap.size, 0, none⟩) (show w.heap.size < u5.heap.size from by omega)).trans f1_0
  replace f1_1 := (hb6.cell (p := ⟨w.heap.size, 1, none⟩) (show w.heap.size < u5.heap.size from by omega)).trans f1_1
  have f6_0 : u6.cell? ⟨u5.heap.size, 0, none⟩ = some (.string s0) := by rw [← hu6]; simp [go_sem]
  have f6_1 : u6.cell? ⟨u5.heap.size, 1, none⟩ = some (.slice A2 n0 C2) := by rw [← hu6]; simp [go_sem]
  have f1_0o := f1_0
  rw [← hu6] at f1_0o
  have f1_1o := f1_1
  rw [← hu6] at f1_1o
  have f6_0o := f6_0
  rw [← hu6] at f6_0o
  have f6_1o := f6_1
  rw [← hu6] at f6_1o
  have P_6 := hide (P_5.out.below hb6)
  clear P_5
  have U_6 := hide (U_5.out.below hb6)
  clear U_5
  have X_6 := hide (X_5.out.below hb6)
  clear X_5
  clear hb6 B5
  have HU6 := hide hu6
  clear hu6
  go_wp2_with fail
  rw [HU6.out]

  refine (impl_perpendsOf' s0 _ _ _ z0 a1 a2 K cc _ HK.out HC.out ws0 (by omega) X_6.out.len (X_6.out.row (fun _ => rfl)) TX).mono ?_
  rintro e u7 ⟨AG, CG, rfl, ho, hb7⟩
  have e7 : u6.heap.size ≤ u7.heap.size := hb7.size
  clear f1_0o f1_1o f6_0o f6_1o
  have B7 := hide (B6.out.trans (hb7.mono B6.out.size))
  replace f1_0 := (hb7.cell (p := ⟨w.heap.size, 0, none⟩) (show w.heap.size < u6.heap.size from by omega)).trans f1_0
  replace f1_1 := (hb7.cell (p := ⟨w.heap.size, 1, none⟩) (show w.heap.size < u6.heap.size from by omega)).trans f1_1
  replace f6_0 := (hb7.cell (p := ⟨u5.heap.size, 0, none⟩) (show u5.heap.size < u6.heap.size from by omega)).trans f6_0
  replace f6_1 := (hb7.cell (p := ⟨u5.heap.size, 1, none⟩) (show u5.heap.size < u6.heap.size from by omega)).trans f6_1
  have P_7 := hide (P_6.out.below hb7)
  clear P_6
  have U_7 := hide (U_6.out.below hb7)
  clear U_6
  have X_7 := hide (X_6.out.below hb7)
  clear X_6
  clear hb7 B6
  have G_7 := hide ho
  clear ho
  go_wp2_with fail
  refine (quiet_below (eqInt64S_same _ _ _ _ _ K _ (by omega) G_7.out.len (G_7.out.row (fun _ => rfl)) (U_7.out.row (fun _ => rfl)))).mono ?_
  rintro e u8 ⟨rfl, hb8⟩
  have e8 : u7.heap.size ≤ u8.heap.size := hb8.size
  have B8 := hide (B7.out.trans (hb8.mono B7.out.size))
  replace f1_0 := (hb8.cell (p := ⟨w.heap.size, 0, none⟩) (show w.heap.size < u7.heap.size from by omega)).trans f1_0
  replace f1_1 := (hb8.cell (p := ⟨w.heap.size, 1, none⟩) (show w.heap.size < u7.heap.size from by omega)).trans f1_1
  replace f6_0 := (hb8.cell (p := ⟨u5.heap.size, 0, none⟩) (show u5.heap.size < u7.heap.size from by omega)).trans f6_0
  replace f6_1 := (hb8.cell (p := ⟨u5.heap.size, 1, none⟩) (show u5.heap.size < u7.heap.size from by omega)).trans f6_1
  have P_8 := hide (P_7.out.below hb8)
  clear P_7
  have U_8 := hide (U_7.out.below hb8)
  clear U_7
  have X_8 := hide (X_7.out.below hb8)
  clear X_7
  have G_8 := hide (G_7.out.below hb8)
  clear G_7
  clear hb8 B7
  go_wp2
  go_region_held3 (fun w' => w'.cell? ⟨w.heap.size, 0, none⟩ = some (.string s0) ∧ w'.cell? ⟨w.heap.size, 1, none⟩ = some (.slice a0 n0 c0) ∧ w'.cell? ⟨u5.heap.size, 0, none⟩ = some (.string s0) ∧ w'.cell? ⟨u5.heap.size, 1, none⟩ = some (.slice A2 n0 C2))
    (first
      | go_keep
      | exact ⟨f1_0, f1_1, f6_0, f6_1⟩)
    (first
      | (go_at_call 13
         refine (toBond_own s0 _ _ _ z0 _ k0 (W0.out.below (by first | exact B8.out.drew | exact B8.out))).mono ?_
         rintro e y31 ⟨AZ31, CZ31, rfl, ho, hb⟩
         have hzy31 : u8.heap.size ≤ y31.heap.size := hb.size
         replace f1_0 := (hb.cell (p := ⟨w.heap.size, 0, none⟩) (show w.heap.size < _ from by first | omega | (simp; omega))).trans f1_0
         replace f1_1 := (hb.cell (p := ⟨w.heap.size, 1, none⟩) (show w.heap.size < _ from by first | omega | (simp; omega))).trans f1_1
         replace f6_0 := (hb.cell (p := ⟨u5.heap.size, 0, none⟩) (show u5.heap.size < _ from by first | omega | (simp; omega))).trans f6_0
         replace f6_1 := (hb.cell (p := ⟨u5.heap.size, 1, none⟩) (show u5.heap.size < _ from by first | omega | (simp; omega))).trans f6_1
         have hbb := (show Below u8.heap.size u8 y31 from (Below.refl _ _).drew.trans hb)
         have P_31 := hide (P_8.out.below hbb)
         clear P_8
         have U_31 := hide (U_8.out.below hbb)
         clear U_8
         have X_31 := hide (X_8.out.below hbb)
         clear X_8
         have G_31 := hide (G_8.out.below hbb)
         clear G_8
         have By31 := hide (B8.out.trans (hbb.mono B8.out.size))
         have Z31 := hide ho
         clear hb ho hbb)
      | (go_at_call 15
         refine (eqBond_same s0 _ _ _ _ _ z0 _ (by omega) X_31.out.len (X_31.out.row (fun _ => rfl)) (Z31.out.row (fun _ => rfl))).mono ?_
         rintro e y32 ⟨rfl, hb⟩
         have hzy32 : y31.heap.size ≤ y32.heap.size := hb.size
         replace f1_0 := (hb.cell (p := ⟨w.heap.size, 0, none⟩) (show w.heap.size < _ from by first | omega | (simp; omega))).trans f1_0
         replace f1_1 := (hb.cell (p := ⟨w.heap.size, 1, none⟩) (show w.heap.size < _ from by first | omega | (simp; omega))).trans f1_1
         replace f6_0 := (hb.cell (p := ⟨u5.heap.size, 0, none⟩) (show u5.heap.size < _ from by first | omega | (simp; omega))).trans f6_0
         replace f6_1 := (hb.cell (p := ⟨u5.heap.size, 1, none⟩) (show u5.heap.size < _ from by first | omega | (simp; omega))).trans f6_1
         have P_32 := hide (P_31.out.below hb)
         clear P_31
         have U_32 := hide (U_31.out.below hb)
         clear U_31
         have X_32 := hide (X_31.out.below hb)
         clear X_31
         have G_32 := hide (G_31.out.below hb)
         clear G_31
         have By32 := hide (By31.out.trans (hb.mono By31.out.size))
         clear hb Z31))
  go_wp2_with fail
  refine (markBond_own s0 _ _ _ _ _ 1 z0 _ (by omega) (by omega) (by omega) X_32.out).mono ?_
  rintro e u33 ⟨rfl, ho, hb33⟩
  have e33 : y32.heap.size ≤ u33.heap.size := hb33.size
  have B33 := hide (By32.out.trans (hb33.below (by have := By32.out.size; omega) By32.out.size))
  replace f1_0 := (touch_cell2 (b := w.heap.size) hb33 (by omega) (show w.heap.size < _ from by omega)).trans f1_0
  replace f1_1 := (touch_cell2 (b := w.heap.size) hb33 (by omega) (show w.heap.size < _ from by omega)).trans f1_1
  replace f6_0 := (touch_cell2 (b := u5.heap.size) hb33 (by omega) (show u5.heap.size < _ from by omega)).trans f6_0
  replace f6_1 := (touch_cell2 (b := u5.heap.size) hb33 (by omega) (show u5.heap.size < _ from by omega)).trans f6_1
  have P_33 := hide (P_32.out.touch hb33 (by omega))
  clear P_32
  have U_33 := hide (U_32.out.touch hb33 (by omega))
  clear U_32
  have G_33 := hide (G_32.out.touch hb33 (by omega))
  clear G_32
  clear hb33 By32 X_32
  have X_33 := hide ho
  clear ho
  go_wp2_with fail
  refine (quiet_below (eqInt64S_same _ _ _ _ _ K _ (by omega) G_33.out.len (G_33.out.row (fun _ => rfl)) (U_33.out.row (fun _ => rfl)))).mono ?_
  rintro e u34 ⟨rfl, hb34⟩
  have e34 : u33.heap.size ≤ u34.heap.size := hb34.size
  have B34 := hide (B33.out.trans (hb34.mono B33.out.size))
  replace f1_0 := (hb34.cell (p := ⟨w.heap.size, 0, none⟩) (show w.heap.size < u33.heap.size from by omega)).trans f1_0
  replace f1_1 := (hb34.cell (p := ⟨w.heap.size, 1, none⟩) (show w.heap.size < u33.heap.size from by omega)).trans f1_1
  replace f6_0 := (hb34.cell (p := ⟨u5.heap.size, 0, none⟩) (show u5.heap.size < u33.heap.size from by omega)).trans f6_0
  replace f6_1 := (hb34.cell (p := ⟨u5.heap.size, 1, none⟩) (show u5.heap.size < u33.heap.size from by omega)).trans f6_1
  have P_34 := hide (P_33.out.below hb34)
  clear P_33
  have U_34 := hide (U_33.out.below hb34)
  clear U_33
  have X_34 := hide (X_33.out.below hb34)
  clear X_33
  have G_34 := hide (G_33.out.below hb34)
  clear G_33
  clear hb34 B33
  go_wp2_with fail
  refine (markInt64S_own _ _ _ _ _ 1 K _ (by omega) (by omega) (by omega) G_34.out).mono ?_
  rintro e u35 ⟨rfl, ho, hb35⟩
  have e35 : u34.heap.size ≤ u35.heap.size := hb35.size
  have B35 := hide (B34.out.trans (hb35.below (by have := B34.out.size; omega) B34.out.size))
  replace f1_0 := (touch_cell2 (b := w.heap.size) hb35 (by omega) (show w.heap.size < _ from by omega)).trans f1_0
  replace f1_1 := (touch_cell2 (b := w.heap.size) hb35 (by omega) (show w.heap.size < _ from by omega)).trans f1_1
  replace f6_0 := (touch_cell2 (b := u5.heap.size) hb35 (by omega) (show u5.heap.size < _ from by omega)).trans f6_0
  replace f6_1 := (touch_cell2 (b := u5.heap.size) hb35 (by omega) (show u5.heap.size < _ from by omega)).trans f6_1
  have P_35 := hide (P_34.out.touch hb35 (by omega))
  clear P_34
  have U_35 := hide (U_34.out.touch hb35 (by omega))
  clear U_34
  have X_35 := hide (X_34.out.touch hb35 (by omega))
  clear X_34
  clear hb35 B34 G_34
  have G_35 := hide ho
  clear ho
  go_wp2_with fail
  refine (heldInt64S_ok _ _ _ 1 _ (by omega) (by omega) (by omega) (G_35.out.row (fun _ => rfl))).mono ?_
  rintro e u36 ⟨rfl, rfl⟩
  go_wp2_with fail
  refine (toBond_own s0 _ _ _ z0 _ k0 (W0.out.below B35.out)).mono ?_
  rintro e u37 ⟨A3, C3, rfl, ho, hb37⟩
  have e37 : u35.heap.size ≤ u37.heap.size := hb37.size
  have B37 := hide (B35.out.trans (hb37.mono B35.out.size))
  replace f1_0 := (hb37.cell (p := ⟨w.heap.size, 0, none⟩) (show w.heap.size < u35.heap.size from by omega)).trans f1_0
  replace f1_1 := (hb37.cell (p := ⟨w.heap.size, 1, none⟩) (show w.heap.size < u35.heap.size from by omega)).trans f1_1
  replace f6_0 := (hb37.cell (p := ⟨u5.heap.size, 0, none⟩) (show u5.heap.size < u35.heap.size from by omega)).trans f6_0
  replace f6_1 := (hb37.cell (p := ⟨u5.heap.size, 1, none⟩) (show u5.heap.size < u35.heap.size from by omega)).trans f6_1
  have P_37 := hide (P_35.out.below hb37)
  clear P_35
  have U_37 := hide (U_35.out.below hb37)
  clear U_35
  have X_37 := hide (X_35.out.below hb37)
  clear X_35
  have G_37 := hide (G_35.out.below hb37)
  clear G_35
  clear hb37 B35
  have Y_37 := hide ho
  clear ho
  go_wp2_with fail
  refine (impl_perpendsOf' s0 _ _ _ z0 a1 a2 K cc _ HK.out HC.out ws0 (by omega) Y_37.out.len (Y_37.out.row (fun _ => rfl)) TX).mono ?_
  rintro e u38 ⟨AH, CH, rfl, ho, hb38⟩
  have e38 : u37.heap.size ≤ u38.heap.size := hb38.size
  have B38 := hide (B37.out.trans (hb38.mono B37.out.size))
  replace f1_0 := (hb38.cell (p := ⟨w.heap.size, 0, none⟩) (show w.heap.size < u37.heap.size from by omega)).trans f1_0
  replace f1_1 := (hb38.cell (p := ⟨w.heap.size, 1, none⟩) (show w.heap.size < u37.heap.size from by omega)).trans f1_1
  replace f6_0 := (hb38.cell (p := ⟨u5.heap.size, 0, none⟩) (show u5.heap.size < u37.heap.size from by omega)).trans f6_0
  replace f6_1 := (hb38.cell (p := ⟨u5.heap.size, 1, none⟩) (show u5.heap.size < u37.heap.size from by omega)).trans f6_1
  have P_38 := hide (P_37.out.below hb38)
  clear P_37
  have U_38 := hide (U_37.out.below hb38)
  clear U_37
  have X_38 := hide (X_37.out.below hb38)
  clear X_37
  have G_38 := hide (G_37.out.below hb38)
  clear G_37
  have Y_38 := hide (Y_37.out.below hb38)
  clear Y_37
  clear hb38 B37
  have H_38 := hide ho
  clear ho
  go_wp2_with fail
  refine (quiet_below (eqInt64S_same _ _ _ _ _ K _ (by omega) H_38.out.len (H_38.out.row (fun _ => rfl)) (U_38.out.row (fun _ => rfl)))).mono ?_
  rintro e u39 ⟨rfl, hb39⟩
  have e39 : u38.heap.size ≤ u39.heap.size := hb39.size
  have B39 := hide (B38.out.trans (hb39.mono B38.out.size))
  replace f1_0 := (hb39.cell (p := ⟨w.heap.size, 0, none⟩) (show w.heap.size < u38.heap.size from by omega)).trans f1_0
  replace f1_1 := (hb39.cell (p := ⟨w.heap.size, 1, none⟩) (show w.heap.size < u38.heap.size from by omega)).trans f1_1
  replace f6_0 := (hb39.cell (p := ⟨u5.heap.size, 0, none⟩) (show u5.heap.size < u38.heap.size from by omega)).trans f6_0
  replace f6_1 := (hb39.cell (p := ⟨u5.heap.size, 1, none⟩) (show u5.heap.size < u38.heap.size from by omega)).trans f6_1
  have P_39 := hide (P_38.out.below hb39)
  clear P_38
  have U_39 := hide (U_38.out.below hb39)
  clear U_38
  have X_39 := hide (X_38.out.below hb39)
  clear X_38
  have G_39 := hide (G_38.out.below hb39)
  clear G_38
  have Y_39 := hide (Y_38.out.below hb39)
  clear Y_38
  have H_39 := hide (H_38.out.below hb39)
  clear H_38
  clear hb39 B38
  go_wp2_with fail
  refine (heldInt64S_ok _ _ _ 1 _ (by omega) (by omega) (by omega) (G_39.out.row (fun _ => rfl))).mono ?_
  rintro e u40 ⟨rfl, rfl⟩
  go_wp2
  go_ret
  exact ⟨rfl, B39.out⟩
end Go.Proofs.Ytlokmkiicmpccaa
