/-
  What is proved: the law FnExactAddClay returns true and changes nothing that was there, for every input. No conditions beyond the arguments' own ranges.
-/
import Derived.Test.YtbpddpdpgkkapaaAdd2
import Derived.Test.YtbpddpdpgkkapaaClayM
import Derived.Test.YtbpddpdpgkkapaaAgg5
import Derived.Deep.RegionWith
namespace Go.Proofs.Ytbpddpdpgkkapaa
open Go.RowKit
set_option linter.unusedVariables false

set_option maxRecDepth 100000 in
set_option maxHeartbeats 4000000 in
theorem fnExactAddClayWalk (a0 : Option Addr) (n0 c0 : Nat) (z0 : List Clay) (a1p : ByteArray) (a1q a1r a1s a1x : Int) (w : World) (w0 : ArgRow Clay.enc Clay.Wf 5 w a0 n0 c0 z0) (w1p : a1p.size ≤ maxLen) (w1q : (Lit.int .i64 a1q).wf = true) (w1r : (Lit.int .i64 a1r).wf = true) (w1s : (Lit.int .i64 a1s).wf = true) (w1x : (Lit.int .i64 a1x).wf = true) :
    Calls Try.prog 6 #[.slice a0 n0 c0, .agg #[.string a1p, .int .i64 a1q, .int .i64 a1r, .int .i64 a1s, .int .i64 a1x]] w fun e w' => e = .returned (.bool true) ∧ Below w.heap.size w w' := by
  clear w1q w1r w1s w1x
  have NM := names_of w0
  have hlen := addL_len z0 ⟨a1p, a1q, a1r, a1s, a1x⟩
  rw [w0.1] at hlen
  obtain ⟨K, hK⟩ : ∃ K, addL z0 ⟨a1p, a1q, a1r, a1s, a1x⟩ = K := ⟨_, rfl⟩
  obtain ⟨cc, hC⟩ : ∃ cc, addC z0 ⟨a1p, a1q, a1r, a1s, a1x⟩ = cc := ⟨_, rfl⟩
  rw [hK] at hlen
  have HK := hide hK
  have HC := hide hC
  clear hK hC
  have W0 := hide w0
  clear w0
  go_enter Try.func6, Try.ntmps6
  have B0 := hide (Below.refl w.heap.size w)
  obtain ⟨u1, hu1⟩ : ∃ u, w.alloc (.cells #[.string a1p, .int .i64 a1q, .int .i64 a1r, .int .i64 a1s, .int .i64 a1x] 29) = u := ⟨_, rfl⟩
  have hb1 : Below w.heap.size w u1 := by rw [← hu1]; exact (Below.refl _ _).alloc (Nat.le_refl _) _
  have e1 : w.heap.size < u1.heap.size := by rw [← hu1]; simp
  have B1 := hide (B0.out.trans (hb1.mono B0.out.size))
  have f1_0 : u1.cell? ⟨w.heap.size, 0, none⟩ = some (.string a1p) := by rw [← hu1]; simp [go_sem]
  have f1_1 : u1.cell? ⟨w.heap.size, 1, none⟩ = some (.int .i64 a1q) := by rw [← hu1]; simp [go_sem]
  have f1_2 : u1.cell? ⟨w.heap.size, 2, none⟩ = some (.int .i64 a1r) := by rw [← hu1]; simp [go_sem]
  have f1_3 : u1.cell? ⟨w.heap.size, 3, none⟩ = some (.int .i64 a1s) := by rw [← hu1]; simp [go_sem]
  have f1_4 : u1.cell? ⟨w.heap.size, 4, none⟩ = some (.int .i64 a1x) := by rw [← hu1]; simp [go_sem]
  have f1_0o := f1_0
  rw [← hu1] at f1_0o
  have f1_1o := f1_1
  rw [← hu1] at f1_1o
  have f1_2o := f1_2
  rw [← hu1] at f1_2o
  have f1_3o := f1_3
  rw [← hu1] at f1_3o
  have f1_4o := f1_4
  rw [← hu1] at f1_4o
  clear hb1 B0
  have HU1 := hide hu1
  clear hu1
  go_wp2_with fail
  rw [HU1.out]

  refine (szClayS_ok _ _ _ z0 1048576 _ (by omega) (by omega) (W0.out.below B1.out)).mono ?_
  rintro e u2 ⟨⟨t0, rfl, ht0⟩, hb2⟩
  have e2 : u1.heap.size ≤ u2.heap.size := hb2.size
  clear f1_0o f1_1o f1_2o f1_3o f1_4o
  have B2 := hide (B1.out.trans (hb2.mono B1.out.size))
  replace f1_0 := (hb2.cell (p := ⟨w.heap.size, 0, none⟩) (show w.heap.size < u1.heap.size from by omega)).trans f1_0
  replace f1_1 := (hb2.cell (p := ⟨w.heap.size, 1, none⟩) (show w.heap.size < u1.heap.size from by omega)).trans f1_1
  replace f1_2 := (hb2.cell (p := ⟨w.heap.size, 2, none⟩) (show w.heap.size < u1.heap.size from by omega)).trans f1_2
  replace f1_3 := (hb2.cell (p := ⟨w.heap.size, 3, none⟩) (show w.heap.size < u1.heap.size from by omega)).trans f1_3
  replace f1_4 := (hb2.cell (p := ⟨w.heap.size, 4, none⟩) (show w.heap.size < u1.heap.size from by omega)).trans f1_4
  clear hb2 B1
  rcases ht0 with rfl | ⟨hp0, hq0⟩
  · go_wp2
    go_ret
    exact ⟨rfl, B2.out⟩
  have d0 : decide (t0 < 0) = false := by simp; omega
  have k0 : n0 ≤ 1048576 := by omega
  go_wp2_with fail
  refine (szClay_ok a1p a1q a1r a1s a1x t0 _ (by omega) (by omega) w1p).mono ?_
  rintro e u3 ⟨⟨t1, rfl, ht1⟩, hb3⟩
  have e3 : u2.heap.size ≤ u3.heap.size := hb3.size
  have B3 := hide (B2.out.trans (hb3.mono B2.out.size))
  replace f1_0 := (hb3.cell (p := ⟨w.heap.size, 0, none⟩) (show w.heap.size < u2.heap.size from by omega)).trans f1_0
  replace f1_1 := (hb3.cell (p := ⟨w.heap.size, 1, none⟩) (show w.heap.size < u2.heap.size from by omega)).trans f1_1
  replace f1_2 := (hb3.cell (p := ⟨w.heap.size, 2, none⟩) (show w.heap.size < u2.heap.size from by omega)).trans f1_2
  replace f1_3 := (hb3.cell (p := ⟨w.heap.size, 3, none⟩) (show w.heap.size < u2.heap.size from by omega)).trans f1_3
  replace f1_4 := (hb3.cell (p := ⟨w.heap.size, 4, none⟩) (show w.heap.size < u2.heap.size from by omega)).trans f1_4
  clear hb3 B2
  rcases ht1 with rfl | ⟨hp1, hq1⟩
  · go_wp2
    go_ret
    exact ⟨rfl, B3.out⟩
  have d1 : decide (t1 < 0) = false := by simp; omega
  have hkn : ¬ ((1:Int) + 5 * (n0 : Int) < 0) := by omega
  have d2 : decide ((1:Int) + 5 * (n0 : Int) < 0) = false := by simpa using hkn
  clear hkn
  go_wp2
  go_region_with (first
    | (go_at_call 17
       refine (toClayS_some _ _ _ z0 _ k0 (W0.out.below (by first | exact B3.out.drew | exact B3.out))).mono ?_
       rintro e v1 ⟨g1, C1, rfl, ho, hb⟩
       have hzv1 : u3.heap.size ≤ v1.heap.size := hb.size
       replace f1_0 := (hb.cell (p := ⟨w.heap.size, 0, none⟩) (show w.heap.size < _ from by first | omega | (simp; omega))).trans f1_0
       replace f1_1 := (hb.cell (p := ⟨w.heap.size, 1, none⟩) (show w.heap.size < _ from by first | omega | (simp; omega))).trans f1_1
       replace f1_2 := (hb.cell (p := ⟨w.heap.size, 2, none⟩) (show w.heap.size < _ from by first | omega | (simp; omega))).trans f1_2
       replace f1_3 := (hb.cell (p := ⟨w.heap.size, 3, none⟩) (show w.heap.size < _ from by first | omega | (simp; omega))).trans f1_3
       replace f1_4 := (hb.cell (p := ⟨w.heap.size, 4, none⟩) (show w.heap.size < _ from by first | omega | (simp; omega))).trans f1_4
       have Bv1 := hide (B3.out.drew.trans (hb.mono B3.out.size))
       have P1 := hide ho
       clear hb ho)
    | (go_at_call 22
       refine (toClay_ok a1p a1q a1r a1s a1x _).mono ?_
       rintro e v2 ⟨rfl, hb⟩
       have hzv2 : v1.heap.size ≤ v2.heap.size := hb.size
       replace f1_0 := (hb.cell (p := ⟨w.heap.size, 0, none⟩) (show w.heap.size < _ from by first | omega | (simp; omega))).trans f1_0
       replace f1_1 := (hb.cell (p := ⟨w.heap.size, 1, none⟩) (show w.heap.size < _ from by first | omega | (simp; omega))).trans f1_1
       replace f1_2 := (hb.cell (p := ⟨w.heap.size, 2, none⟩) (show w.heap.size < _ from by first | omega | (simp; omega))).trans f1_2
       replace f1_3 := (hb.cell (p := ⟨w.heap.size, 3, none⟩) (show w.heap.size < _ from by first | omega | (simp; omega))).trans f1_3
       replace f1_4 := (hb.cell (p := ⟨w.heap.size, 4, none⟩) (show w.heap.size < _ from by first | omega | (simp; omega))).trans f1_4
       have Bv2 := hide (Bv1.out.trans (hb.mono Bv1.out.size))
       have P2 := hide (P1.out.below hb)
       clear hb P1)
    | (go_at_call 26
       refine (spec_add' K cc _ _ _ _ z0 a1p a1q a1r a1s a1x _ (by omega) (own_cap P2.out) P2.out.len (P2.out.row (fun _ => rfl)) NM w1p HK.out HC.out).mono ?_
       rintro e v3 ⟨A2, C2, rfl, ho, hb⟩
       have hzv3 : v2.heap.size ≤ v3.heap.size := hb.size
       replace f1_0 := (hb.cell (p := ⟨w.heap.size, 0, none⟩) (show w.heap.size < _ from by first | omega | (simp; omega))).trans f1_0
       replace f1_1 := (hb.cell (p := ⟨w.heap.size, 1, none⟩) (show w.heap.size < _ from by first | omega | (simp; omega))).trans f1_1
       replace f1_2 := (hb.cell (p := ⟨w.heap.size, 2, none⟩) (show w.heap.size < _ from by first | omega | (simp; omega))).trans f1_2
       replace f1_3 := (hb.cell (p := ⟨w.heap.size, 3, none⟩) (show w.heap.size < _ from by first | omega | (simp; omega))).trans f1_3
       replace f1_4 := (hb.cell (p := ⟨w.heap.size, 4, none⟩) (show w.heap.size < _ from by first | omega | (simp; omega))).trans f1_4
       have Bv3 := hide (Bv2.out.trans (hb.mono Bv2.out.size))
       have U3 := hide ho
       clear hb P2 ho))
  all_goals
    have d3 : decide ((1:Int) + 5 * (K.length : Int) < 0) = false := by simp; omega
    go_wp2_with fail
    refine (toClayS_some _ _ _ z0 _ k0 (W0.out.below Bv3.out)).mono ?_
    rintro e u11 ⟨gx, CX, rfl, ho, hb11⟩
    have e11 : v3.heap.size ≤ u11.heap.size := hb11.size
    have B11 := hide (Bv3.out.trans (hb11.mono Bv3.out.size))
    replace f1_0 := (hb11.cell (p := ⟨w.heap.size, 0, none⟩) (show w.heap.size < v3.heap.size from by omega)).trans f1_0
    replace f1_1 := (hb11.cell (p := ⟨w.heap.size, 1, none⟩) (show w.heap.size < v3.heap.size from by omega)).trans f1_1
    replace f1_2 := (hb11.cell (p := ⟨w.heap.size, 2, none⟩) (show w.heap.size < v3.heap.size from by omega)).trans f1_2
    replace f1_3 := (hb11.cell (p := ⟨w.heap.size, 3, none⟩) (show w.heap.size < v3.heap.size from by omega)).trans f1_3
    replace f1_4 := (hb11.cell (p := ⟨w.heap.size, 4, none⟩) (show w.heap.size < v3.heap.size from by omega)).trans f1_4
    have U_11 := hide (U3.out.below hb11)
    clear U3
    clear hb11 Bv3
    have X_11 := hide ho
    clear ho
    go_wp2_with fail
    refine (toClay_ok a1p a1q a1r a1s a1x _).mono ?_
    rintro e u12 ⟨rfl, hb12⟩
    have e12 : u11.heap.size ≤ u12.heap.size := hb12.size
    have B12 := hide (B11.out.trans (hb12.mono B11.out.size))
    replace f1_0 := (hb12.cell (p := ⟨w.heap.size, 0, none⟩) (show w.heap.size < u11.heap.size from by omega)).trans f1_0
    replace f1_1 := (hb12.cell (p := ⟨w.heap.size, 1, none⟩) (show w.heap.size < u11.heap.size from by omega)).trans f1_1
    replace f1_2 := (hb12.cell (p := ⟨w.heap.size, 2, none⟩) (show w.heap.size < u11.heap.size from by omega)).trans f1_2
    replace f1_3 := (hb12.cell (p := ⟨w.heap.size, 3, none⟩) (show w.heap.size < u11.heap.size from by omega)).trans f1_3
    replace f1_4 := (hb12.cell (p := ⟨w.heap.size, 4, none⟩) (show w.heap.size < u11.heap.size from by omega)).trans f1_4
    have U_12 := hide (U_11.out.below hb12)
    clear U_11
    have X_12 := hide (X_11.out.below hb12)
    clear X_11
    clear hb12 B11
    go_wp2_with fail
    refine (impl_add' K cc _ _ _ _ z0 a1p a1q a1r a1s a1x _ (by omega) (own_cap X_12.out) X_12.out.len (X_12.out.row (fun _ => rfl)) NM w1p HK.out HC.out).mono ?_
    rintro e u13 ⟨AG, CG, rfl, ho, hb13⟩
    have e13 : u12.heap.size ≤ u13.heap.size := hb13.size
    have B13 := hide (B12.out.trans (hb13.mono B12.out.size))
    replace f1_0 := (hb13.cell (p := ⟨w.heap.size, 0, none⟩) (show w.heap.size < u12.heap.size from by omega)).trans f1_0
    replace f1_1 := (hb13.cell (p := ⟨w.heap.size, 1, none⟩) (show w.heap.size < u12.heap.size from by omega)).trans f1_1
    replace f1_2 := (hb13.cell (p := ⟨w.heap.size, 2, none⟩) (show w.heap.size < u12.heap.size from by omega)).trans f1_2
    replace f1_3 := (hb13.cell (p := ⟨w.heap.size, 3, none⟩) (show w.heap.size < u12.heap.size from by omega)).trans f1_3
    replace f1_4 := (hb13.cell (p := ⟨w.heap.size, 4, none⟩) (show w.heap.size < u12.heap.size from by omega)).trans f1_4
    have U_13 := hide (U_12.out.below hb13)
    clear U_12
    have X_13 := hide (X_12.out.below hb13)
    clear X_12
    clear hb13 B12
    have G_13 := hide ho
    clear ho
    go_wp2_with fail
    refine (eqClayS_same _ _ _ _ _ K _ (by omega) G_13.out.len (G_13.out.row (fun _ => rfl)) (U_13.out.row (fun _ => rfl))).mono ?_
    rintro e u14 ⟨rfl, hb14⟩
    have e14 : u13.heap.size ≤ u14.heap.size := hb14.size
    have B14 := hide (B13.out.trans (hb14.mono B13.out.size))
    replace f1_0 := (hb14.cell (p := ⟨w.heap.size, 0, none⟩) (show w.heap.size < u13.heap.size from by omega)).trans f1_0
    replace f1_1 := (hb14.cell (p := ⟨w.heap.size, 1, none⟩) (show w.heap.size < u13.heap.size from by omega)).trans f1_1
    replace f1_2 := (hb14.cell (p := ⟨w.heap.size, 2, none⟩) (show w.heap.size < u13.heap.size from by omega)).trans f1_2
    replace f1_3 := (hb14.cell (p := ⟨w.heap.size, 3, none⟩) (show w.heap.size < u13.heap.size from by omega)).trans f1_3
    replace f1_4 := (hb14.cell (p := ⟨w.heap.size, 4, none⟩) (show w.heap.size < u13.heap.size from by omega)).trans f1_4
    have U_14 := hide (U_13.out.below hb14)
    clear U_13
    have X_14 := hide (X_13.out.below hb14)
    clear X_13
    have G_14 := hide (G_13.out.below hb14)
    clear G_13
    clear hb14 B13
    go_wp2_with fail
    refine (toClayS_own _ _ _ z0 _ k0 (W0.out.below B14.out)).mono ?_
    rintro e u15 ⟨AZ, CZ, rfl, ho, hb15⟩
    have e15 : u14.heap.size ≤ u15.heap.size := hb15.size
    have B15 := hide (B14.out.trans (hb15.mono B14.out.size))
    replace f1_0 := (hb15.cell (p := ⟨w.heap.size, 0, none⟩) (show w.heap.size < u14.heap.size from by omega)).trans f1_0
    replace f1_1 := (hb15.cell (p := ⟨w.heap.size, 1, none⟩) (show w.heap.size < u14.heap.size from by omega)).trans f1_1
    replace f1_2 := (hb15.cell (p := ⟨w.heap.size, 2, none⟩) (show w.heap.size < u14.heap.size from by omega)).trans f1_2
    replace f1_3 := (hb15.cell (p := ⟨w.heap.size, 3, none⟩) (show w.heap.size < u14.heap.size from by omega)).trans f1_3
    replace f1_4 := (hb15.cell (p := ⟨w.heap.size, 4, none⟩) (show w.heap.size < u14.heap.size from by omega)).trans f1_4
    have U_15 := hide (U_14.out.below hb15)
    clear U_14
    have X_15 := hide (X_14.out.below hb15)
    clear X_14
    have G_15 := hide (G_14.out.below hb15)
    clear G_14
    clear hb15 B14
    have Z_15 := hide ho
    clear ho
    go_wp2_with fail
    refine (eqClayS_same _ _ _ _ _ z0 _ (by omega) X_15.out.len (X_15.out.row (fun _ => rfl)) (Z_15.out.row (fun _ => rfl))).mono ?_
    rintro e u16 ⟨rfl, hb16⟩
    have e16 : u15.heap.size ≤ u16.heap.size := hb16.size
    have B16 := hide (B15.out.trans (hb16.mono B15.out.size))
    replace f1_0 := (hb16.cell (p := ⟨w.heap.size, 0, none⟩) (show w.heap.size < u15.heap.size from by omega)).trans f1_0
    replace f1_1 := (hb16.cell (p := ⟨w.heap.size, 1, none⟩) (show w.heap.size < u15.heap.size from by omega)).trans f1_1
    replace f1_2 := (hb16.cell (p := ⟨w.heap.size, 2, none⟩) (show w.heap.size < u15.heap.size from by omega)).trans f1_2
    replace f1_3 := (hb16.cell (p := ⟨w.heap.size, 3, none⟩) (show w.heap.size < u15.heap.size from by omega)).trans f1_3
    replace f1_4 := (hb16.cell (p := ⟨w.heap.size, 4, none⟩) (show w.heap.size < u15.heap.size from by omega)).trans f1_4
    have U_16 := hide (U_15.out.below hb16)
    clear U_15
    have X_16 := hide (X_15.out.below hb16)
    clear X_15
    have G_16 := hide (G_15.out.below hb16)
    clear G_15
    have Z_16 := hide (Z_15.out.below hb16)
    clear Z_15
    clear hb16 B15
    go_wp2_with fail
    refine (markClayS_own _ _ _ _ _ 1 z0 _ (by omega) (by omega) (by omega) X_16.out).mono ?_
    rintro e u17 ⟨rfl, ho, hb17⟩
    have e17 : u16.heap.size ≤ u17.heap.size := hb17.size
    have B17 := hide (B16.out.trans (hb17.below (by have := B16.out.size; omega) B16.out.size))
    replace f1_0 := (touch_cell hb17 (show w.heap.size < _ from by omega) (show w.heap.size < _ from by omega)).trans f1_0
    replace f1_1 := (touch_cell hb17 (show w.heap.size < _ from by omega) (show w.heap.size < _ from by omega)).trans f1_1
    replace f1_2 := (touch_cell hb17 (show w.heap.size < _ from by omega) (show w.heap.size < _ from by omega)).trans f1_2
    replace f1_3 := (touch_cell hb17 (show w.heap.size < _ from by omega) (show w.heap.size < _ from by omega)).trans f1_3
    replace f1_4 := (touch_cell hb17 (show w.heap.size < _ from by omega) (show w.heap.size < _ from by omega)).trans f1_4
    have U_17 := hide (U_16.out.touch hb17 (by omega))
    clear U_16
    have G_17 := hide (G_16.out.touch hb17 (by omega))
    clear G_16
    have Z_17 := hide (Z_16.out.touch hb17 (by omega))
    clear Z_16
    clear hb17 B16 X_16
    have X_17 := hide ho
    clear ho
    skip
    go_wp2_with fail
    refine (eqClayS_same _ _ _ _ _ K _ (by omega) G_17.out.len (G_17.out.row (fun _ => rfl)) (U_17.out.row (fun _ => rfl))).mono ?_
    rintro e u18 ⟨rfl, hb18⟩
    have e18 : u17.heap.size ≤ u18.heap.size := hb18.size
    have B18 := hide (B17.out.trans (hb18.mono B17.out.size))
    replace f1_0 := (hb18.cell (p := ⟨w.heap.size, 0, none⟩) (show w.heap.size < u17.heap.size from by omega)).trans f1_0
    replace f1_1 := (hb18.cell (p := ⟨w.heap.size, 1, none⟩) (show w.heap.size < u17.heap.size from by omega)).trans f1_1
    replace f1_2 := (hb18.cell (p := ⟨w.heap.size, 2, none⟩) (show w.heap.size < u17.heap.size from by omega)).trans f1_2
    replace f1_3 := (hb18.cell (p := ⟨w.heap.size, 3, none⟩) (show w.heap.size < u17.heap.size from by omega)).trans f1_3
    replace f1_4 := (hb18.cell (p := ⟨w.heap.size, 4, none⟩) (show w.heap.size < u17.heap.size from by omega)).trans f1_4
    have U_18 := hide (U_17.out.below hb18)
    clear U_17
    have X_18 := hide (X_17.out.below hb18)
    clear X_17
    have G_18 := hide (G_17.out.below hb18)
    clear G_17
    have Z_18 := hide (Z_17.out.below hb18)
    clear Z_17
    clear hb18 B17
    go_wp2_with fail
    refine (markClayS_own _ _ _ _ _ 1 K _ (by omega) (by omega) (by omega) G_18.out).mono ?_
    rintro e u19 ⟨rfl, ho, hb19⟩
    have e19 : u18.heap.size ≤ u19.heap.size := hb19.size
    have B19 := hide (B18.out.trans (hb19.below (by have := B18.out.size; omega) B18.out.size))
    replace f1_0 := (touch_cell hb19 (show w.heap.size < _ from by omega) (show w.heap.size < _ from by omega)).trans f1_0
    replace f1_1 := (touch_cell hb19 (show w.heap.size < _ from by omega) (show w.heap.size < _ from by omega)).trans f1_1
    replace f1_2 := (touch_cell hb19 (show w.heap.size < _ from by omega) (show w.heap.size < _ from by omega)).trans f1_2
    replace f1_3 := (touch_cell hb19 (show w.heap.size < _ from by omega) (show w.heap.size < _ from by omega)).trans f1_3
    replace f1_4 := (touch_cell hb19 (show w.heap.size < _ from by omega) (show w.heap.size < _ from by omega)).trans f1_4
    have U_19 := hide (U_18.out.touch hb19 (by omega))
    clear U_18
    have X_19 := hide (X_18.out.touch hb19 (by omega))
    clear X_18
    have Z_19 := hide (Z_18.out.touch hb19 (by omega))
    clear Z_18
    clear hb19 B18 G_18
    have G_19 := hide ho
    clear ho
    go_wp2_with fail
    refine (heldClayS_ok _ _ _ 1 _ (by omega) (by omega) (by omega) (G_19.out.row (fun _ => rfl))).mono ?_
    rintro e u20 ⟨rfl, hb20⟩
    have e20 : u19.heap.size ≤ u20.heap.size := hb20.size
    have B20 := hide (B19.out.trans (hb20.mono B19.out.size))
    replace f1_0 := (hb20.cell (p := ⟨w.heap.size, 0, none⟩) (show w.heap.size < u19.heap.size from by omega)).trans f1_0
    replace f1_1 := (hb20.cell (p := ⟨w.heap.size, 1, none⟩) (show w.heap.size < u19.heap.size from by omega)).trans f1_1
    replace f1_2 := (hb20.cell (p := ⟨w.heap.size, 2, none⟩) (show w.heap.size < u19.heap.size from by omega)).trans f1_2
    replace f1_3 := (hb20.cell (p := ⟨w.heap.size, 3, none⟩) (show w.heap.size < u19.heap.size from by omega)).trans f1_3
    replace f1_4 := (hb20.cell (p := ⟨w.heap.size, 4, none⟩) (show w.heap.size < u19.heap.size from by omega)).trans f1_4
    have U_20 := hide (U_19.out.below hb20)
    clear U_19
    have X_20 := hide (X_19.out.below hb20)
    clear X_19
    have G_20 := hide (G_19.out.below hb20)
    clear G_19
    have Z_20 := hide (Z_19.out.below hb20)
    clear Z_19
    clear hb20 B19
    go_wp2
    go_region_with (first
      | (go_at_call 17
         refine (toClayS_some _ _ _ z0 _ k0 (W0.out.below (by first | exact B20.out.drew | exact B20.out))).mono ?_
         rintro e y1 ⟨gy, CY, rfl, ho, hb⟩
         have hzy1 : u20.heap.size ≤ y1.heap.size := hb.size
         replace f1_0 := (hb.cell (p := ⟨w.heap.size, 0, none⟩) (show w.heap.size < _ from by first | omega | (simp; omega))).trans f1_0
         replace f1_1 := (hb.cell (p := ⟨w.heap.size, 1, none⟩) (show w.heap.size < _ from by first | omega | (simp; omega))).trans f1_1
         replace f1_2 := (hb.cell (p := ⟨w.heap.size, 2, none⟩) (show w.heap.size < _ from by first | omega | (simp; omega))).trans f1_2
         replace f1_3 := (hb.cell (p := ⟨w.heap.size, 3, none⟩) (show w.heap.size < _ from by first | omega | (simp; omega))).trans f1_3
         replace f1_4 := (hb.cell (p := ⟨w.heap.size, 4, none⟩) (show w.heap.size < _ from by first | omega | (simp; omega))).trans f1_4
         have By1 := hide (B20.out.drew.trans (hb.mono B20.out.size))
         have V1 := hide ho
         have hbb := (show Below u20.heap.size u20 y1 from (Below.refl _ _).drew.trans hb)
         have G1 := hide (G_20.out.below hbb)
         have Q1 := hide (U_20.out.below hbb)
         clear hb ho hbb)
      | (go_at_call 22
         refine (toClay_ok a1p a1q a1r a1s a1x _).mono ?_
         rintro e y2 ⟨rfl, hb⟩
         have hzy2 : y1.heap.size ≤ y2.heap.size := hb.size
         have By2 := hide (By1.out.trans (hb.mono By1.out.size))
         have V2 := hide (V1.out.below hb)
         have G2 := hide (G1.out.below hb)
         have Q2 := hide (Q1.out.below hb)
         clear hb V1 G1 Q1)
      | (go_at_call 27
         refine (impl_add' K cc _ _ _ _ z0 a1p a1q a1r a1s a1x _ (by omega) (own_cap V2.out) V2.out.len (V2.out.row (fun _ => rfl)) NM w1p HK.out HC.out).mono ?_
         rintro e y3 ⟨AH, CH, rfl, ho, hb⟩
         have hzy3 : y2.heap.size ≤ y3.heap.size := hb.size
         have By3 := hide (By2.out.trans (hb.mono By2.out.size))
         have G3 := hide (G2.out.below hb)
         have Q3 := hide (Q2.out.below hb)
         have H3 := hide ho
         clear hb V2 G2 Q2 ho))
    all_goals
      go_wp2_with fail
      refine (eqClayS_same _ _ _ _ _ K _ (by omega) H3.out.len (H3.out.row (fun _ => rfl)) (Q3.out.row (fun _ => rfl))).mono ?_
      rintro e u31 ⟨rfl, hb31⟩
      have e31 : y3.heap.size ≤ u31.heap.size := hb31.size
      have B31 := hide (By3.out.trans (hb31.mono By3.out.size))
      have G_31 := hide (G3.out.below hb31)
      clear G3
      have U_31 := hide (Q3.out.below hb31)
      clear Q3
      have H_31 := hide (H3.out.below hb31)
      clear H3
      clear hb31 By3
      go_wp2_with fail
      refine (heldClayS_ok _ _ _ 1 _ (by omega) (by omega) (by omega) (G_31.out.row (fun _ => rfl))).mono ?_
      rintro e u32 ⟨rfl, hb32⟩
      have e32 : u31.heap.size ≤ u32.heap.size := hb32.size
      have B32 := hide (B31.out.trans (hb32.mono B31.out.size))
      have G_32 := hide (G_31.out.below hb32)
      clear G_31
      have U_32 := hide (U_31.out.below hb32)
      clear U_31
      have H_32 := hide (H_31.out.below hb32)
      clear H_31
      clear hb32 B31
      go_wp2
      go_ret
      exact ⟨rfl, B32.out⟩
end Go.Proofs.Ytbpddpdpgkkapaa
