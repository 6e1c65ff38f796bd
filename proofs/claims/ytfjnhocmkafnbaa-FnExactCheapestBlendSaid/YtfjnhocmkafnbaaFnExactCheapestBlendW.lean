/-
  What is proved: the law FnExactCheapestBlend returns true and changes nothing that was there, for every input. No conditions beyond the arguments' own ranges.
-/
import Derived.Test.YtfjnhocmkafnbaaAllS
import Derived.Test.YtfjnhocmkafnbaaCheapI
import Derived.Test.YtfjnhocmkafnbaaClayM
import Derived.Test.YtfjnhocmkafnbaaIntS
import Derived.Test.YtfjnhocmkafnbaaLimTo
import Derived.Deep.RegionWith
namespace Go.Proofs.Ytfjnhocmkafnbaa
open Go.RowKit
set_option linter.unusedVariables false

theorem touch_cell2 {lo hi b i : Nat} {w w' : World} (h : Touch lo hi w w') (h1 : b < lo ∨ hi ≤ b) (h2 : b < w.heap.size) : w'.cell? ⟨b, i, none⟩ = w.cell? ⟨b, i, none⟩ := h.cell2 h1 h2
set_option maxRecDepth 100000 in
set_option maxHeartbeats 4000000 in
theorem fnExactCheapestBlendWalk (a0 : Option Addr) (n0 c0 : Nat) (z0 : List Clay) (a1 : Int) (a2p a2q a2r a2s : Int) (w : World) (w0 : ArgRow Clay.enc Clay.Wf 5 w a0 n0 c0 z0) (w1 : (Lit.int .i64 a1).wf = true) (w2p : (Lit.int .i64 a2p).wf = true) (w2q : (Lit.int .i64 a2q).wf = true) (w2r : (Lit.int .i64 a2r).wf = true) (w2s : (Lit.int .i64 a2s).wf = true) :
    Calls Try.prog 5 #[.slice a0 n0 c0, .int .i64 a1, .agg #[.int .i64 a2p, .int .i64 a2q, .int .i64 a2r, .int .i64 a2s]] w fun e w' => e = .returned (.bool true) ∧ Below w.heap.size w w' := by
  clear w1 w2p w2q w2r w2s
  have NM := names_of w0
  have hlen := chL_len z0 a2p a2q a2r a2s a1
  obtain ⟨K, hK⟩ : ∃ K, chL z0 a2p a2q a2r a2s a1 = K := ⟨_, rfl⟩
  obtain ⟨cc, hC⟩ : ∃ cc, chC z0 a2p a2q a2r a2s a1 = cc := ⟨_, rfl⟩
  rw [hK] at hlen
  have HK := hide hK
  have HC := hide hC
  clear hK hC
  have W0 := hide w0
  clear w0
  go_enter Try.func5, Try.ntmps5
  have B0 := hide (Below.refl w.heap.size w)
  obtain ⟨u1, hu1⟩ : ∃ u, w.alloc (.cells #[.int .i64 a2p, .int .i64 a2q, .int .i64 a2r, .int .i64 a2s] 51) = u := ⟨_, rfl⟩
  have hb1 : Below w.heap.size w u1 := by rw [← hu1]; exact (Below.refl _ _).alloc (Nat.le_refl _) _
  have e1 : w.heap.size < u1.heap.size := by rw [← hu1]; simp
  have B1 := hide (B0.out.trans (hb1.mono B0.out.size))
  have f1_0 : u1.cell? ⟨w.heap.size, 0, none⟩ = some (.int .i64 a2p) := by rw [← hu1]; simp [go_sem]
  have f1_1 : u1.cell? ⟨w.heap.size, 1, none⟩ = some (.int .i64 a2q) := by rw [← hu1]; simp [go_sem]
  have f1_2 : u1.cell? ⟨w.heap.size, 2, none⟩ = some (.int .i64 a2r) := by rw [← hu1]; simp [go_sem]
  have f1_3 : u1.cell? ⟨w.heap.size, 3, none⟩ = some (.int .i64 a2s) := by rw [← hu1]; simp [go_sem]
  have f1_0o := f1_0
  rw [← hu1] at f1_0o
  have f1_1o := f1_1
  rw [← hu1] at f1_1o
  have f1_2o := f1_2
  rw [← hu1] at f1_2o
  have f1_3o := f1_3
  rw [← hu1] at f1_3o
  clear hb1 B0
  have HU1 := hide hu1
  clear hu1
  go_wp2_with fail
  rw [HU1.out]

  refine (szClayS_ok _ _ _ z0 1048576 _ (by omega) (by omega) (W0.out.below B1.out)).mono ?_
  rintro e u2 ⟨⟨t0, rfl, ht0⟩, hb2⟩
  have e2 : u1.heap.size ≤ u2.heap.size := hb2.size
  clear f1_0o f1_1o f1_2o f1_3o
  have B2 := hide (B1.out.trans (hb2.mono B1.out.size))
  replace f1_0 := (hb2.cell (p := ⟨w.heap.size, 0, none⟩) (show w.heap.size < u1.heap.size from by omega)).trans f1_0
  replace f1_1 := (hb2.cell (p := ⟨w.heap.size, 1, none⟩) (show w.heap.size < u1.heap.size from by omega)).trans f1_1
  replace f1_2 := (hb2.cell (p := ⟨w.heap.size, 2, none⟩) (show w.heap.size < u1.heap.size from by omega)).trans f1_2
  replace f1_3 := (hb2.cell (p := ⟨w.heap.size, 3, none⟩) (show w.heap.size < u1.heap.size from by omega)).trans f1_3
  clear hb2 B1
  rcases ht0 with rfl | ⟨hp0, hq0⟩
  · go_wp2
    go_ret
    exact ⟨rfl, B2.out⟩
  have d0 : decide (t0 < 0) = false := by simp; omega
  have k0 : n0 ≤ 1048576 := by omega
  have hkn : ¬ ((1:Int) + 5 * (n0 : Int) < 0) := by omega
  have d1 : decide ((1:Int) + 5 * (n0 : Int) < 0) = false := by simpa using hkn
  have d2 : decide ((1:Int) + (K.length : Int) < 0) = false := by simp; omega
  clear hkn
  go_wp2
  go_region_with (first
    | (go_at_call 24
       refine (toClayS_own _ _ _ z0 _ k0 (W0.out.below (by first | exact B2.out.drew | exact B2.out))).mono ?_
       rintro e v1 ⟨Av1, Cv1, rfl, ho, hb⟩
       have hzv1 : u2.heap.size ≤ v1.heap.size := hb.size
       replace f1_0 := (hb.cell (p := ⟨w.heap.size, 0, none⟩) (show w.heap.size < _ from by first | omega | (simp; omega))).trans f1_0
       replace f1_1 := (hb.cell (p := ⟨w.heap.size, 1, none⟩) (show w.heap.size < _ from by first | omega | (simp; omega))).trans f1_1
       replace f1_2 := (hb.cell (p := ⟨w.heap.size, 2, none⟩) (show w.heap.size < _ from by first | omega | (simp; omega))).trans f1_2
       replace f1_3 := (hb.cell (p := ⟨w.heap.size, 3, none⟩) (show w.heap.size < _ from by first | omega | (simp; omega))).trans f1_3
       have Bv1 := hide (B2.out.drew.trans (hb.mono B2.out.size))
       have Pv1 := hide ho
       clear hb ho)
    | (go_at_call 25
       refine (toLimits_ok _ _ _ _ _).mono ?_
       rintro e v2 ⟨rfl, hb⟩
       have hzv2 : v1.heap.size ≤ v2.heap.size := hb.size
       replace f1_0 := (hb.cell (p := ⟨w.heap.size, 0, none⟩) (show w.heap.size < _ from by first | omega | (simp; omega))).trans f1_0
       replace f1_1 := (hb.cell (p := ⟨w.heap.size, 1, none⟩) (show w.heap.size < _ from by first | omega | (simp; omega))).trans f1_1
       replace f1_2 := (hb.cell (p := ⟨w.heap.size, 2, none⟩) (show w.heap.size < _ from by first | omega | (simp; omega))).trans f1_2
       replace f1_3 := (hb.cell (p := ⟨w.heap.size, 3, none⟩) (show w.heap.size < _ from by first | omega | (simp; omega))).trans f1_3
       have Bv2 := hide (Bv1.out.trans (hb.mono Bv1.out.size))
       have Pv2 := hide (Pv1.out.below hb)
       clear hb Pv1)
    | (go_at_call 11
       refine (spec_cheapestBlend K cc _ _ _ z0 a2p a2q a2r a2s a1 _ (by omega) Pv2.out.len (Pv2.out.row (fun _ => rfl)) (fun a ha => Nat.lt_of_lt_of_le (Pv2.out.up a ha) Pv2.out.hi_le) NM HK.out HC.out).mono ?_
       rintro e v3 ⟨Av3, Cv3, rfl, ho, hb⟩
       have hzv3 : v2.heap.size ≤ v3.heap.size := hb.size
       replace f1_0 := (hb.cell (p := ⟨w.heap.size, 0, none⟩) (show w.heap.size < _ from by first | omega | (simp; omega))).trans f1_0
       replace f1_1 := (hb.cell (p := ⟨w.heap.size, 1, none⟩) (show w.heap.size < _ from by first | omega | (simp; omega))).trans f1_1
       replace f1_2 := (hb.cell (p := ⟨w.heap.size, 2, none⟩) (show w.heap.size < _ from by first | omega | (simp; omega))).trans f1_2
       replace f1_3 := (hb.cell (p := ⟨w.heap.size, 3, none⟩) (show w.heap.size < _ from by first | omega | (simp; omega))).trans f1_3
       have Bv3 := hide (Bv2.out.trans (hb.mono Bv2.out.size))
       have Uv3 := hide ho
       clear ho
       clear hb Pv2))
  all_goals
    go_wp2_with fail
    refine (toClayS_own _ _ _ z0 _ k0 (W0.out.below Bv3.out)).mono ?_
    rintro e u11 ⟨A3, C3, rfl, ho, hb11⟩
    have e11 : v3.heap.size ≤ u11.heap.size := hb11.size
    have B11 := hide (Bv3.out.trans (hb11.mono Bv3.out.size))
    replace f1_0 := (hb11.cell (p := ⟨w.heap.size, 0, none⟩) (show w.heap.size < v3.heap.size from by omega)).trans f1_0
    replace f1_1 := (hb11.cell (p := ⟨w.heap.size, 1, none⟩) (show w.heap.size < v3.heap.size from by omega)).trans f1_1
    replace f1_2 := (hb11.cell (p := ⟨w.heap.size, 2, none⟩) (show w.heap.size < v3.heap.size from by omega)).trans f1_2
    replace f1_3 := (hb11.cell (p := ⟨w.heap.size, 3, none⟩) (show w.heap.size < v3.heap.size from by omega)).trans f1_3
    have U_11 := hide (Uv3.out.below hb11)
    clear Uv3
    clear hb11 Bv3
    have X_11 := hide ho
    clear ho
    go_wp2_with fail
    refine (toLimits_ok _ _ _ _ _).mono ?_
    rintro e u12 ⟨rfl, hb12⟩
    have e12 : u11.heap.size ≤ u12.heap.size := hb12.size
    have B12 := hide (B11.out.trans (hb12.mono B11.out.size))
    replace f1_0 := (hb12.cell (p := ⟨w.heap.size, 0, none⟩) (show w.heap.size < u11.heap.size from by omega)).trans f1_0
    replace f1_1 := (hb12.cell (p := ⟨w.heap.size, 1, none⟩) (show w.heap.size < u11.heap.size from by omega)).trans f1_1
    replace f1_2 := (hb12.cell (p := ⟨w.heap.size, 2, none⟩) (show w.heap.size < u11.heap.size from by omega)).trans f1_2
    replace f1_3 := (hb12.cell (p := ⟨w.heap.size, 3, none⟩) (show w.heap.size < u11.heap.size from by omega)).trans f1_3
    have U_12 := hide (U_11.out.below hb12)
    clear U_11
    have X_12 := hide (X_11.out.below hb12)
    clear X_11
    clear hb12 B11
    go_wp2_with fail
    refine (impl_cheapestBlend K cc _ _ _ z0 a2p a2q a2r a2s a1 _ (by omega) (own_cap X_12.out) X_12.out.len (X_12.out.row (fun _ => rfl)) (fun a ha => Nat.lt_of_lt_of_le (X_12.out.up a ha) X_12.out.hi_le) NM HK.out HC.out).mono ?_
    rintro e u13 ⟨A6, C6, rfl, ho, hb13⟩
    have e13 : u12.heap.size ≤ u13.heap.size := hb13.size
    have B13 := hide (B12.out.trans (hb13.mono B12.out.size))
    replace f1_0 := (hb13.cell (p := ⟨w.heap.size, 0, none⟩) (show w.heap.size < u12.heap.size from by omega)).trans f1_0
    replace f1_1 := (hb13.cell (p := ⟨w.heap.size, 1, none⟩) (show w.heap.size < u12.heap.size from by omega)).trans f1_1
    replace f1_2 := (hb13.cell (p := ⟨w.heap.size, 2, none⟩) (show w.heap.size < u12.heap.size from by omega)).trans f1_2
    replace f1_3 := (hb13.cell (p := ⟨w.heap.size, 3, none⟩) (show w.heap.size < u12.heap.size from by omega)).trans f1_3
    have U_13 := hide (U_12.out.below hb13)
    clear U_12
    have X_13 := hide (X_12.out.below hb13)
    clear X_12
    clear hb13 B12
    have G_13 := hide ho
    clear ho
    go_wp2_with fail
    refine (quiet_below (eqInt64S_same _ _ _ _ _ K _ (by omega) G_13.out.len (G_13.out.row (fun _ => rfl)) (U_13.out.row (fun _ => rfl)))).mono ?_
    rintro e u14 ⟨rfl, hb14⟩
    have e14 : u13.heap.size ≤ u14.heap.size := hb14.size
    have B14 := hide (B13.out.trans (hb14.mono B13.out.size))
    replace f1_0 := (hb14.cell (p := ⟨w.heap.size, 0, none⟩) (show w.heap.size < u13.heap.size from by omega)).trans f1_0
    replace f1_1 := (hb14.cell (p := ⟨w.heap.size, 1, none⟩) (show w.heap.size < u13.heap.size from by omega)).trans f1_1
    replace f1_2 := (hb14.cell (p := ⟨w.heap.size, 2, none⟩) (show w.heap.size < u13.heap.size from by omega)).trans f1_2
    replace f1_3 := (hb14.cell (p := ⟨w.heap.size, 3, none⟩) (show w.heap.size < u13.heap.size from by omega)).trans f1_3
    have U_14 := hide (U_13.out.below hb14)
    clear U_13
    have X_14 := hide (X_13.out.below hb14)
    clear X_13
    have G_14 := hide (G_13.out.below hb14)
    clear G_13
    clear hb14 B13
    go_wp2_with fail
    refine (toClayS_own _ _ _ z0 _ k0 (W0.out.below B14.out)).mono ?_
    rintro e u15 ⟨AZ, CZ, rfl, ho, hb15⟩
    have e15 : u14.heap.size ≤ u15.heap.size := hb15.size
    have B15 := hide (B14.out.trans (hb15.mono B14.out.size))
    replace f1_0 := (hb15.cell (p := ⟨w.heap.size, 0, none⟩) (show w.heap.size < u14.heap.size from by omega)).trans f1_0
    replace f1_1 := (hb15.cell (p := ⟨w.heap.size, 1, none⟩) (show w.heap.size < u14.heap.size from by omega)).trans f1_1
    replace f1_2 := (hb15.cell (p := ⟨w.heap.size, 2, none⟩) (show w.heap.size < u14.heap.size from by omega)).trans f1_2
    replace f1_3 := (hb15.cell (p := ⟨w.heap.size, 3, none⟩) (show w.heap.size < u14.heap.size from by omega)).trans f1_3
    have U_15 := hide (U_14.out.below hb15)
    clear U_14
    have X_15 := hide (X_14.out.below hb15)
    clear X_14
    have G_15 := hide (G_14.out.below hb15)
    clear G_14
    clear hb15 B14
    have Z_15 := hide ho
    clear ho
    go_wp2_with fail
    refine (eqClayS_same _ _ _ _ _ z0 _ (by omega) X_15.out.len (X_15.out.row (fun _ => rfl)) (Z_15.out.row (fun _ => rfl))).mono ?_
    rintro e u16 ⟨rfl, hb16⟩
    have e16 : u15.heap.size ≤ u16.heap.size := hb16.size
    have B16 := hide (B15.out.trans (hb16.mono B15.out.size))
    replace f1_0 := (hb16.cell (p := ⟨w.heap.size, 0, none⟩) (show w.heap.size < u15.heap.size from by omega)).trans f1_0
    replace f1_1 := (hb16.cell (p := ⟨w.heap.size, 1, none⟩) (show w.heap.size < u15.heap.size from by omega)).trans f1_1
    replace f1_2 := (hb16.cell (p := ⟨w.heap.size, 2, none⟩) (show w.heap.size < u15.heap.size from by omega)).trans f1_2
    replace f1_3 := (hb16.cell (p := ⟨w.heap.size, 3, none⟩) (show w.heap.size < u15.heap.size from by omega)).trans f1_3
    have U_16 := hide (U_15.out.below hb16)
    clear U_15
    have X_16 := hide (X_15.out.below hb16)
    clear X_15
    have G_16 := hide (G_15.out.below hb16)
    clear G_15
    have Z_16 := hide (Z_15.out.below hb16)
    clear Z_15
    clear hb16 B15
    go_wp2_with fail
    refine (markClayS_own _ _ _ _ _ 1 z0 _ (by omega) (by omega) (by omega) X_16.out).mono ?_
    rintro e u17 ⟨rfl, ho, hb17⟩
    have e17 : u16.heap.size ≤ u17.heap.size := hb17.size
    have B17 := hide (B16.out.trans (hb17.below (by have := B16.out.size; omega) B16.out.size))
    replace f1_0 := (touch_cell2 (b := w.heap.size) hb17 (by omega) (show w.heap.size < _ from by omega)).trans f1_0
    replace f1_1 := (touch_cell2 (b := w.heap.size) hb17 (by omega) (show w.heap.size < _ from by omega)).trans f1_1
    replace f1_2 := (touch_cell2 (b := w.heap.size) hb17 (by omega) (show w.heap.size < _ from by omega)).trans f1_2
    replace f1_3 := (touch_cell2 (b := w.heap.size) hb17 (by omega) (show w.heap.size < _ from by omega)).trans f1_3
    have U_17 := hide (U_16.out.touch hb17 (by omega))
    clear U_16
    have G_17 := hide (G_16.out.touch hb17 (by omega))
    clear G_16
    have Z_17 := hide (Z_16.out.touch hb17 (by omega))
    clear Z_16
    clear hb17 B16 X_16
    have X_17 := hide ho
    clear ho
    go_wp2_with fail
    refine (quiet_below (eqInt64S_same _ _ _ _ _ K _ (by omega) G_17.out.len (G_17.out.row (fun _ => rfl)) (U_17.out.row (fun _ => rfl)))).mono ?_
    rintro e u18 ⟨rfl, hb18⟩
    have e18 : u17.heap.size ≤ u18.heap.size := hb18.size
    have B18 := hide (B17.out.trans (hb18.mono B17.out.size))
    replace f1_0 := (hb18.cell (p := ⟨w.heap.size, 0, none⟩) (show w.heap.size < u17.heap.size from by omega)).trans f1_0
    replace f1_1 := (hb18.cell (p := ⟨w.heap.size, 1, none⟩) (show w.heap.size < u17.heap.size from by omega)).trans f1_1
    replace f1_2 := (hb18.cell (p := ⟨w.heap.size, 2, none⟩) (show w.heap.size < u17.heap.size from by omega)).trans f1_2
    replace f1_3 := (hb18.cell (p := ⟨w.heap.size, 3, none⟩) (show w.heap.size < u17.heap.size from by omega)).trans f1_3
    have U_18 := hide (U_17.out.below hb18)
    clear U_17
    have X_18 := hide (X_17.out.below hb18)
    clear X_17
    have G_18 := hide (G_17.out.below hb18)
    clear G_17
    have Z_18 := hide (Z_17.out.below hb18)
    clear Z_17
    clear hb18 B17
    go_wp2_with fail
    refine (markInt64S_own _ _ _ _ _ 1 K _ (by omega) (by omega) (by omega) G_18.out).mono ?_
    rintro e u19 ⟨rfl, ho, hb19⟩
    have e19 : u18.heap.size ≤ u19.heap.size := hb19.size
    have B19 := hide (B18.out.trans (hb19.below (by have := B18.out.size; omega) B18.out.size))
    replace f1_0 := (touch_cell2 (b := w.heap.size) hb19 (by omega) (show w.heap.size < _ from by omega)).trans f1_0
    replace f1_1 := (touch_cell2 (b := w.heap.size) hb19 (by omega) (show w.heap.size < _ from by omega)).trans f1_1
    replace f1_2 := (touch_cell2 (b := w.heap.size) hb19 (by omega) (show w.heap.size < _ from by omega)).trans f1_2
    replace f1_3 := (touch_cell2 (b := w.heap.size) hb19 (by omega) (show w.heap.size < _ from by omega)).trans f1_3
    have U_19 := hide (U_18.out.touch hb19 (by omega))
    clear U_18
    have X_19 := hide (X_18.out.touch hb19 (by omega))
    clear X_18
    have Z_19 := hide (Z_18.out.touch hb19 (by omega))
    clear Z_18
    clear hb19 B18 G_18
    have G_19 := hide ho
    clear ho
    go_wp2_with fail
    refine (heldInt64S_ok _ _ _ 1 _ (by omega) (by omega) (by omega) (G_19.out.row (fun _ => rfl))).mono ?_
    rintro e u20 ⟨rfl, rfl⟩
    go_wp2
    go_region_with (first
      | (go_at_call 24
         refine (toClayS_own _ _ _ z0 _ k0 (W0.out.below (by first | exact B19.out.drew | exact B19.out))).mono ?_
         rintro e y1 ⟨Ay1, Cy1, rfl, ho, hb⟩
         have hzy1 : u19.heap.size ≤ y1.heap.size := hb.size
         replace f1_0 := (hb.cell (p := ⟨w.heap.size, 0, none⟩) (show w.heap.size < _ from by first | omega | (simp; omega))).trans f1_0
         replace f1_1 := (hb.cell (p := ⟨w.heap.size, 1, none⟩) (show w.heap.size < _ from by first | omega | (simp; omega))).trans f1_1
         replace f1_2 := (hb.cell (p := ⟨w.heap.size, 2, none⟩) (show w.heap.size < _ from by first | omega | (simp; omega))).trans f1_2
         replace f1_3 := (hb.cell (p := ⟨w.heap.size, 3, none⟩) (show w.heap.size < _ from by first | omega | (simp; omega))).trans f1_3
         have hbd : Below u19.heap.size u19 y1 := by first | exact ((Below.refl u19.heap.size u19).drew).trans (hb.mono (Nat.le_refl _)) | exact hb
         have U_y1 := hide (U_19.out.below hbd)
         have G_y1 := hide (G_19.out.below hbd)
         have By1 := hide (B19.out.drew.trans (hb.mono B19.out.size))
         have Py1 := hide ho
         clear hb ho)
      | (go_at_call 25
         refine (toLimits_ok _ _ _ _ _).mono ?_
         rintro e y2 ⟨rfl, hb⟩
         have hzy2 : y1.heap.size ≤ y2.heap.size := hb.size
         replace f1_0 := (hb.cell (p := ⟨w.heap.size, 0, none⟩) (show w.heap.size < _ from by first | omega | (simp; omega))).trans f1_0
         replace f1_1 := (hb.cell (p := ⟨w.heap.size, 1, none⟩) (show w.heap.size < _ from by first | omega | (simp; omega))).trans f1_1
         replace f1_2 := (hb.cell (p := ⟨w.heap.size, 2, none⟩) (show w.heap.size < _ from by first | omega | (simp; omega))).trans f1_2
         replace f1_3 := (hb.cell (p := ⟨w.heap.size, 3, none⟩) (show w.heap.size < _ from by first | omega | (simp; omega))).trans f1_3
         have U_y2 := hide (U_y1.out.below hb)
         have G_y2 := hide (G_y1.out.below hb)
         have By2 := hide (By1.out.trans (hb.mono By1.out.size))
         have Py2 := hide (Py1.out.below hb)
         clear hb Py1)
      | (go_at_call 10
         refine (impl_cheapestBlend K cc _ _ _ z0 a2p a2q a2r a2s a1 _ (by omega) (own_cap Py2.out) Py2.out.len (Py2.out.row (fun _ => rfl)) (fun a ha => Nat.lt_of_lt_of_le (Py2.out.up a ha) Py2.out.hi_le) NM HK.out HC.out).mono ?_
         rintro e y3 ⟨Ay3, Cy3, rfl, ho, hb⟩
         have hzy3 : y2.heap.size ≤ y3.heap.size := hb.size
         replace f1_0 := (hb.cell (p := ⟨w.heap.size, 0, none⟩) (show w.heap.size < _ from by first | omega | (simp; omega))).trans f1_0
         replace f1_1 := (hb.cell (p := ⟨w.heap.size, 1, none⟩) (show w.heap.size < _ from by first | omega | (simp; omega))).trans f1_1
         replace f1_2 := (hb.cell (p := ⟨w.heap.size, 2, none⟩) (show w.heap.size < _ from by first | omega | (simp; omega))).trans f1_2
         replace f1_3 := (hb.cell (p := ⟨w.heap.size, 3, none⟩) (show w.heap.size < _ from by first | omega | (simp; omega))).trans f1_3
         have U_y3 := hide (U_y2.out.below hb)
         have G_y3 := hide (G_y2.out.below hb)
         have By3 := hide (By2.out.trans (hb.mono By2.out.size))
         have Hy3 := hide ho
         clear ho
         clear hb Py2))
    all_goals
      go_wp2_with fail
      refine (quiet_below (eqInt64S_same _ _ _ _ _ K _ (by omega) Hy3.out.len (Hy3.out.row (fun _ => rfl)) (U_y3.out.row (fun _ => rfl)))).mono ?_
      rintro e u41 ⟨rfl, hb41⟩
      have e41 : y3.heap.size ≤ u41.heap.size := hb41.size
      have B41 := hide (By3.out.trans (hb41.mono By3.out.size))
      have U_41 := hide (U_y3.out.below hb41)
      clear U_y3
      have G_41 := hide (G_y3.out.below hb41)
      clear G_y3
      have H_41 := hide (Hy3.out.below hb41)
      clear Hy3
      clear hb41 By3
      go_wp2_with fail
      refine (heldInt64S_ok _ _ _ 1 _ (by omega) (by omega) (by omega) (G_41.out.row (fun _ => rfl))).mono ?_
      rintro e u42 ⟨rfl, rfl⟩
      go_wp2
      go_ret
      exact ⟨rfl, B41.out⟩
end Go.Proofs.Ytfjnhocmkafnbaa
