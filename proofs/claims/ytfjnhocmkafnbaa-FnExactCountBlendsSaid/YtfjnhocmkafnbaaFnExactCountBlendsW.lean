/-
  What is proved: the law FnExactCountBlends returns true and changes nothing that was there, for every input. No conditions beyond the arguments' own ranges.
-/
import Derived.Test.YtfjnhocmkafnbaaAllS
import Derived.Test.YtfjnhocmkafnbaaClayM
import Derived.Test.YtfjnhocmkafnbaaLimTo
import Derived.Deep.RegionWith
namespace Go.Proofs.Ytfjnhocmkafnbaa
open Go.RowKit
set_option linter.unusedVariables false

set_option maxRecDepth 100000 in
set_option maxHeartbeats 4000000 in
theorem fnExactCountBlendsWalk (a0 : Option Addr) (n0 c0 : Nat) (z0 : List Clay) (a1 : Int) (a2p a2q a2r a2s : Int) (w : World) (w0 : ArgRow Clay.enc Clay.Wf 5 w a0 n0 c0 z0) (w1 : (Lit.int .i64 a1).wf = true) (w2p : (Lit.int .i64 a2p).wf = true) (w2q : (Lit.int .i64 a2q).wf = true) (w2r : (Lit.int .i64 a2r).wf = true) (w2s : (Lit.int .i64 a2s).wf = true) :
    Calls Try.prog 4 #[.slice a0 n0 c0, .int .i64 a1, .agg #[.int .i64 a2p, .int .i64 a2q, .int .i64 a2r, .int .i64 a2s]] w fun e w' => e = .returned (.bool true) ∧ Below w.heap.size w w' := by
  clear w1 w2p w2q w2r w2s
  have NM := names_of w0
  obtain ⟨K, hK⟩ : ∃ K, cntN z0 a2p a2q a2r a2s a1 = K := ⟨_, rfl⟩
  obtain ⟨cc, hC⟩ : ∃ cc, blcode z0 a2p a2q a2r a2s a1 = cc := ⟨_, rfl⟩
  have HK := hide hK
  have HC := hide hC
  clear hK hC
  have W0 := hide w0
  clear w0
  go_enter Try.func4, Try.ntmps4
  have B0 := hide (Below.refl w.heap.size w)
  obtain ⟨u1, hu1⟩ : ∃ u, w.alloc (.cells #[.int .i64 a2p, .int .i64 a2q, .int .i64 a2r, .int .i64 a2s] 51) = u := ⟨_, rfl⟩
  have hb1 : Below w.heap.size w u1 := by rw [← hu1]; exact (Below.refl _ _).alloc (Nat.le_refl _) _
  have e1 : w.heap.size < u1.heap.size := by rw [← hu1]; simp
  have B1 := hide (B0.out.trans (hb1.mono B0.out.size))
  have f1_0 : u1.cell? ⟨w.heap.size, 0, none⟩ = some (.int .i64 a2p) := by rw [← hu1]; simp [go_sem]
  have f1_1 : u1.cell? ⟨w.heap.size, 1, none⟩ = some (.int .i64 a2q) := by rw [← hu1]; simp [go_sem]
  have f1_2 : u1.cell? ⟨w.heap.size, 2, none⟩ = some (.int .i64 a2r) := by rw [← hu1]; simp [go_sem]
  have f1_3 : u1.cell? ⟨w.heap.size, 3, none⟩ = some (.int .i64 a2s) := by rw [← hu1]; simp [go_sem]
  have f1_0o := f1_0
  rw [← hu1] at f1_0o
  have f1_1o := f1_1
  rw [← hu1] at f1_1o
  have f1_2o := f1_2
  rw [← hu1] at f1_2o
  have f1_3o := f1_3
  rw [← hu1] at f1_3o
  clear hb1 B0
  have HU1 := hide hu1
  clear hu1
  go_wp2_with fail
  rw [HU1.out]

  refine (szClayS_ok _ _ _ z0 1048576 _ (by omega) (by omega) (W0.out.below B1.out)).mono ?_
  rintro e u2 ⟨⟨t0, rfl, ht0⟩, hb2⟩
  have e2 : u1.heap.size ≤ u2.heap.size := hb2.size
  clear f1_0o f1_1o f1_2o f1_3o
  have B2 := hide (B1.out.trans (hb2.mono B1.out.size))
  replace f1_0 := (hb2.cell (p := ⟨w.heap.size, 0, none⟩) (show w.heap.size < u1.heap.size from by omega)).trans f1_0
  replace f1_1 := (hb2.cell (p := ⟨w.heap.size, 1, none⟩) (show w.heap.size < u1.heap.size from by omega)).trans f1_1
  replace f1_2 := (hb2.cell (p := ⟨w.heap.size, 2, none⟩) (show w.heap.size < u1.heap.size from by omega)).trans f1_2
  replace f1_3 := (hb2.cell (p := ⟨w.heap.size, 3, none⟩) (show w.heap.size < u1.heap.size from by omega)).trans f1_3
  clear hb2 B1
  rcases ht0 with rfl | ⟨hp0, hq0⟩
  · go_wp2
    go_ret
    exact ⟨rfl, B2.out⟩
  have d0 : decide (t0 < 0) = false := by simp; omega
  have k0 : n0 ≤ 1048576 := by omega
  go_wp2
  go_region_with (first
    | (go_at_call 24
       refine (toClayS_own _ _ _ z0 _ k0 (W0.out.below (by first | exact B2.out.drew | exact B2.out))).mono ?_
       rintro e v1 ⟨Av1, Cv1, rfl, ho, hb⟩
       have hzv1 : u2.heap.size ≤ v1.heap.size := hb.size
       replace f1_0 := (hb.cell (p := ⟨w.heap.size, 0, none⟩) (show w.heap.size < _ from by first | omega | (simp; omega))).trans f1_0
       replace f1_1 := (hb.cell (p := ⟨w.heap.size, 1, none⟩) (show w.heap.size < _ from by first | omega | (simp; omega))).trans f1_1
       replace f1_2 := (hb.cell (p := ⟨w.heap.size, 2, none⟩) (show w.heap.size < _ from by first | omega | (simp; omega))).trans f1_2
       replace f1_3 := (hb.cell (p := ⟨w.heap.size, 3, none⟩) (show w.heap.size < _ from by first | omega | (simp; omega))).trans f1_3
       have Bv1 := hide (B2.out.drew.trans (hb.mono B2.out.size))
       have Pv1 := hide ho
       clear hb ho)
    | (go_at_call 25
       refine (toLimits_ok _ _ _ _ _).mono ?_
       rintro e v2 ⟨rfl, hb⟩
       have hzv2 : v1.heap.size ≤ v2.heap.size := hb.size
       replace f1_0 := (hb.cell (p := ⟨w.heap.size, 0, none⟩) (show w.heap.size < _ from by first | omega | (simp; omega))).trans f1_0
       replace f1_1 := (hb.cell (p := ⟨w.heap.size, 1, none⟩) (show w.heap.size < _ from by first | omega | (simp; omega))).trans f1_1
       replace f1_2 := (hb.cell (p := ⟨w.heap.size, 2, none⟩) (show w.heap.size < _ from by first | omega | (simp; omega))).trans f1_2
       replace f1_3 := (hb.cell (p := ⟨w.heap.size, 3, none⟩) (show w.heap.size < _ from by first | omega | (simp; omega))).trans f1_3
       have Bv2 := hide (Bv1.out.trans (hb.mono Bv1.out.size))
       have Pv2 := hide (Pv1.out.below hb)
       clear hb Pv1)
    | (go_at_call 13
       refine (spec_countBlends _ _ _ z0 a2p a2q a2r a2s a1 _ (by omega) Pv2.out.len (Pv2.out.row (fun _ => rfl)) (fun a ha => Nat.lt_of_lt_of_le (Pv2.out.up a ha) Pv2.out.hi_le) NM).mono ?_
       rintro e v3 ⟨rfl, hb⟩
       rw [HK.out, HC.out]
       have hzv3 : v2.heap.size ≤ v3.heap.size := hb.size
       replace f1_0 := (hb.cell (p := ⟨w.heap.size, 0, none⟩) (show w.heap.size < _ from by first | omega | (simp; omega))).trans f1_0
       replace f1_1 := (hb.cell (p := ⟨w.heap.size, 1, none⟩) (show w.heap.size < _ from by first | omega | (simp; omega))).trans f1_1
       replace f1_2 := (hb.cell (p := ⟨w.heap.size, 2, none⟩) (show w.heap.size < _ from by first | omega | (simp; omega))).trans f1_2
       replace f1_3 := (hb.cell (p := ⟨w.heap.size, 3, none⟩) (show w.heap.size < _ from by first | omega | (simp; omega))).trans f1_3
       have Bv3 := hide (Bv2.out.trans (hb.mono Bv2.out.size))
       clear hb Pv2))
  all_goals
    go_wp2_with fail
    refine (toClayS_own _ _ _ z0 _ k0 (W0.out.below Bv3.out)).mono ?_
    rintro e u11 ⟨A3, C3, rfl, ho, hb11⟩
    have e11 : v3.heap.size ≤ u11.heap.size := hb11.size
    have B11 := hide (Bv3.out.trans (hb11.mono Bv3.out.size))
    replace f1_0 := (hb11.cell (p := ⟨w.heap.size, 0, none⟩) (show w.heap.size < v3.heap.size from by omega)).trans f1_0
    replace f1_1 := (hb11.cell (p := ⟨w.heap.size, 1, none⟩) (show w.heap.size < v3.heap.size from by omega)).trans f1_1
    replace f1_2 := (hb11.cell (p := ⟨w.heap.size, 2, none⟩) (show w.heap.size < v3.heap.size from by omega)).trans f1_2
    replace f1_3 := (hb11.cell (p := ⟨w.heap.size, 3, none⟩) (show w.heap.size < v3.heap.size from by omega)).trans f1_3
    clear hb11 Bv3
    have X_11 := hide ho
    clear ho
    go_wp2_with fail
    refine (toLimits_ok _ _ _ _ _).mono ?_
    rintro e u12 ⟨rfl, hb12⟩
    have e12 : u11.heap.size ≤ u12.heap.size := hb12.size
    have B12 := hide (B11.out.trans (hb12.mono B11.out.size))
    replace f1_0 := (hb12.cell (p := ⟨w.heap.size, 0, none⟩) (show w.heap.size < u11.heap.size from by omega)).trans f1_0
    replace f1_1 := (hb12.cell (p := ⟨w.heap.size, 1, none⟩) (show w.heap.size < u11.heap.size from by omega)).trans f1_1
    replace f1_2 := (hb12.cell (p := ⟨w.heap.size, 2, none⟩) (show w.heap.size < u11.heap.size from by omega)).trans f1_2
    replace f1_3 := (hb12.cell (p := ⟨w.heap.size, 3, none⟩) (show w.heap.size < u11.heap.size from by omega)).trans f1_3
    have X_12 := hide (X_11.out.below hb12)
    clear X_11
    clear hb12 B11
    go_wp2_with fail
    refine (impl_countBlends _ _ _ z0 a2p a2q a2r a2s a1 _ (by omega) (own_cap X_12.out) X_12.out.len (X_12.out.row (fun _ => rfl)) (fun a ha => Nat.lt_of_lt_of_le (X_12.out.up a ha) X_12.out.hi_le) NM).mono ?_
    rintro e u13 ⟨rfl, hb13⟩
    have e13 : u12.heap.size ≤ u13.heap.size := hb13.size
    have B13 := hide (B12.out.trans (hb13.mono B12.out.size))
    replace f1_0 := (hb13.cell (p := ⟨w.heap.size, 0, none⟩) (show w.heap.size < u12.heap.size from by omega)).trans f1_0
    replace f1_1 := (hb13.cell (p := ⟨w.heap.size, 1, none⟩) (show w.heap.size < u12.heap.size from by omega)).trans f1_1
    replace f1_2 := (hb13.cell (p := ⟨w.heap.size, 2, none⟩) (show w.heap.size < u12.heap.size from by omega)).trans f1_2
    replace f1_3 := (hb13.cell (p := ⟨w.heap.size, 3, none⟩) (show w.heap.size < u12.heap.size from by omega)).trans f1_3
    have X_13 := hide (X_12.out.below hb13)
    clear X_12
    clear hb13 B12
    rw [HK.out, HC.out]
    go_wp2_with fail
    refine (toClayS_own _ _ _ z0 _ k0 (W0.out.below B13.out)).mono ?_
    rintro e u14 ⟨AZ, CZ, rfl, ho, hb14⟩
    have e14 : u13.heap.size ≤ u14.heap.size := hb14.size
    have B14 := hide (B13.out.trans (hb14.mono B13.out.size))
    have X_14 := hide (X_13.out.below hb14)
    clear X_13
    clear hb14 B13
    have Z_14 := hide ho
    clear ho
    go_wp2_with fail
    refine (eqClayS_same _ _ _ _ _ z0 _ (by omega) X_14.out.len (X_14.out.row (fun _ => rfl)) (Z_14.out.row (fun _ => rfl))).mono ?_
    rintro e u15 ⟨rfl, hb15⟩
    have e15 : u14.heap.size ≤ u15.heap.size := hb15.size
    have B15 := hide (B14.out.trans (hb15.mono B14.out.size))
    have X_15 := hide (X_14.out.below hb15)
    clear X_14
    have Z_15 := hide (Z_14.out.below hb15)
    clear Z_14
    clear hb15 B14
    go_wp2
    go_ret
    exact ⟨rfl, B15.out⟩
end Go.Proofs.Ytfjnhocmkafnbaa
