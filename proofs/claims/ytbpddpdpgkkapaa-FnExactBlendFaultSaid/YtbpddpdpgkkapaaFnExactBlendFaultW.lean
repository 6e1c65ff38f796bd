/-
  What is proved: the law FnExactBlendFault returns true and changes nothing that was there, for every input. No conditions beyond the arguments' own ranges.
-/
import Derived.Test.YtbpddpdpgkkapaaBFault2
import Derived.Test.YtbpddpdpgkkapaaClayM
import Derived.Test.YtbpddpdpgkkapaaIntTo
import Derived.Deep.RegionWith
namespace Go.Proofs.Ytbpddpdpgkkapaa
open Go.RowKit
set_option linter.unusedVariables false

set_option maxRecDepth 100000 in
set_option maxHeartbeats 4000000 in
theorem fnExactBlendFaultWalk (a0 : Option Addr) (n0 c0 : Nat) (z0 : List Clay) (a1 : Option Addr) (n1 c1 : Nat) (z1 : List Int) (a2p a2q a2r a2s : Int) (w : World) (w0 : ArgRow Clay.enc Clay.Wf 5 w a0 n0 c0 z0) (w1 : ArgInts .i64 w a1 n1 c1 z1) (w2p : (Lit.int .i64 a2p).wf = true) (w2q : (Lit.int .i64 a2q).wf = true) (w2r : (Lit.int .i64 a2r).wf = true) (w2s : (Lit.int .i64 a2s).wf = true) :
    Calls Try.prog 11 #[.slice a0 n0 c0, .slice a1 n1 c1, .agg #[.int .i64 a2p, .int .i64 a2q, .int .i64 a2r, .int .i64 a2s]] w fun e w' => e = .returned (.bool true) ∧ Below w.heap.size w w' := by
  clear w2p w2q w2r w2s
  have NM := names_of w0
  have m1 : n1 ≤ maxLen := Nat.le_trans w1.2.1 w1.2.2.1
  unfold maxLen at m1
  obtain ⟨K, hK⟩ : ∃ K, bfS z0 z1 a2p a2q a2r a2s = K := ⟨_, rfl⟩
  obtain ⟨cc, hC⟩ : ∃ cc, bfC z0 z1 a2p a2q a2r a2s = cc := ⟨_, rfl⟩
  have HK := hide hK
  have HC := hide hC
  clear hK hC
  have W0 := hide w0
  clear w0
  have W1 := hide w1
  clear w1
  by_cases hs1 : (1048576 : Int) < n1
  · go_enter Try.func11, Try.ntmps11
    go_wp2
    go_ret
    exact ⟨rfl, (Below.refl _ _).alloc (Nat.le_refl _) _⟩
  go_enter Try.func11, Try.ntmps11
  have B0 := hide (Below.refl w.heap.size w)
  obtain ⟨u1, hu1⟩ : ∃ u, w.alloc (.cells #[.int .i64 a2p, .int .i64 a2q, .int .i64 a2r, .int .i64 a2s] 55) = u := ⟨_, rfl⟩
  have hb1 : Below w.heap.size w u1 := by rw [← hu1]; exact (Below.refl _ _).alloc (Nat.le_refl _) _
  have e1 : w.heap.size < u1.heap.size := by rw [← hu1]; simp
  have B1 := hide (B0.out.trans (hb1.mono B0.out.size))
  have f1_0 : u1.cell? ⟨w.heap.size, 0, none⟩ = some (.int .i64 a2p) := by rw [← hu1]; simp [go_sem]
  have f1_1 : u1.cell? ⟨w.heap.size, 1, none⟩ = some (.int .i64 a2q) := by rw [← hu1]; simp [go_sem]
  have f1_2 : u1.cell? ⟨w.heap.size, 2, none⟩ = some (.int .i64 a2r) := by rw [← hu1]; simp [go_sem]
  have f1_3 : u1.cell? ⟨w.heap.size, 3, none⟩ = some (.int .i64 a2s) := by rw [← hu1]; simp [go_sem]
  have f1_0o := f1_0
  rw [← hu1] at f1_0o
  have f1_1o := f1_1
  rw [← hu1] at f1_1o
  have f1_2o := f1_2
  rw [← hu1] at f1_2o
  have f1_3o := f1_3
  rw [← hu1] at f1_3o
  clear hb1 B0
  have HU1 := hide hu1
  clear hu1
  go_wp2_with fail
  rw [HU1.out]

  refine (szClayS_ok _ _ _ z0 1048576 _ (by omega) (by omega) (W0.out.below B1.out)).mono ?_
  rintro e u2 ⟨⟨t0, rfl, ht0⟩, hb2⟩
  have e2 : u1.heap.size ≤ u2.heap.size := hb2.size
  clear f1_0o f1_1o f1_2o f1_3o
  have B2 := hide (B1.out.trans (hb2.mono B1.out.size))
  replace f1_0 := (hb2.cell (p := ⟨w.heap.size, 0, none⟩) (show w.heap.size < u1.heap.size from by omega)).trans f1_0
  replace f1_1 := (hb2.cell (p := ⟨w.heap.size, 1, none⟩) (show w.heap.size < u1.heap.size from by omega)).trans f1_1
  replace f1_2 := (hb2.cell (p := ⟨w.heap.size, 2, none⟩) (show w.heap.size < u1.heap.size from by omega)).trans f1_2
  replace f1_3 := (hb2.cell (p := ⟨w.heap.size, 3, none⟩) (show w.heap.size < u1.heap.size from by omega)).trans f1_3
  clear hb2 B1
  rcases ht0 with rfl | ⟨hp0, hq0⟩
  · go_wp2
    go_ret
    exact ⟨rfl, B2.out⟩
  have d0 : decide (t0 < 0) = false := by simp; omega
  have k0 : n0 ≤ 1048576 := by omega
  have k1 : n1 ≤ 1048576 := by omega
  have hneK : (K.toList != K.toList) = false := by simp
  go_wp2
  go_region_with (first
    | (go_at_call 17
       refine (toClayS_own _ _ _ z0 _ k0 (W0.out.below (by first | exact B2.out.drew | exact B2.out))).mono ?_
       rintro e v1 ⟨A1, C1, rfl, ho, hb⟩
       have hzv1 : u2.heap.size ≤ v1.heap.size := hb.size
       replace f1_0 := (hb.cell (p := ⟨w.heap.size, 0, none⟩) (show w.heap.size < _ from by first | omega | (simp; omega))).trans f1_0
       replace f1_1 := (hb.cell (p := ⟨w.heap.size, 1, none⟩) (show w.heap.size < _ from by first | omega | (simp; omega))).trans f1_1
       replace f1_2 := (hb.cell (p := ⟨w.heap.size, 2, none⟩) (show w.heap.size < _ from by first | omega | (simp; omega))).trans f1_2
       replace f1_3 := (hb.cell (p := ⟨w.heap.size, 3, none⟩) (show w.heap.size < _ from by first | omega | (simp; omega))).trans f1_3
       have Bv1 := hide (B2.out.drew.trans (hb.mono B2.out.size))
       have P1 := hide ho
       clear hb ho)
    | (go_at_call 31
       refine (toInt64S_own _ _ _ z1 _ k1 (W1.out.below Bv1.out)).mono ?_
       rintro e v2 ⟨A2, C2, rfl, ho, hb⟩
       have hzv2 : v1.heap.size ≤ v2.heap.size := hb.size
       replace f1_0 := (hb.cell (p := ⟨w.heap.size, 0, none⟩) (show w.heap.size < _ from by first | omega | (simp; omega))).trans f1_0
       replace f1_1 := (hb.cell (p := ⟨w.heap.size, 1, none⟩) (show w.heap.size < _ from by first | omega | (simp; omega))).trans f1_1
       replace f1_2 := (hb.cell (p := ⟨w.heap.size, 2, none⟩) (show w.heap.size < _ from by first | omega | (simp; omega))).trans f1_2
       replace f1_3 := (hb.cell (p := ⟨w.heap.size, 3, none⟩) (show w.heap.size < _ from by first | omega | (simp; omega))).trans f1_3
       have Bv2 := hide (Bv1.out.trans (hb.mono Bv1.out.size))
       have P2 := hide (P1.out.below hb)
       have Q2 := hide ho
       clear hb ho P1)
    | (go_at_call 44
       refine (toLimits_ok _ _ _ _ _).mono ?_
       rintro e v3 ⟨rfl, hb⟩
       have hzv3 : v2.heap.size ≤ v3.heap.size := hb.size
       replace f1_0 := (hb.cell (p := ⟨w.heap.size, 0, none⟩) (show w.heap.size < _ from by first | omega | (simp; omega))).trans f1_0
       replace f1_1 := (hb.cell (p := ⟨w.heap.size, 1, none⟩) (show w.heap.size < _ from by first | omega | (simp; omega))).trans f1_1
       replace f1_2 := (hb.cell (p := ⟨w.heap.size, 2, none⟩) (show w.heap.size < _ from by first | omega | (simp; omega))).trans f1_2
       replace f1_3 := (hb.cell (p := ⟨w.heap.size, 3, none⟩) (show w.heap.size < _ from by first | omega | (simp; omega))).trans f1_3
       have Bv3 := hide (Bv2.out.trans (hb.mono Bv2.out.size))
       have P3 := hide (P2.out.below hb)
       have Q3 := hide (Q2.out.below hb)
       clear hb P2 Q2)
    | (go_at_call 43
       refine (spec_bf' K cc _ _ _ _ _ _ z0 z1 _ _ _ _ _ (by omega) (own_cap P3.out) (by omega) P3.out.len Q3.out.len (P3.out.row (fun _ => rfl)) (Q3.out.row (fun _ => rfl)) NM HK.out HC.out).mono ?_
       rintro e v4 ⟨rfl, hb⟩
       have hzv4 : v3.heap.size ≤ v4.heap.size := hb.size
       replace f1_0 := (hb.cell (p := ⟨w.heap.size, 0, none⟩) (show w.heap.size < _ from by first | omega | (simp; omega))).trans f1_0
       replace f1_1 := (hb.cell (p := ⟨w.heap.size, 1, none⟩) (show w.heap.size < _ from by first | omega | (simp; omega))).trans f1_1
       replace f1_2 := (hb.cell (p := ⟨w.heap.size, 2, none⟩) (show w.heap.size < _ from by first | omega | (simp; omega))).trans f1_2
       replace f1_3 := (hb.cell (p := ⟨w.heap.size, 3, none⟩) (show w.heap.size < _ from by first | omega | (simp; omega))).trans f1_3
       have Bv4 := hide (Bv3.out.trans (hb.mono Bv3.out.size))
       clear hb P3 Q3))
  all_goals
    go_wp2_with fail
    refine (toClayS_own _ _ _ z0 _ k0 (W0.out.below Bv4.out)).mono ?_
    rintro e u11 ⟨A3, C3, rfl, ho, hb11⟩
    have e11 : v4.heap.size ≤ u11.heap.size := hb11.size
    have B11 := hide (Bv4.out.trans (hb11.mono Bv4.out.size))
    replace f1_0 := (hb11.cell (p := ⟨w.heap.size, 0, none⟩) (show w.heap.size < v4.heap.size from by omega)).trans f1_0
    replace f1_1 := (hb11.cell (p := ⟨w.heap.size, 1, none⟩) (show w.heap.size < v4.heap.size from by omega)).trans f1_1
    replace f1_2 := (hb11.cell (p := ⟨w.heap.size, 2, none⟩) (show w.heap.size < v4.heap.size from by omega)).trans f1_2
    replace f1_3 := (hb11.cell (p := ⟨w.heap.size, 3, none⟩) (show w.heap.size < v4.heap.size from by omega)).trans f1_3
    clear hb11 Bv4
    have X_11 := hide ho
    clear ho
    go_wp2_with fail
    refine (toInt64S_own _ _ _ z1 _ k1 (W1.out.below B11.out)).mono ?_
    rintro e u12 ⟨A4, C4, rfl, ho, hb12⟩
    have e12 : u11.heap.size ≤ u12.heap.size := hb12.size
    have B12 := hide (B11.out.trans (hb12.mono B11.out.size))
    replace f1_0 := (hb12.cell (p := ⟨w.heap.size, 0, none⟩) (show w.heap.size < u11.heap.size from by omega)).trans f1_0
    replace f1_1 := (hb12.cell (p := ⟨w.heap.size, 1, none⟩) (show w.heap.size < u11.heap.size from by omega)).trans f1_1
    replace f1_2 := (hb12.cell (p := ⟨w.heap.size, 2, none⟩) (show w.heap.size < u11.heap.size from by omega)).trans f1_2
    replace f1_3 := (hb12.cell (p := ⟨w.heap.size, 3, none⟩) (show w.heap.size < u11.heap.size from by omega)).trans f1_3
    have X_12 := hide (X_11.out.below hb12)
    clear X_11
    clear hb12 B11
    have Y_12 := hide ho
    clear ho
    go_wp2_with fail
    refine (toLimits_ok _ _ _ _ _).mono ?_
    rintro e u13 ⟨rfl, hb13⟩
    have e13 : u12.heap.size ≤ u13.heap.size := hb13.size
    have B13 := hide (B12.out.trans (hb13.mono B12.out.size))
    replace f1_0 := (hb13.cell (p := ⟨w.heap.size, 0, none⟩) (show w.heap.size < u12.heap.size from by omega)).trans f1_0
    replace f1_1 := (hb13.cell (p := ⟨w.heap.size, 1, none⟩) (show w.heap.size < u12.heap.size from by omega)).trans f1_1
    replace f1_2 := (hb13.cell (p := ⟨w.heap.size, 2, none⟩) (show w.heap.size < u12.heap.size from by omega)).trans f1_2
    replace f1_3 := (hb13.cell (p := ⟨w.heap.size, 3, none⟩) (show w.heap.size < u12.heap.size from by omega)).trans f1_3
    have X_13 := hide (X_12.out.below hb13)
    clear X_12
    have Y_13 := hide (Y_12.out.below hb13)
    clear Y_12
    clear hb13 B12
    go_wp2_with fail
    refine (impl_bf' K cc _ _ _ _ _ _ z0 z1 _ _ _ _ _ (by omega) (own_cap X_13.out) (by omega) X_13.out.len Y_13.out.len (X_13.out.row (fun _ => rfl)) (Y_13.out.row (fun _ => rfl)) NM HK.out HC.out).mono ?_
    rintro e u14 ⟨rfl, hb14⟩
    have e14 : u13.heap.size ≤ u14.heap.size := hb14.size
    have B14 := hide (B13.out.trans (hb14.mono B13.out.size))
    replace f1_0 := (hb14.cell (p := ⟨w.heap.size, 0, none⟩) (show w.heap.size < u13.heap.size from by omega)).trans f1_0
    replace f1_1 := (hb14.cell (p := ⟨w.heap.size, 1, none⟩) (show w.heap.size < u13.heap.size from by omega)).trans f1_1
    replace f1_2 := (hb14.cell (p := ⟨w.heap.size, 2, none⟩) (show w.heap.size < u13.heap.size from by omega)).trans f1_2
    replace f1_3 := (hb14.cell (p := ⟨w.heap.size, 3, none⟩) (show w.heap.size < u13.heap.size from by omega)).trans f1_3
    have X_14 := hide (X_13.out.below hb14)
    clear X_13
    have Y_14 := hide (Y_13.out.below hb14)
    clear Y_13
    clear hb14 B13
    go_wp2_with fail
    refine (toClayS_own _ _ _ z0 _ k0 (W0.out.below B14.out)).mono ?_
    rintro e u15 ⟨AZ, CZ, rfl, ho, hb15⟩
    have e15 : u14.heap.size ≤ u15.heap.size := hb15.size
    have B15 := hide (B14.out.trans (hb15.mono B14.out.size))
    have X_15 := hide (X_14.out.below hb15)
    clear X_14
    have Y_15 := hide (Y_14.out.below hb15)
    clear Y_14
    clear hb15 B14
    have Z_15 := hide ho
    clear ho
    go_wp2_with fail
    refine (eqClayS_same _ _ _ _ _ z0 _ (by omega) X_15.out.len (X_15.out.row (fun _ => rfl)) (Z_15.out.row (fun _ => rfl))).mono ?_
    rintro e u16 ⟨rfl, hb16⟩
    have e16 : u15.heap.size ≤ u16.heap.size := hb16.size
    have B16 := hide (B15.out.trans (hb16.mono B15.out.size))
    have X_16 := hide (X_15.out.below hb16)
    clear X_15
    have Y_16 := hide (Y_15.out.below hb16)
    clear Y_15
    have Z_16 := hide (Z_15.out.below hb16)
    clear Z_15
    clear hb16 B15
    go_wp2_with fail
    refine (toInt64S_own _ _ _ z1 _ k1 (W1.out.below B16.out)).mono ?_
    rintro e u17 ⟨AT, CT, rfl, ho, hb17⟩
    have e17 : u16.heap.size ≤ u17.heap.size := hb17.size
    have B17 := hide (B16.out.trans (hb17.mono B16.out.size))
    have X_17 := hide (X_16.out.below hb17)
    clear X_16
    have Y_17 := hide (Y_16.out.below hb17)
    clear Y_16
    have Z_17 := hide (Z_16.out.below hb17)
    clear Z_16
    clear hb17 B16
    have T_17 := hide ho
    clear ho
    go_wp2_with fail
    refine (quiet_below (eqInt64S_same _ _ _ _ _ z1 _ (by omega) Y_17.out.len (Y_17.out.row (fun _ => rfl)) (T_17.out.row (fun _ => rfl)))).mono ?_
    rintro e u18 ⟨rfl, hb18⟩
    have e18 : u17.heap.size ≤ u18.heap.size := hb18.size
    have B18 := hide (B17.out.trans (hb18.mono B17.out.size))
    have X_18 := hide (X_17.out.below hb18)
    clear X_17
    have Y_18 := hide (Y_17.out.below hb18)
    clear Y_17
    have Z_18 := hide (Z_17.out.below hb18)
    clear Z_17
    have T_18 := hide (T_17.out.below hb18)
    clear T_17
    clear hb18 B17
    go_wp2
    go_ret
    exact ⟨rfl, B18.out⟩
end Go.Proofs.Ytbpddpdpgkkapaa
