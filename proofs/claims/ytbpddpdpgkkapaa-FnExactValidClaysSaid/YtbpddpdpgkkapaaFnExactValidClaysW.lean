/-
  What is proved: the law FnExactValidClays returns true and changes nothing that was there, for every input. No conditions beyond the arguments' own ranges.
-/
import Derived.Test.YtbpddpdpgkkapaaClayV2
import Derived.Test.YtbpddpdpgkkapaaClayM
namespace Go.Proofs.Ytbpddpdpgkkapaa
open Go.RowKit
set_option linter.unusedVariables false

set_option maxRecDepth 100000 in
set_option maxHeartbeats 1000000 in
theorem fnExactValidClaysWalk (a0 : Option Addr) (n0 c0 : Nat) (z0 : List Clay) (w : World) (w0 : ArgRow Clay.enc Clay.Wf 5 w a0 n0 c0 z0) :
    Calls Try.prog 5 #[.slice a0 n0 c0] w fun e w' => e = .returned (.bool true) ∧ Below w.heap.size w w' := by
  have NM := names_of w0
  have W0 := hide w0
  clear w0
  go_enter Try.func5, Try.ntmps5
  have B0 := hide (Below.refl w.heap.size w)
  go_wp2_with fail
  refine (szClayS_ok _ _ _ z0 1048576 _ (by omega) (by omega) (W0.out.below B0.out)).mono ?_
  rintro e u1 ⟨⟨t0, rfl, ht0⟩, hb1⟩
  have e1 : w.heap.size ≤ u1.heap.size := hb1.size
  have B1 := hide (B0.out.trans (hb1.mono B0.out.size))
  clear hb1 B0
  rcases ht0 with rfl | ⟨hp0, hq0⟩
  · go_wp2
    go_ret
    exact ⟨rfl, B1.out⟩
  have d0 : decide (t0 < 0) = false := by simp; omega
  have k0 : n0 ≤ 1048576 := by omega
  go_wp2_with fail
  refine (toClayS_own _ _ _ z0 _ k0 (W0.out.below B1.out)).mono ?_
  rintro e u2 ⟨A1, C1, rfl, ho, hb2⟩
  have e2 : u1.heap.size ≤ u2.heap.size := hb2.size
  have B2 := hide (B1.out.trans (hb2.mono B1.out.size))
  clear hb2 B1
  have P_2 := hide ho
  clear ho
  go_wp2_with fail
  refine (spec_validClays _ _ _ z0 _ (by omega) P_2.out.len (P_2.out.row (fun _ => rfl)) NM).mono ?_
  rintro e u3 ⟨rfl, hb3⟩
  have e3 : u2.heap.size ≤ u3.heap.size := hb3.size
  have B3 := hide (B2.out.trans (hb3.mono B2.out.size))
  have P_3 := hide (P_2.out.below hb3)
  clear P_2
  clear hb3 B2
  go_wp2_with fail
  refine (toClayS_own _ _ _ z0 _ k0 (W0.out.below B3.out)).mono ?_
  rintro e u4 ⟨A2, C2, rfl, ho, hb4⟩
  have e4 : u3.heap.size ≤ u4.heap.size := hb4.size
  have B4 := hide (B3.out.trans (hb4.mono B3.out.size))
  have P_4 := hide (P_3.out.below hb4)
  clear P_3
  clear hb4 B3
  have X_4 := hide ho
  clear ho
  go_wp2_with fail
  refine (impl_validClays _ _ _ z0 _ (by omega) (own_cap X_4.out) X_4.out.len (X_4.out.row (fun _ => rfl)) NM).mono ?_
  rintro e u5 ⟨rfl, hb5⟩
  have e5 : u4.heap.size ≤ u5.heap.size := hb5.size
  have B5 := hide (B4.out.trans (hb5.mono B4.out.size))
  have P_5 := hide (P_4.out.below hb5)
  clear P_4
  have X_5 := hide (X_4.out.below hb5)
  clear X_4
  clear hb5 B4
  generalize claysOk z0 = v at *
  go_wp2_with fail
  refine (toClayS_own _ _ _ z0 _ k0 (W0.out.below B5.out)).mono ?_
  rintro e u6 ⟨AZ, CZ, rfl, ho, hb6⟩
  have e6 : u5.heap.size ≤ u6.heap.size := hb6.size
  have B6 := hide (B5.out.trans (hb6.mono B5.out.size))
  have P_6 := hide (P_5.out.below hb6)
  clear P_5
  have X_6 := hide (X_5.out.below hb6)
  clear X_5
  clear hb6 B5
  have Z_6 := hide ho
  clear ho
  go_wp2_with fail
  refine (eqClayS_same _ _ _ _ _ z0 _ (by omega) X_6.out.len (X_6.out.row (fun _ => rfl)) (Z_6.out.row (fun _ => rfl))).mono ?_
  rintro e u7 ⟨rfl, hb7⟩
  have e7 : u6.heap.size ≤ u7.heap.size := hb7.size
  have B7 := hide (B6.out.trans (hb7.mono B6.out.size))
  have P_7 := hide (P_6.out.below hb7)
  clear P_6
  have X_7 := hide (X_6.out.below hb7)
  clear X_6
  have Z_7 := hide (Z_6.out.below hb7)
  clear Z_6
  clear hb7 B6
  go_wp2
  go_ret
  exact ⟨rfl, B7.out⟩
end Go.Proofs.Ytbpddpdpgkkapaa
