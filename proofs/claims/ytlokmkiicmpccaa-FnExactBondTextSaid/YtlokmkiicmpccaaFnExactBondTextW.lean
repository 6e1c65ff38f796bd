/-
  What is proved: the law FnExactBondText returns true and changes nothing that was there, for every input. No conditions beyond the arguments' own ranges.
-/
import Derived.Test.YtlokmkiicmpccaaBondText
import Derived.Test.YtlokmkiicmpccaaBond
import Derived.Deep.RegionHeld3
namespace Go.Proofs.Ytlokmkiicmpccaa
open Go.RowKit
set_option linter.unusedVariables false

set_option maxRecDepth 100000 in
set_option maxHeartbeats 4000000 in
theorem fnExactBondTextWalk (s0 : ByteArray) (a0 : Option Addr) (n0 c0 : Nat) (z0 : List Course) (w : World) (ws0 : s0.size ≤ maxLen) (w0 : ArgRow Course.enc Course.Wf 2 w a0 n0 c0 z0) :
    Calls Try.prog 9 #[.agg #[.string s0, .slice a0 n0 c0]] w fun e w' => e = .returned (.bool true) ∧ Below w.heap.size w w' := by
  have TX := texts_of w0
  have W0 := hide w0
  clear w0
  go_enter Try.func9, Try.ntmps9
  have B0 := hide (Below.refl w.heap.size w)
  obtain ⟨u1, hu1⟩ : ∃ u, w.alloc (.cells #[.string s0, .slice a0 n0 c0] 24) = u := ⟨_, rfl⟩
  have hb1 : Below w.heap.size w u1 := by rw [← hu1]; exact (Below.refl _ _).alloc (Nat.le_refl _) _
  have e1 : w.heap.size < u1.heap.size := by rw [← hu1]; simp
  have B1 := hide (B0.out.trans (hb1.mono B0.out.size))
  have f1_0 : u1.cell? ⟨w.heap.size, 0, none⟩ = some (.string s0) := by rw [← hu1]; simp [go_sem]
  have f1_1 : u1.cell? ⟨w.heap.size, 1, none⟩ = some (.slice a0 n0 c0) := by rw [← hu1]; simp [go_sem]
  have f1_0o := f1_0
  rw [← hu1] at f1_0o
  have f1_1o := f1_1
  rw [← hu1] at f1_1o
  clear hb1 B0
  have HU1 := hide hu1
  clear hu1
  go_wp2_with fail
  rw [HU1.out]

  refine (szBond_ok s0 _ _ _ z0 1048576 _ (by omega) (by omega) ws0 (W0.out.below B1.out)).mono ?_
  rintro e u2 ⟨⟨t0, rfl, ht0⟩, hb2⟩
  have e2 : u1.heap.size ≤ u2.heap.size := hb2.size
  clear f1_0o f1_1o
  have B2 := hide (B1.out.trans (hb2.mono B1.out.size))
  replace f1_0 := (hb2.cell (p := ⟨w.heap.size, 0, none⟩) (show w.heap.size < u1.heap.size from by omega)).trans f1_0
  replace f1_1 := (hb2.cell (p := ⟨w.heap.size, 1, none⟩) (show w.heap.size < u1.heap.size from by omega)).trans f1_1
  clear hb2 B1
  rcases ht0 with rfl | ⟨hp0, hq0⟩
  · go_wp2
    go_ret
    exact ⟨rfl, B2.out⟩
  have d0 : decide (t0 < 0) = false := by simp; omega
  have k0 : n0 ≤ 1048576 := by omega
  obtain ⟨r0, hr0⟩ : ∃ r, textB s0 z0 = r := ⟨_, rfl⟩
  have HR0 := hide hr0
  clear hr0
  go_wp2_with fail
  refine (toBond_own s0 _ _ _ z0 _ k0 (W0.out.below B2.out)).mono ?_
  rintro e u3 ⟨A1, C1, rfl, ho, hb3⟩
  have e3 : u2.heap.size ≤ u3.heap.size := hb3.size
  have B3 := hide (B2.out.trans (hb3.mono B2.out.size))
  replace f1_0 := (hb3.cell (p := ⟨w.heap.size, 0, none⟩) (show w.heap.size < u2.heap.size from by omega)).trans f1_0
  replace f1_1 := (hb3.cell (p := ⟨w.heap.size, 1, none⟩) (show w.heap.size < u2.heap.size from by omega)).trans f1_1
  clear hb3 B2
  have P_3 := hide ho
  clear ho
  go_wp2_with fail
  refine (spec_bondText s0 _ _ _ z0  _ ws0 (by omega) P_3.out.len (P_3.out.row (fun _ => rfl)) TX).mono ?_
  rintro e u4 ⟨rfl, hb4⟩
  have e4 : u3.heap.size ≤ u4.heap.size := hb4.size
  have B4 := hide (B3.out.trans (hb4.mono B3.out.size))
  replace f1_0 := (hb4.cell (p := ⟨w.heap.size, 0, none⟩) (show w.heap.size < u3.heap.size from by omega)).trans f1_0
  replace f1_1 := (hb4.cell (p := ⟨w.heap.size, 1, none⟩) (show w.heap.size < u3.heap.size from by omega)).trans f1_1
  have P_4 := hide (P_3.out.below hb4)
  clear P_3
  clear hb4 B3
  rw [HR0.out]
  go_wp2_with fail
  refine (toBond_own s0 _ _ _ z0 _ k0 (W0.out.below B4.out)).mono ?_
  rintro e u5 ⟨A2, C2, rfl, ho, hb5⟩
  have e5 : u4.heap.size ≤ u5.heap.size := hb5.size
  have B5 := hide (B4.out.trans (hb5.mono B4.out.size))
  replace f1_0 := (hb5.cell (p := ⟨w.heap.size, 0, none⟩) (show w.heap.size < u4.heap.size from by omega)).trans f1_0
  replace f1_1 := (hb5.cell (p := ⟨w.heap.size, 1, none⟩) (show w.heap.size < u4.heap.size from by omega)).trans f1_1
  have P_5 := hide (P_4.out.below hb5)
  clear P_4
  clear hb5 B4
  have X_5 := hide ho
  clear ho
  obtain ⟨u6, hu6⟩ : ∃ u, u5.alloc (.cells #[.string s0, .slice A2 n0 C2] 29) = u := ⟨_, rfl⟩
  have hb6 : Below u5.heap.size u5 u6 := by rw [← hu6]; exact (Below.refl _ _).alloc (Nat.le_refl _) _
  have e6 : u5.heap.size < u6.heap.size := by rw [← hu6]; simp
  have B6 := hide (B5.out.trans (hb6.mono B5.out.size))
  replace f1_0 := (hb6.cell (p := ⟨w.heap.size, 0, none⟩) (show w.heap.size < u5.heap.size from by omega)).trans f1_0
  replace f1_1 := (hb6.cell (p := ⟨w.heap.size, 1, none⟩) (show w.heap.size < u5.heap.size from by omega)).trans f1_1
  have f6_0 : u6.cell? ⟨u5.heap.size, 0, none⟩ = some (.string s0) := by rw [← hu6]; simp [go_sem]
  have f6_1 : u6.cell? ⟨u5.heap.size, 1, none⟩ = some (.slice A2 n0 C2) := by rw [← hu6]; simp [go_sem]
  have f1_0o := f1_0
  rw [← hu6] at f1_0o
  have f1_1o := f1_1
  rw [← hu6] at f1_1o
  have f6_0o := f6_0
  rw [← hu6] at f6_0o
  have f6_1o := f6_1
  rw [← hu6] at f6_1o
  have P_6 := hide (P_5.out.below hb6)
  clear P_5
  have X_6 := hide (X_5.out.below hb6)
  clear X_5
  clear hb6 B5
  have HU6 := hide hu6
  clear hu6
  go_wp2_with fail
  rw [HU6.out]

  refine (impl_bondText s0 _ _ _ z0  _ ws0 (by omega) X_6.out.len (X_6.out.row (fun _ => rfl)) TX).mono ?_
  rintro e u7 ⟨rfl, hb7⟩
  have e7 : u6.heap.size ≤ u7.heap.size := hb7.size
  clear f1_0o f1_1o f6_0o f6_1o
  have B7 := hide (B6.out.trans (hb7.mono B6.out.size))
  replace f1_0 := (hb7.cell (p := ⟨w.heap.size, 0, none⟩) (show w.heap.size < u6.heap.size from by omega)).trans f1_0
  replace f1_1 := (hb7.cell (p := ⟨w.heap.size, 1, none⟩) (show w.heap.size < u6.heap.size from by omega)).trans f1_1
  replace f6_0 := (hb7.cell (p := ⟨u5.heap.size, 0, none⟩) (show u5.heap.size < u6.heap.size from by omega)).trans f6_0
  replace f6_1 := (hb7.cell (p := ⟨u5.heap.size, 1, none⟩) (show u5.heap.size < u6.heap.size from by omega)).trans f6_1
  have P_7 := hide (P_6.out.below hb7)
  clear P_6
  have X_7 := hide (X_6.out.below hb7)
  clear X_6
  clear hb7 B6
  rw [HR0.out]
  go_wp2
  go_region_held3 (fun w' => w'.cell? ⟨w.heap.size, 0, none⟩ = some (.string s0) ∧ w'.cell? ⟨w.heap.size, 1, none⟩ = some (.slice a0 n0 c0) ∧ w'.cell? ⟨u5.heap.size, 0, none⟩ = some (.string s0) ∧ w'.cell? ⟨u5.heap.size, 1, none⟩ = some (.slice A2 n0 C2))
    (first
      | go_keep
      | exact ⟨f1_0, f1_1, f6_0, f6_1⟩)
    (first
      | (go_at_call 13
         refine (toBond_own s0 _ _ _ z0 _ k0 (W0.out.below (by first | exact B7.out.drew | exact B7.out))).mono ?_
         rintro e y21 ⟨AZ21, CZ21, rfl, ho, hb⟩
         have hzy21 : u7.heap.size ≤ y21.heap.size := hb.size
         replace f1_0 := (hb.cell (p := ⟨w.heap.size, 0, none⟩) (show w.heap.size < _ from by first | omega | (simp; omega))).trans f1_0
         replace f1_1 := (hb.cell (p := ⟨w.heap.size, 1, none⟩) (show w.heap.size < _ from by first | omega | (simp; omega))).trans f1_1
         replace f6_0 := (hb.cell (p := ⟨u5.heap.size, 0, none⟩) (show u5.heap.size < _ from by first | omega | (simp; omega))).trans f6_0
         replace f6_1 := (hb.cell (p := ⟨u5.heap.size, 1, none⟩) (show u5.heap.size < _ from by first | omega | (simp; omega))).trans f6_1
         have hbb := (show Below u7.heap.size u7 y21 from (Below.refl _ _).drew.trans hb)
         have P_21 := hide (P_7.out.below hbb)
         clear P_7
         have X_21 := hide (X_7.out.below hbb)
         clear X_7
         have By21 := hide (B7.out.trans (hbb.mono B7.out.size))
         have Z21 := hide ho
         clear hb ho hbb)
      | (go_at_call 15
         refine (eqBond_same s0 _ _ _ _ _ z0 _ (by omega) X_21.out.len (X_21.out.row (fun _ => rfl)) (Z21.out.row (fun _ => rfl))).mono ?_
         rintro e y22 ⟨rfl, hb⟩
         have hzy22 : y21.heap.size ≤ y22.heap.size := hb.size
         replace f1_0 := (hb.cell (p := ⟨w.heap.size, 0, none⟩) (show w.heap.size < _ from by first | omega | (simp; omega))).trans f1_0
         replace f1_1 := (hb.cell (p := ⟨w.heap.size, 1, none⟩) (show w.heap.size < _ from by first | omega | (simp; omega))).trans f1_1
         replace f6_0 := (hb.cell (p := ⟨u5.heap.size, 0, none⟩) (show u5.heap.size < _ from by first | omega | (simp; omega))).trans f6_0
         replace f6_1 := (hb.cell (p := ⟨u5.heap.size, 1, none⟩) (show u5.heap.size < _ from by first | omega | (simp; omega))).trans f6_1
         have P_22 := hide (P_21.out.below hb)
         clear P_21
         have X_22 := hide (X_21.out.below hb)
         clear X_21
         have By22 := hide (By21.out.trans (hb.mono By21.out.size))
         clear hb Z21))
  go_wp2
  go_ret
  exact ⟨rfl, By22.out⟩
end Go.Proofs.Ytlokmkiicmpccaa
