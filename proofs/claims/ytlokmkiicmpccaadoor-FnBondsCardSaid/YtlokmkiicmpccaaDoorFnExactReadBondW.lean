/-
  What is proved: the law FnExactReadBond returns true and changes nothing that was there, for every input. No conditions beyond the arguments' own ranges.
-/
import Derived.Test.YtlokmkiicmpccaaDoorRead2
import Derived.Test.YtlokmkiicmpccaaDoorReadS
namespace Go.Proofs.YtlokmkiicmpccaaDoor
open Go.RowKit
set_option linter.unusedVariables false

theorem touch_cell2 {lo hi b i : Nat} {w w' : World} (h : Touch lo hi w w') (h1 : b < lo ∨ hi ≤ b) (h2 : b < w.heap.size) : w'.cell? ⟨b, i, none⟩ = w.cell? ⟨b, i, none⟩ :=
  World.cell?_of_block (h.block b h2 h1)
theorem readZ_len {t : ByteArray} : (readZ t).length ≤ 64 := by
  by_cases q : okT t = true
  · have := noBad_few (okT_iff.1 q)
    rw [readZ_ok q]
    unfold coursesL
    simp
    omega
  · rw [readZ_no (okT_false q)]
    exact Nat.zero_le _
set_option maxRecDepth 100000 in
set_option maxHeartbeats 4000000 in
theorem fnExactReadBondWalk (s0 : ByteArray) (w : World) (ws0 : s0.size ≤ maxLen) (hT : MaxLenIs w) :
    Calls Tryd.prog 4 #[.string s0] w fun e w' => e = .returned (.bool true) ∧ Below w.heap.size w w' := by
  have hMz : 1 < w.heap.size := by obtain ⟨m, hm⟩ := hT; exact cell_lt hm
  have HM := hide hT
  clear hT
  by_cases h : 1048576 < s0.size
  · have hd : decide (1048576 < (s0.size : Int)) = true := by simp; omega
    go_enter Tryd.func4, Tryd.ntmps4
    go_wp2
    go_ret
    exact ⟨rfl, Below.refl _ _⟩
  have hd : decide (1048576 < (s0.size : Int)) = false := by simp; omega
  have hs0 : s0.size ≤ 1048576 := by omega
  have hz0 := @readZ_len s0
  obtain ⟨sn, hN⟩ : ∃ r, readN s0 = r := ⟨_, rfl⟩
  obtain ⟨z0, hZ⟩ : ∃ r, readZ s0 = r := ⟨_, rfl⟩
  obtain ⟨ok, hK⟩ : ∃ r, okT s0 = r := ⟨_, rfl⟩
  obtain ⟨n0, hn⟩ : ∃ n, z0.length = n := ⟨_, rfl⟩
  rw [hZ, hn] at hz0
  have HN := hide hN
  have HZ := hide hZ
  have HK := hide hK
  have HL := hide hn
  clear hN hZ hK hn h ws0
  go_enter Tryd.func4, Tryd.ntmps4
  have B0 := hide (Below.refl w.heap.size w)
  go_wp2_with fail
  refine (spec_readBond s0 _ hs0).mono ?_
  rintro e u1 ⟨A1, C1, rfl, ho, hb1⟩
  rw [HN.out, HZ.out, HK.out, HL.out]
  rw [HZ.out, HL.out] at ho
  have e1 : w.heap.size ≤ u1.heap.size := hb1.size
  have B1 := hide (B0.out.trans (hb1.mono B0.out.size))
  clear hb1 B0
  have U_1 := hide ho
  clear ho
  obtain ⟨u2, hu2⟩ : ∃ u, u1.alloc (.cells #[.string sn, .slice A1 n0 C1] 29) = u := ⟨_, rfl⟩
  have hb2 : Below u1.heap.size u1 u2 := by rw [← hu2]; exact (Below.refl _ _).alloc (Nat.le_refl _) _
  have e2 : u1.heap.size < u2.heap.size := by rw [← hu2]; simp
  have B2 := hide (B1.out.trans (hb2.mono B1.out.size))
  have f2_0 : u2.cell? ⟨u1.heap.size, 0, none⟩ = some (.string sn) := by rw [← hu2]; simp [go_sem]
  have f2_1 : u2.cell? ⟨u1.heap.size, 1, none⟩ = some (.slice A1 n0 C1) := by rw [← hu2]; simp [go_sem]
  have f2_0o := f2_0
  rw [← hu2] at f2_0o
  have f2_1o := f2_1
  rw [← hu2] at f2_1o
  have U_2 := hide (U_1.out.below hb2)
  clear U_1
  clear hb2 B1
  have HU2 := hide hu2
  clear hu2
  go_wp2_with fail
  rw [HU2.out]

  refine (impl_readBond s0 _ hs0 (HM.out.below hMz B2.out)).mono ?_
  rintro e u3 ⟨A2, C2, rfl, ho, hb3⟩
  rw [HN.out, HZ.out, HK.out, HL.out]
  rw [HZ.out, HL.out] at ho
  have e3 : u2.heap.size ≤ u3.heap.size := hb3.size
  clear f2_0o f2_1o
  have B3 := hide (B2.out.trans (hb3.mono B2.out.size))
  replace f2_0 := (hb3.cell (p := ⟨u1.heap.size, 0, none⟩) (show u1.heap.size < u2.heap.size from by omega)).trans f2_0
  replace f2_1 := (hb3.cell (p := ⟨u1.heap.size, 1, none⟩) (show u1.heap.size < u2.heap.size from by omega)).trans f2_1
  have U_3 := hide (U_2.out.below hb3)
  clear U_2
  clear hb3 B2
  have G_3 := hide ho
  clear ho
  obtain ⟨u4, hu4⟩ : ∃ u, u3.alloc (.cells #[.string sn, .slice A2 n0 C2] 29) = u := ⟨_, rfl⟩
  have hb4 : Below u3.heap.size u3 u4 := by rw [← hu4]; exact (Below.refl _ _).alloc (Nat.le_refl _) _
  have e4 : u3.heap.size < u4.heap.size := by rw [← hu4]; simp
  have B4 := hide (B3.out.trans (hb4.mono B3.out.size))
  replace f2_0 := (hb4.cell (p := ⟨u1.heap.size, 0, none⟩) (show u1.heap.size < u3.heap.size from by omega)).trans f2_0
  replace f2_1 := (hb4.cell (p := ⟨u1.heap.size, 1, none⟩) (show u1.heap.size < u3.heap.size from by omega)).trans f2_1
  have f4_0 : u4.cell? ⟨u3.heap.size, 0, none⟩ = some (.string sn) := by rw [← hu4]; simp [go_sem]
  have f4_1 : u4.cell? ⟨u3.heap.size, 1, none⟩ = some (.slice A2 n0 C2) := by rw [← hu4]; simp [go_sem]
  have f2_0o := f2_0
  rw [← hu4] at f2_0o
  have f2_1o := f2_1
  rw [← hu4] at f2_1o
  have f4_0o := f4_0
  rw [← hu4] at f4_0o
  have f4_1o := f4_1
  rw [← hu4] at f4_1o
  have U_4 := hide (U_3.out.below hb4)
  clear U_3
  have G_4 := hide (G_3.out.below hb4)
  clear G_3
  clear hb4 B3
  have HU4 := hide hu4
  clear hu4
  go_wp2_with fail
  rw [HU4.out]

  refine (eqBond_same sn _ _ _ _ _ z0 _ (by omega) HL.out (G_4.out.row (fun _ => rfl)) (U_4.out.row (fun _ => rfl))).mono ?_
  rintro e u5 ⟨rfl, hb5⟩
  have e5 : u4.heap.size ≤ u5.heap.size := hb5.size
  clear f2_0o f2_1o f4_0o f4_1o
  have B5 := hide (B4.out.trans (hb5.mono B4.out.size))
  replace f2_0 := (hb5.cell (p := ⟨u1.heap.size, 0, none⟩) (show u1.heap.size < u4.heap.size from by omega)).trans f2_0
  replace f2_1 := (hb5.cell (p := ⟨u1.heap.size, 1, none⟩) (show u1.heap.size < u4.heap.size from by omega)).trans f2_1
  replace f4_0 := (hb5.cell (p := ⟨u3.heap.size, 0, none⟩) (show u3.heap.size < u4.heap.size from by omega)).trans f4_0
  replace f4_1 := (hb5.cell (p := ⟨u3.heap.size, 1, none⟩) (show u3.heap.size < u4.heap.size from by omega)).trans f4_1
  have U_5 := hide (U_4.out.below hb5)
  clear U_4
  have G_5 := hide (G_4.out.below hb5)
  clear G_4
  clear hb5 B4
  cases ok
  all_goals
    go_wp2_with fail
    refine (markBond_own sn _ _ _ _ _ 1 z0 _ (by omega) (by omega) (by omega) G_5.out).mono ?_
    rintro e u6 ⟨rfl, ho, hb6⟩
    have e6 : u5.heap.size ≤ u6.heap.size := hb6.size
    have B6 := hide (B5.out.trans (hb6.below (by have := B5.out.size; omega) B5.out.size))
    replace f2_0 := (touch_cell2 (b := u1.heap.size) hb6 (by omega) (show u1.heap.size < _ from by omega)).trans f2_0
    replace f2_1 := (touch_cell2 (b := u1.heap.size) hb6 (by omega) (show u1.heap.size < _ from by omega)).trans f2_1
    replace f4_0 := (touch_cell2 (b := u3.heap.size) hb6 (by omega) (show u3.heap.size < _ from by omega)).trans f4_0
    replace f4_1 := (touch_cell2 (b := u3.heap.size) hb6 (by omega) (show u3.heap.size < _ from by omega)).trans f4_1
    have U_6 := hide (U_5.out.touch hb6 (by omega))
    clear U_5
    clear hb6 B5 G_5
    have G_6 := hide ho
    clear ho
    have dm : decide ((1:Int) + 2 * (n0 : Int) < 0) = false := by simp; omega
    go_wp2_with fail
    refine (heldBond_ok sn _ _ _ 1 _ (by omega) (by omega) (by omega) (G_6.out.row (fun _ => rfl))).mono ?_
    rintro e u7 ⟨rfl, hb7⟩
    have e7 : u6.heap.size ≤ u7.heap.size := hb7.size
    have B7 := hide (B6.out.trans (hb7.mono B6.out.size))
    replace f2_0 := (hb7.cell (p := ⟨u1.heap.size, 0, none⟩) (show u1.heap.size < u6.heap.size from by omega)).trans f2_0
    replace f2_1 := (hb7.cell (p := ⟨u1.heap.size, 1, none⟩) (show u1.heap.size < u6.heap.size from by omega)).trans f2_1
    replace f4_0 := (hb7.cell (p := ⟨u3.heap.size, 0, none⟩) (show u3.heap.size < u6.heap.size from by omega)).trans f4_0
    replace f4_1 := (hb7.cell (p := ⟨u3.heap.size, 1, none⟩) (show u3.heap.size < u6.heap.size from by omega)).trans f4_1
    have U_7 := hide (U_6.out.below hb7)
    clear U_6
    have G_7 := hide (G_6.out.below hb7)
    clear G_6
    clear hb7 B6
    go_wp2_with fail
    refine (impl_readBond s0 _ hs0 (HM.out.below hMz B7.out)).mono ?_
    rintro e u8 ⟨A3, C3, rfl, ho, hb8⟩
    rw [HN.out, HZ.out, HK.out, HL.out]
    rw [HZ.out, HL.out] at ho
    have e8 : u7.heap.size ≤ u8.heap.size := hb8.size
    have B8 := hide (B7.out.trans (hb8.mono B7.out.size))
    replace f2_0 := (hb8.cell (p := ⟨u1.heap.size, 0, none⟩) (show u1.heap.size < u7.heap.size from by omega)).trans f2_0
    replace f2_1 := (hb8.cell (p := ⟨u1.heap.size, 1, none⟩) (show u1.heap.size < u7.heap.size from by omega)).trans f2_1
    replace f4_0 := (hb8.cell (p := ⟨u3.heap.size, 0, none⟩) (show u3.heap.size < u7.heap.size from by omega)).trans f4_0
    replace f4_1 := (hb8.cell (p := ⟨u3.heap.size, 1, none⟩) (show u3.heap.size < u7.heap.size from by omega)).trans f4_1
    have U_8 := hide (U_7.out.below hb8)
    clear U_7
    have G_8 := hide (G_7.out.below hb8)
    clear G_7
    clear hb8 B7
    have H_8 := hide ho
    clear ho
    obtain ⟨u9, hu9⟩ : ∃ u, u8.alloc (.cells #[.string sn, .slice A3 n0 C3] 29) = u := ⟨_, rfl⟩
    have hb9 : Below u8.heap.size u8 u9 := by rw [← hu9]; exact (Below.refl _ _).alloc (Nat.le_refl _) _
    have e9 : u8.heap.size < u9.heap.size := by rw [← hu9]; simp
    have B9 := hide (B8.out.trans (hb9.mono B8.out.size))
    replace f2_0 := (hb9.cell (p := ⟨u1.heap.size, 0, none⟩) (show u1.heap.size < u8.heap.size from by omega)).trans f2_0
    replace f2_1 := (hb9.cell (p := ⟨u1.heap.size, 1, none⟩) (show u1.heap.size < u8.heap.size from by omega)).trans f2_1
    replace f4_0 := (hb9.cell (p := ⟨u3.heap.size, 0, none⟩) (show u3.heap.size < u8.heap.size from by omega)).trans f4_0
    replace f4_1 := (hb9.cell (p := ⟨u3.heap.size, 1, none⟩) (show u3.heap.size < u8.heap.size from by omega)).trans f4_1
    have f9_0 : u9.cell? ⟨u8.heap.size, 0, none⟩ = some (.string sn) := by rw [← hu9]; simp [go_sem]
    have f9_1 : u9.cell? ⟨u8.heap.size, 1, none⟩ = some (.slice A3 n0 C3) := by rw [← hu9]; simp [go_sem]
    have f2_0o := f2_0
    rw [← hu9] at f2_0o
    have f2_1o := f2_1
    rw [← hu9] at f2_1o
    have f4_0o := f4_0
    rw [← hu9] at f4_0o
    have f4_1o := f4_1
    rw [← hu9] at f4_1o
    have f9_0o := f9_0
    rw [← hu9] at f9_0o
    have f9_1o := f9_1
    rw [← hu9] at f9_1o
    have U_9 := hide (U_8.out.below hb9)
    clear U_8
    have G_9 := hide (G_8.out.below hb9)
    clear G_8
    have H_9 := hide (H_8.out.below hb9)
    clear H_8
    clear hb9 B8
    have HU9 := hide hu9
    clear hu9
    go_wp2_with fail
    rw [HU9.out]

    refine (eqBond_same sn _ _ _ _ _ z0 _ (by omega) HL.out (H_9.out.row (fun _ => rfl)) (U_9.out.row (fun _ => rfl))).mono ?_
    rintro e u10 ⟨rfl, hb10⟩
    have e10 : u9.heap.size ≤ u10.heap.size := hb10.size
    clear f2_0o f2_1o f4_0o f4_1o f9_0o f9_1o
    have B10 := hide (B9.out.trans (hb10.mono B9.out.size))
    replace f2_0 := (hb10.cell (p := ⟨u1.heap.size, 0, none⟩) (show u1.heap.size < u9.heap.size from by omega)).trans f2_0
    replace f2_1 := (hb10.cell (p := ⟨u1.heap.size, 1, none⟩) (show u1.heap.size < u9.heap.size from by omega)).trans f2_1
    replace f4_0 := (hb10.cell (p := ⟨u3.heap.size, 0, none⟩) (show u3.heap.size < u9.heap.size from by omega)).trans f4_0
    replace f4_1 := (hb10.cell (p := ⟨u3.heap.size, 1, none⟩) (show u3.heap.size < u9.heap.size from by omega)).trans f4_1
    replace f9_0 := (hb10.cell (p := ⟨u8.heap.size, 0, none⟩) (show u8.heap.size < u9.heap.size from by omega)).trans f9_0
    replace f9_1 := (hb10.cell (p := ⟨u8.heap.size, 1, none⟩) (show u8.heap.size < u9.heap.size from by omega)).trans f9_1
    have U_10 := hide (U_9.out.below hb10)
    clear U_9
    have G_10 := hide (G_9.out.below hb10)
    clear G_9
    have H_10 := hide (H_9.out.below hb10)
    clear H_9
    clear hb10 B9
    go_wp2_with fail
    refine (heldBond_ok sn _ _ _ 1 _ (by omega) (by omega) (by omega) (G_10.out.row (fun _ => rfl))).mono ?_
    rintro e u11 ⟨rfl, hb11⟩
    have e11 : u10.heap.size ≤ u11.heap.size := hb11.size
    have B11 := hide (B10.out.trans (hb11.mono B10.out.size))
    replace f2_0 := (hb11.cell (p := ⟨u1.heap.size, 0, none⟩) (show u1.heap.size < u10.heap.size from by omega)).trans f2_0
    replace f2_1 := (hb11.cell (p := ⟨u1.heap.size, 1, none⟩) (show u1.heap.size < u10.heap.size from by omega)).trans f2_1
    replace f4_0 := (hb11.cell (p := ⟨u3.heap.size, 0, none⟩) (show u3.heap.size < u10.heap.size from by omega)).trans f4_0
    replace f4_1 := (hb11.cell (p := ⟨u3.heap.size, 1, none⟩) (show u3.heap.size < u10.heap.size from by omega)).trans f4_1
    replace f9_0 := (hb11.cell (p := ⟨u8.heap.size, 0, none⟩) (show u8.heap.size < u10.heap.size from by omega)).trans f9_0
    replace f9_1 := (hb11.cell (p := ⟨u8.heap.size, 1, none⟩) (show u8.heap.size < u10.heap.size from by omega)).trans f9_1
    have U_11 := hide (U_10.out.below hb11)
    clear U_10
    have G_11 := hide (G_10.out.below hb11)
    clear G_10
    have H_11 := hide (H_10.out.below hb11)
    clear H_10
    clear hb11 B10
    go_wp2
    go_ret
    exact ⟨rfl, B11.out⟩
end Go.Proofs.YtlokmkiicmpccaaDoor
