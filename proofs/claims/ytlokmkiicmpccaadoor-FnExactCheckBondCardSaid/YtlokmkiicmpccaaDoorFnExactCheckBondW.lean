/-
  What is proved: the law FnExactCheckBond returns true and changes nothing that was there, for every input. No conditions beyond the arguments' own ranges.
-/
import Derived.Test.YtlokmkiicmpccaaDoorCheckS
import Derived.Test.YtlokmkiicmpccaaDoorProbS
import Derived.Test.YtlokmkiicmpccaaDoorFnExactReadBondW
namespace Go.Proofs.YtlokmkiicmpccaaDoor
open Go.RowKit
set_option linter.unusedVariables false

theorem badsP_len (t : ByteArray) : (badsP t).length ≤ 401 := by
  unfold badsP
  split
  · exact Nat.zero_le _
  · have h1 := badTo_len (spl 32 t.data.toList) (spl 32 t.data.toList).length
    have h2 := spl_count 32 t.data.toList
    rw [data_size] at h2
    unfold bads
    omega
set_option maxRecDepth 100000 in
set_option maxHeartbeats 4000000 in
theorem fnExactCheckBondWalk (s0 : ByteArray) (w : World) (ws0 : s0.size ≤ maxLen) (hT : MaxLenIs w) :
    Calls Tryd.prog 6 #[.string s0] w fun e w' => e = .returned (.bool true) ∧ Below w.heap.size w w' := by
  have hMz : 1 < w.heap.size := by obtain ⟨m, hm⟩ := hT; exact cell_lt hm
  have HM := hide hT
  clear hT
  by_cases h : 1048576 < s0.size
  · have hd : decide (1048576 < (s0.size : Int)) = true := by simp; omega
    go_enter Tryd.func6, Tryd.ntmps6
    go_wp2
    go_ret
    exact ⟨rfl, Below.refl _ _⟩
  have hd : decide (1048576 < (s0.size : Int)) = false := by simp; omega
  have hs0 : s0.size ≤ 1048576 := by omega
  have hz0 := @readZ_len s0
  have hp0 := badsP_len s0
  obtain ⟨sn, hN⟩ : ∃ r, readN s0 = r := ⟨_, rfl⟩
  obtain ⟨z0, hZ⟩ : ∃ r, readZ s0 = r := ⟨_, rfl⟩
  obtain ⟨p0, hP⟩ : ∃ r, badsP s0 = r := ⟨_, rfl⟩
  obtain ⟨er, hE⟩ : ∃ r : Int, (if 400 < s0.size then (5 : Int) else 0) = r := ⟨_, rfl⟩
  obtain ⟨n0, hn⟩ : ∃ n, z0.length = n := ⟨_, rfl⟩
  obtain ⟨m0, hm⟩ : ∃ n, p0.length = n := ⟨_, rfl⟩
  rw [hZ, hn] at hz0
  rw [hP, hm] at hp0
  have HN := hide hN
  have HZ := hide hZ
  have HP := hide hP
  have HE := hide hE
  have HL := hide hn
  have HK := hide hm
  clear hN hZ hP hE hn hm h ws0
  have hee : (er != er) = false := by simp
  go_enter Tryd.func6, Tryd.ntmps6
  have B0 := hide (Below.refl w.heap.size w)
  go_wp2_with fail
  refine (spec_checkBond s0 _ hs0).mono ?_
  rintro e u1 ⟨A1, C1, D1, E1, rfl, ho, hp, hb1⟩
  rw [HN.out, HZ.out, HP.out, HE.out, HL.out, HK.out]
  rw [HZ.out, HL.out] at ho
  rw [HP.out, HK.out] at hp
  have e1 : w.heap.size ≤ u1.heap.size := hb1.size
  have B1 := hide (B0.out.trans (hb1.mono B0.out.size))
  clear hb1 B0
  have U_1 := hide ho
  clear ho
  have UP_1 := hide hp
  clear hp
  obtain ⟨u2, hu2⟩ : ∃ u, u1.alloc (.cells #[.string sn, .slice A1 n0 C1] 29) = u := ⟨_, rfl⟩
  have hb2 : Below u1.heap.size u1 u2 := by rw [← hu2]; exact (Below.refl _ _).alloc (Nat.le_refl _) _
  have e2 : u1.heap.size < u2.heap.size := by rw [← hu2]; simp
  have B2 := hide (B1.out.trans (hb2.mono B1.out.size))
  have f2_0 : u2.cell? ⟨u1.heap.size, 0, none⟩ = some (.string sn) := by rw [← hu2]; simp [go_sem]
  have f2_1 : u2.cell? ⟨u1.heap.size, 1, none⟩ = some (.slice A1 n0 C1) := by rw [← hu2]; simp [go_sem]
  have f2_0o := f2_0
  rw [← hu2] at f2_0o
  have f2_1o := f2_1
  rw [← hu2] at f2_1o
  have U_2 := hide (U_1.out.below hb2)
  clear U_1
  have UP_2 := hide (UP_1.out.below hb2)
  clear UP_1
  clear hb2 B1
  have HU2 := hide hu2
  clear hu2
  go_wp2_with fail
  rw [HU2.out]

  refine (impl_checkBond s0 _ hs0 (HM.out.below hMz B2.out)).mono ?_
  rintro e u3 ⟨M2, A2, C2, D2, E2, hl2, hh2, rfl, ho, hp, hb3⟩
  rw [HN.out, HZ.out, HP.out, HE.out, HL.out, HK.out]
  rw [HZ.out, HL.out] at ho
  rw [HP.out, HK.out] at hp
  have e3 : u2.heap.size ≤ u3.heap.size := hb3.size
  clear f2_0o f2_1o
  have B3 := hide (B2.out.trans (hb3.mono B2.out.size))
  replace f2_0 := (hb3.cell (p := ⟨u1.heap.size, 0, none⟩) (show u1.heap.size < u2.heap.size from by omega)).trans f2_0
  replace f2_1 := (hb3.cell (p := ⟨u1.heap.size, 1, none⟩) (show u1.heap.size < u2.heap.size from by omega)).trans f2_1
  have U_3 := hide (U_2.out.below hb3)
  clear U_2
  have UP_3 := hide (UP_2.out.below hb3)
  clear UP_2
  clear hb3 B2
  have G_3 := hide ho
  clear ho
  have GP_3 := hide hp
  clear hp
  obtain ⟨u4, hu4⟩ : ∃ u, u3.alloc (.cells #[.string sn, .slice A2 n0 C2] 29) = u := ⟨_, rfl⟩
  have hb4 : Below u3.heap.size u3 u4 := by rw [← hu4]; exact (Below.refl _ _).alloc (Nat.le_refl _) _
  have e4 : u3.heap.size < u4.heap.size := by rw [← hu4]; simp
  have B4 := hide (B3.out.trans (hb4.mono B3.out.size))
  replace f2_0 := (hb4.cell (p := ⟨u1.heap.size, 0, none⟩) (show u1.heap.size < u3.heap.size from by omega)).trans f2_0
  replace f2_1 := (hb4.cell (p := ⟨u1.heap.size, 1, none⟩) (show u1.heap.size < u3.heap.size from by omega)).trans f2_1
  have f4_0 : u4.cell? ⟨u3.heap.size, 0, none⟩ = some (.string sn) := by rw [← hu4]; simp [go_sem]
  have f4_1 : u4.cell? ⟨u3.heap.size, 1, none⟩ = some (.slice A2 n0 C2) := by rw [← hu4]; simp [go_sem]
  have f2_0o := f2_0
  rw [← hu4] at f2_0o
  have f2_1o := f2_1
  rw [← hu4] at f2_1o
  have f4_0o := f4_0
  rw [← hu4] at f4_0o
  have f4_1o := f4_1
  rw [← hu4] at f4_1o
  have U_4 := hide (U_3.out.below hb4)
  clear U_3
  have UP_4 := hide (UP_3.out.below hb4)
  clear UP_3
  have G_4 := hide (G_3.out.below hb4)
  clear G_3
  have GP_4 := hide (GP_3.out.below hb4)
  clear GP_3
  clear hb4 B3
  have HU4 := hide hu4
  clear hu4
  go_wp2_with fail
  rw [HU4.out]

  refine (eqBond_same sn _ _ _ _ _ z0 _ (by omega) HL.out (G_4.out.row (fun _ => rfl)) (U_4.out.row (fun _ => rfl))).mono ?_
  rintro e u5 ⟨rfl, hb5⟩
  have e5 : u4.heap.size ≤ u5.heap.size := hb5.size
  clear f2_0o f2_1o f4_0o f4_1o
  have B5 := hide (B4.out.trans (hb5.mono B4.out.size))
  replace f2_0 := (hb5.cell (p := ⟨u1.heap.size, 0, none⟩) (show u1.heap.size < u4.heap.size from by omega)).trans f2_0
  replace f2_1 := (hb5.cell (p := ⟨u1.heap.size, 1, none⟩) (show u1.heap.size < u4.heap.size from by omega)).trans f2_1
  replace f4_0 := (hb5.cell (p := ⟨u3.heap.size, 0, none⟩) (show u3.heap.size < u4.heap.size from by omega)).trans f4_0
  replace f4_1 := (hb5.cell (p := ⟨u3.heap.size, 1, none⟩) (show u3.heap.size < u4.heap.size from by omega)).trans f4_1
  have U_5 := hide (U_4.out.below hb5)
  clear U_4
  have UP_5 := hide (UP_4.out.below hb5)
  clear UP_4
  have G_5 := hide (G_4.out.below hb5)
  clear G_4
  have GP_5 := hide (GP_4.out.below hb5)
  clear GP_4
  clear hb5 B4
  go_wp2_with fail
  refine (eqProblemS_same _ _ _ _ _ p0 _ (by omega) HK.out (GP_5.out.row (fun _ => rfl)) (UP_5.out.row (fun _ => rfl))).mono ?_
  rintro e u6 ⟨rfl, hb6⟩
  have e6 : u5.heap.size ≤ u6.heap.size := hb6.size
  have B6 := hide (B5.out.trans (hb6.mono B5.out.size))
  replace f2_0 := (hb6.cell (p := ⟨u1.heap.size, 0, none⟩) (show u1.heap.size < u5.heap.size from by omega)).trans f2_0
  replace f2_1 := (hb6.cell (p := ⟨u1.heap.size, 1, none⟩) (show u1.heap.size < u5.heap.size from by omega)).trans f2_1
  replace f4_0 := (hb6.cell (p := ⟨u3.heap.size, 0, none⟩) (show u3.heap.size < u5.heap.size from by omega)).trans f4_0
  replace f4_1 := (hb6.cell (p := ⟨u3.heap.size, 1, none⟩) (show u3.heap.size < u5.heap.size from by omega)).trans f4_1
  have U_6 := hide (U_5.out.below hb6)
  clear U_5
  have UP_6 := hide (UP_5.out.below hb6)
  clear UP_5
  have G_6 := hide (G_5.out.below hb6)
  clear G_5
  have GP_6 := hide (GP_5.out.below hb6)
  clear GP_5
  clear hb6 B5
  go_wp2_with fail
  refine (markBond_own sn _ _ _ _ _ 1 z0 _ (by omega) (by omega) (by omega) G_6.out).mono ?_
  rintro e u7 ⟨rfl, ho, hb7⟩
  have e7 : u6.heap.size ≤ u7.heap.size := hb7.size
  have B7 := hide (B6.out.trans (hb7.below (by have := B6.out.size; omega) B6.out.size))
  replace f2_0 := (touch_cell2 (b := u1.heap.size) hb7 (by omega) (show u1.heap.size < _ from by omega)).trans f2_0
  replace f2_1 := (touch_cell2 (b := u1.heap.size) hb7 (by omega) (show u1.heap.size < _ from by omega)).trans f2_1
  replace f4_0 := (touch_cell2 (b := u3.heap.size) hb7 (by omega) (show u3.heap.size < _ from by omega)).trans f4_0
  replace f4_1 := (touch_cell2 (b := u3.heap.size) hb7 (by omega) (show u3.heap.size < _ from by omega)).trans f4_1
  have U_7 := hide (U_6.out.touch hb7 (by omega))
  clear U_6
  have UP_7 := hide (UP_6.out.touch hb7 (by omega))
  clear UP_6
  have GP_7 := hide (GP_6.out.touch hb7 (by omega))
  clear GP_6
  clear hb7 B6 G_6
  have G_7 := hide ho
  clear ho
  go_wp2_with fail
  refine (markProblemS_own _ _ _ _ _ (1 + 2 * (n0 : Int)) p0 _ (by omega) (by omega) (by omega) GP_7.out).mono ?_
  rintro e u8 ⟨rfl, ho, hb8⟩
  have e8 : u7.heap.size ≤ u8.heap.size := hb8.size
  have B8 := hide (B7.out.trans (hb8.below (by have := B7.out.size; omega) B7.out.size))
  replace f2_0 := (touch_cell2 (b := u1.heap.size) hb8 (by omega) (show u1.heap.size < _ from by omega)).trans f2_0
  replace f2_1 := (touch_cell2 (b := u1.heap.size) hb8 (by omega) (show u1.heap.size < _ from by omega)).trans f2_1
  replace f4_0 := (touch_cell2 (b := u3.heap.size) hb8 (by omega) (show u3.heap.size < _ from by omega)).trans f4_0
  replace f4_1 := (touch_cell2 (b := u3.heap.size) hb8 (by omega) (show u3.heap.size < _ from by omega)).trans f4_1
  have U_8 := hide (U_7.out.touch hb8 (by omega))
  clear U_7
  have UP_8 := hide (UP_7.out.touch hb8 (by omega))
  clear UP_7
  have G_8 := hide (G_7.out.touch hb8 (by omega))
  clear G_7
  clear hb8 B7 GP_7
  have GP_8 := hide ho
  clear ho
  have dm : decide ((1:Int) + 2 * (n0 : Int) < 0) = false := by simp; omega
  have dm2 : decide ((1:Int) + 2 * (n0 : Int) + 2 * (m0 : Int) < 0) = false := by simp; omega
  go_wp2_with fail
  refine (heldBond_ok sn _ _ _ 1 _ (by omega) (by omega) (by omega) (G_8.out.row (fun _ => rfl))).mono ?_
  rintro e u9 ⟨rfl, hb9⟩
  have e9 : u8.heap.size ≤ u9.heap.size := hb9.size
  have B9 := hide (B8.out.trans (hb9.mono B8.out.size))
  replace f2_0 := (hb9.cell (p := ⟨u1.heap.size, 0, none⟩) (show u1.heap.size < u8.heap.size from by omega)).trans f2_0
  replace f2_1 := (hb9.cell (p := ⟨u1.heap.size, 1, none⟩) (show u1.heap.size < u8.heap.size from by omega)).trans f2_1
  replace f4_0 := (hb9.cell (p := ⟨u3.heap.size, 0, none⟩) (show u3.heap.size < u8.heap.size from by omega)).trans f4_0
  replace f4_1 := (hb9.cell (p := ⟨u3.heap.size, 1, none⟩) (show u3.heap.size < u8.heap.size from by omega)).trans f4_1
  have U_9 := hide (U_8.out.below hb9)
  clear U_8
  have UP_9 := hide (UP_8.out.below hb9)
  clear UP_8
  have G_9 := hide (G_8.out.below hb9)
  clear G_8
  have GP_9 := hide (GP_8.out.below hb9)
  clear GP_8
  clear hb9 B8
  go_wp2_with fail
  refine (heldProblemS_ok _ _ _ (1 + 2 * (n0 : Int)) _ (by omega) (by omega) (by omega) (GP_9.out.row (fun _ => rfl))).mono ?_
  rintro e u10 ⟨rfl, rfl⟩
  go_wp2_with fail
  refine (impl_checkBond s0 _ hs0 (HM.out.below hMz B9.out)).mono ?_
  rintro e u11 ⟨M3, A3, C3, D3, E3, hl3, hh3, rfl, ho, hp, hb11⟩
  rw [HN.out, HZ.out, HP.out, HE.out, HL.out, HK.out]
  rw [HZ.out, HL.out] at ho
  rw [HP.out, HK.out] at hp
  have e11 : u9.heap.size ≤ u11.heap.size := hb11.size
  have B11 := hide (B9.out.trans (hb11.mono B9.out.size))
  replace f2_0 := (hb11.cell (p := ⟨u1.heap.size, 0, none⟩) (show u1.heap.size < u9.heap.size from by omega)).trans f2_0
  replace f2_1 := (hb11.cell (p := ⟨u1.heap.size, 1, none⟩) (show u1.heap.size < u9.heap.size from by omega)).trans f2_1
  replace f4_0 := (hb11.cell (p := ⟨u3.heap.size, 0, none⟩) (show u3.heap.size < u9.heap.size from by omega)).trans f4_0
  replace f4_1 := (hb11.cell (p := ⟨u3.heap.size, 1, none⟩) (show u3.heap.size < u9.heap.size from by omega)).trans f4_1
  have U_11 := hide (U_9.out.below hb11)
  clear U_9
  have UP_11 := hide (UP_9.out.below hb11)
  clear UP_9
  have G_11 := hide (G_9.out.below hb11)
  clear G_9
  have GP_11 := hide (GP_9.out.below hb11)
  clear GP_9
  clear hb11 B9
  have H_11 := hide ho
  clear ho
  have HP_11 := hide hp
  clear hp
  obtain ⟨u12, hu12⟩ : ∃ u, u11.alloc (.cells #[.string sn, .slice A3 n0 C3] 29) = u := ⟨_, rfl⟩
  have hb12 : Below u11.heap.size u11 u12 := by rw [← hu12]; exact (Below.refl _ _).alloc (Nat.le_refl _) _
  have e12 : u11.heap.size < u12.heap.size := by rw [← hu12]; simp
  have B12 := hide (B11.out.trans (hb12.mono B11.out.size))
  replace f2_0 := (hb12.cell (p := ⟨u1.heap.size, 0, none⟩) (show u1.heap.size < u11.heap.size from by omega)).trans f2_0
  replace f2_1 := (hb12.cell (p := ⟨u1.heap.size, 1, none⟩) (show u1.heap.size < u11.heap.size from by omega)).trans f2_1
  replace f4_0 := (hb12.cell (p := ⟨u3.heap.size, 0, none⟩) (show u3.heap.size < u11.heap.size from by omega)).trans f4_0
  replace f4_1 := (hb12.cell (p := ⟨u3.heap.size, 1, none⟩) (show u3.heap.size < u11.heap.size from by omega)).trans f4_1
  have f12_0 : u12.cell? ⟨u11.heap.size, 0, none⟩ = some (.string sn) := by rw [← hu12]; simp [go_sem]
  have f12_1 : u12.cell? ⟨u11.heap.size, 1, none⟩ = some (.slice A3 n0 C3) := by rw [← hu12]; simp [go_sem]
  have f2_0o := f2_0
  rw [← hu12] at f2_0o
  have f2_1o := f2_1
  rw [← hu12] at f2_1o
  have f4_0o := f4_0
  rw [← hu12] at f4_0o
  have f4_1o := f4_1
  rw [← hu12] at f4_1o
  have f12_0o := f12_0
  rw [← hu12] at f12_0o
  have f12_1o := f12_1
  rw [← hu12] at f12_1o
  have U_12 := hide (U_11.out.below hb12)
  clear U_11
  have UP_12 := hide (UP_11.out.below hb12)
  clear UP_11
  have G_12 := hide (G_11.out.below hb12)
  clear G_11
  have GP_12 := hide (GP_11.out.below hb12)
  clear GP_11
  have H_12 := hide (H_11.out.below hb12)
  clear H_11
  have HP_12 := hide (HP_11.out.below hb12)
  clear HP_11
  clear hb12 B11
  have HU12 := hide hu12
  clear hu12
  go_wp2_with fail
  rw [HU12.out]

  refine (eqBond_same sn _ _ _ _ _ z0 _ (by omega) HL.out (H_12.out.row (fun _ => rfl)) (U_12.out.row (fun _ => rfl))).mono ?_
  rintro e u13 ⟨rfl, hb13⟩
  have e13 : u12.heap.size ≤ u13.heap.size := hb13.size
  clear f2_0o f2_1o f4_0o f4_1o f12_0o f12_1o
  have B13 := hide (B12.out.trans (hb13.mono B12.out.size))
  replace f2_0 := (hb13.cell (p := ⟨u1.heap.size, 0, none⟩) (show u1.heap.size < u12.heap.size from by omega)).trans f2_0
  replace f2_1 := (hb13.cell (p := ⟨u1.heap.size, 1, none⟩) (show u1.heap.size < u12.heap.size from by omega)).trans f2_1
  replace f4_0 := (hb13.cell (p := ⟨u3.heap.size, 0, none⟩) (show u3.heap.size < u12.heap.size from by omega)).trans f4_0
  replace f4_1 := (hb13.cell (p := ⟨u3.heap.size, 1, none⟩) (show u3.heap.size < u12.heap.size from by omega)).trans f4_1
  replace f12_0 := (hb13.cell (p := ⟨u11.heap.size, 0, none⟩) (show u11.heap.size < u12.heap.size from by omega)).trans f12_0
  replace f12_1 := (hb13.cell (p := ⟨u11.heap.size, 1, none⟩) (show u11.heap.size < u12.heap.size from by omega)).trans f12_1
  have U_13 := hide (U_12.out.below hb13)
  clear U_12
  have UP_13 := hide (UP_12.out.below hb13)
  clear UP_12
  have G_13 := hide (G_12.out.below hb13)
  clear G_12
  have GP_13 := hide (GP_12.out.below hb13)
  clear GP_12
  have H_13 := hide (H_12.out.below hb13)
  clear H_12
  have HP_13 := hide (HP_12.out.below hb13)
  clear HP_12
  clear hb13 B12
  go_wp2_with fail
  refine (eqProblemS_same _ _ _ _ _ p0 _ (by omega) HK.out (HP_13.out.row (fun _ => rfl)) (UP_13.out.row (fun _ => rfl))).mono ?_
  rintro e u14 ⟨rfl, hb14⟩
  have e14 : u13.heap.size ≤ u14.heap.size := hb14.size
  have B14 := hide (B13.out.trans (hb14.mono B13.out.size))
  replace f2_0 := (hb14.cell (p := ⟨u1.heap.size, 0, none⟩) (show u1.heap.size < u13.heap.size from by omega)).trans f2_0
  replace f2_1 := (hb14.cell (p := ⟨u1.heap.size, 1, none⟩) (show u1.heap.size < u13.heap.size from by omega)).trans f2_1
  replace f4_0 := (hb14.cell (p := ⟨u3.heap.size, 0, none⟩) (show u3.heap.size < u13.heap.size from by omega)).trans f4_0
  replace f4_1 := (hb14.cell (p := ⟨u3.heap.size, 1, none⟩) (show u3.heap.size < u13.heap.size from by omega)).trans f4_1
  replace f12_0 := (hb14.cell (p := ⟨u11.heap.size, 0, none⟩) (show u11.heap.size < u13.heap.size from by omega)).trans f12_0
  replace f12_1 := (hb14.cell (p := ⟨u11.heap.size, 1, none⟩) (show u11.heap.size < u13.heap.size from by omega)).trans f12_1
  have U_14 := hide (U_13.out.below hb14)
  clear U_13
  have UP_14 := hide (UP_13.out.below hb14)
  clear UP_13
  have G_14 := hide (G_13.out.below hb14)
  clear G_13
  have GP_14 := hide (GP_13.out.below hb14)
  clear GP_13
  have H_14 := hide (H_13.out.below hb14)
  clear H_13
  have HP_14 := hide (HP_13.out.below hb14)
  clear HP_13
  clear hb14 B13
  go_wp2_with fail
  refine (heldBond_ok sn _ _ _ 1 _ (by omega) (by omega) (by omega) (G_14.out.row (fun _ => rfl))).mono ?_
  rintro e u15 ⟨rfl, hb15⟩
  have e15 : u14.heap.size ≤ u15.heap.size := hb15.size
  have B15 := hide (B14.out.trans (hb15.mono B14.out.size))
  replace f2_0 := (hb15.cell (p := ⟨u1.heap.size, 0, none⟩) (show u1.heap.size < u14.heap.size from by omega)).trans f2_0
  replace f2_1 := (hb15.cell (p := ⟨u1.heap.size, 1, none⟩) (show u1.heap.size < u14.heap.size from by omega)).trans f2_1
  replace f4_0 := (hb15.cell (p := ⟨u3.heap.size, 0, none⟩) (show u3.heap.size < u14.heap.size from by omega)).trans f4_0
  replace f4_1 := (hb15.cell (p := ⟨u3.heap.size, 1, none⟩) (show u3.heap.size < u14.heap.size from by omega)).trans f4_1
  replace f12_0 := (hb15.cell (p := ⟨u11.heap.size, 0, none⟩) (show u11.heap.size < u14.heap.size from by omega)).trans f12_0
  replace f12_1 := (hb15.cell (p := ⟨u11.heap.size, 1, none⟩) (show u11.heap.size < u14.heap.size from by omega)).trans f12_1
  have U_15 := hide (U_14.out.below hb15)
  clear U_14
  have UP_15 := hide (UP_14.out.below hb15)
  clear UP_14
  have G_15 := hide (G_14.out.below hb15)
  clear G_14
  have GP_15 := hide (GP_14.out.below hb15)
  clear GP_14
  have H_15 := hide (H_14.out.below hb15)
  clear H_14
  have HP_15 := hide (HP_14.out.below hb15)
  clear HP_14
  clear hb15 B14
  go_wp2_with fail
  refine (heldProblemS_ok _ _ _ (1 + 2 * (n0 : Int)) _ (by omega) (by omega) (by omega) (GP_15.out.row (fun _ => rfl))).mono ?_
  rintro e u16 ⟨rfl, rfl⟩
  go_wp2
  go_ret
  exact ⟨rfl, B15.out⟩
end Go.Proofs.YtlokmkiicmpccaaDoor
