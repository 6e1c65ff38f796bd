/-
  What is proved: the law FnFormats returns true and changes nothing that was there, for every input. Conditions: the library's own variables hold what they are laid with.
-/
import Derived.Test.YtjoepnmmcagggaaDoorReadFI
import Derived.Test.YtjoepnmmcagggaaDoorFmtP
import Derived.Test.YtjoepnmmcagggaaDoorA2
import Derived.Test.YtjoepnmmcagggaaDoorPiece
import Derived.Test.YtjoepnmmcagggaaDoorL02c
import Derived.Test.YtjoepnmmcagggaaDoorL02d
namespace Go.Proofs.YtjoepnmmcagggaaDoor
open Go.RowKit
set_option linter.unusedVariables false

theorem quad_is {o : Option (Int × Int × Int × Int)} {w w' : World} {e : Ending} {x y z j : Int} (h : QuadPost o w e w') (ho : o = some (x, y, z, j)) : e = .returned (.tuple #[.agg #[.int .i64 x, .int .i64 y, .int .i64 z, .int .i64 j], .bool true]) ∧ Below w.heap.size w w' := by
  subst ho
  obtain ⟨hb, ⟨h1, _⟩ | ⟨a, b, c, d, h1, rfl⟩⟩ := h
  · cases h1
  · injection h1 with h1
    injection h1 with e1 h1
    injection h1 with e2 h1
    injection h1 with e3 e4
    subst e1 e2 e3 e4
    exact ⟨rfl, hb⟩
theorem qI_qN (k : Nat) : qI (k : Int) = (qN k : Int) := by
  unfold qI qN
  have e : ∀ m : Nat, ((k : Int) = (m : Int)) ↔ k = m := fun m => by omega
  by_cases h1 : k = 83
  · subst h1; rfl
  by_cases h2 : k = 84
  · subst h2; rfl
  by_cases h3 : k = 72
  · subst h3; rfl
  by_cases h4 : k = 66
  · subst h4; rfl
  by_cases h5 : k = 67
  · subst h5; rfl
  rw [if_neg (by omega), if_neg (by omega), if_neg (by omega), if_neg (by omega), if_neg (by omega), if_neg h1, if_neg h2, if_neg h3, if_neg h4, if_neg h5]
  rfl
theorem quarters_none (k : Nat) (w : World) (hk : k < 256) (h : qN k = 0) :
    Calls Tryd.prog 46 #[.int .u8 (k : Int)] w fun e w' => e = .returned (.tuple #[.int .i64 0, .int .i64 2]) ∧ w = w' := by
  have hq := qI_qN k
  rw [h] at hq
  have HQ := hide hq
  clear hq h
  go_enter Tryd.func46, Tryd.ntmps46
  go_wp2_with fail
  refine (impl_quarters (k : Int) _ (by omega) (by omega)).mono ?_
  rintro e w1 ⟨rfl, rfl⟩
  rw [HQ.out]
  go_wp2
  go_ret2
  exact ⟨rfl, rfl⟩
theorem quarters_some (k : Nat) (w : World) (hk : k < 256) (h : qN k ≠ 0) :
    Calls Tryd.prog 46 #[.int .u8 (k : Int)] w fun e w' => e = .returned (.tuple #[.int .i64 (qN k : Int), .int .i64 0]) ∧ w = w' := by
  have hq := qI_qN k
  obtain ⟨q, hqq⟩ : ∃ q : Int, (qN k : Int) = q := ⟨_, rfl⟩
  have hne : (q == 0) = false := by rw [beq_eq_false_iff_ne]; omega
  rw [hqq] at hq ⊢
  have HQ := hide hq
  clear hq h hqq
  go_enter Tryd.func46, Tryd.ntmps46
  go_wp2_with fail
  refine (impl_quarters (k : Int) _ (by omega) (by omega)).mono ?_
  rintro e w1 ⟨rfl, rfl⟩
  rw [HQ.out]
  go_wp2
  go_ret2
  exact ⟨rfl, rfl⟩
theorem isCut_any (k : Nat) (w : World) (hk : k < 256) :
    Calls Tryd.prog 47 #[.int .u8 (k : Int)] w fun e w' => e = .returned (.bool (cutN k)) ∧ w = w' := by
  by_cases h1 : k = 84
  · subst h1
    rw [show cutN 84 = true from rfl]
    go_enter Tryd.func47, Tryd.ntmps47
    go_wp2
    go_ret
    exact ⟨rfl, rfl⟩
  by_cases h2 : k = 66
  · subst h2
    rw [show cutN 66 = true from rfl]
    go_enter Tryd.func47, Tryd.ntmps47
    go_wp2
    go_ret
    exact ⟨rfl, rfl⟩
  by_cases h3 : k = 67
  · subst h3
    rw [show cutN 67 = true from rfl]
    go_enter Tryd.func47, Tryd.ntmps47
    go_wp2
    go_ret
    exact ⟨rfl, rfl⟩
  have hc : cutN k = false := by unfold cutN; simp [h1, h2, h3]
  rw [hc]
  have e1 : ((k : Int) == 84) = false := by rw [beq_eq_false_iff_ne]; omega
  have e2 : ((k : Int) == 66) = false := by rw [beq_eq_false_iff_ne]; omega
  have e3 : ((k : Int) == 67) = false := by rw [beq_eq_false_iff_ne]; omega
  clear h1 h2 h3 hc
  go_enter Tryd.func47, Tryd.ntmps47
  go_wp2
  go_ret
  exact ⟨rfl, rfl⟩
set_option maxRecDepth 100000 in
set_option maxHeartbeats 8000000 in
theorem fnFormatsWalk (a0 : Option Addr) (n0 c0 : Nat) (z0 : List Int) (w : World) (w0 : ArgInts .u8 w a0 n0 c0 z0) (hT : Pow10 w ∧ ErrSyn w ∧ MaxLenIs w) :
    Calls Tryd.prog 12 #[.slice a0 n0 c0] w fun e w' => e = .returned (.bool true) ∧ Below w.heap.size w w' := by
  have hMz : 3 < w.heap.size := by obtain ⟨m, hm⟩ := hT.2.2; exact cell_lt hm
  have HP := hide hT.1
  have HY := hide hT.2.1
  have HM := hide hT.2.2
  have W0 := hide w0
  clear w0 hT
  by_cases hlong : 3000 < n0
  · go_enter Tryd.func12, Tryd.ntmps12
    go_wp2_with fail
    refine (a2Long_yes _ _ _ _ _ _ _ hlong).mono ?_
    rintro e w1 ⟨rfl, rfl⟩
    go_wp2
    go_ret
    exact ⟨rfl, by go_grown⟩
  have hshort : n0 ≤ 3000 := by omega
  clear hlong
  have B0 := hide (Below.refl w.heap.size w)
  go_enter Tryd.func12, Tryd.ntmps12
  go_wp2_with fail
  refine (a2Long_no _ _ _ _ _ _ _ hshort (by omega)).mono ?_
  rintro e w1 ⟨rfl, rfl⟩
  go_wp2_with fail
  refine (a2Format _ _ _ _ _ W0.out).mono ?_
  rintro e w1 ⟨l, wd, h, j, ⟨b1, b2, b3, b4, b5, b6, b7, b8⟩, rfl, hb1⟩
  have hF : fmtB l wd h j = true := decide_eq_true (by unfold FmtOk; omega)
  have B1 := hide (B0.out.trans (hb1.mono B0.out.size))
  clear hb1
  obtain ⟨u2, hu2⟩ : ∃ u, w1.alloc (.cells #[.int .i64 l, .int .i64 wd, .int .i64 h, .int .i64 j] 34) = u := ⟨_, rfl⟩
  have B2 := hide (show Below w.heap.size w u2 from by rw [← hu2]; exact B1.out.alloc B1.out.size _)
  have f0 : u2.cell? ⟨w1.heap.size, 0, none⟩ = some (.int .i64 l) := by rw [← hu2]; simp [go_sem]
  have f1 : u2.cell? ⟨w1.heap.size, 1, none⟩ = some (.int .i64 wd) := by rw [← hu2]; simp [go_sem]
  have f2 : u2.cell? ⟨w1.heap.size, 2, none⟩ = some (.int .i64 h) := by rw [← hu2]; simp [go_sem]
  have f3 : u2.cell? ⟨w1.heap.size, 3, none⟩ = some (.int .i64 j) := by rw [← hu2]; simp [go_sem]
  have e2 : w1.heap.size < u2.heap.size := by rw [← hu2]; simp
  have HU2 := hide hu2
  clear hu2
  -- the plain facts
  obtain ⟨t, ht⟩ : ∃ t, fmtT l wd h j = t := ⟨_, rfl⟩
  have hts : t.size ≤ 1000 := by
    obtain ⟨i0, i1, i2, i3⟩ := fmt_bd hF
    rw [← ht, fmtT_yes hF, ba_size']
    have q1 := itoa_size l i0.1 i0.2
    have q2 := itoa_size wd i1.1 i1.2
    have q3 := itoa_size h i2.1 i2.2
    have q4 := itoa_size j i3.1 i3.2
    unfold fText sizesT
    simp
    omega
  have hfl : fmtL t.data.toList = some (l, wd, h, j) := by
    rw [fmt_iff]
    refine ⟨hF, ?_⟩
    rw [← ht, fmtT_yes hF, ba_data]
  have HT := hide ht
  have HFL := hide hfl
  obtain ⟨vi, hvi⟩ : ∃ v, volIn l wd h j = v := ⟨_, rfl⟩
  obtain ⟨vo, hvo⟩ : ∃ v, volOut l wd h j = v := ⟨_, rfl⟩
  obtain ⟨v1, v2, v3⟩ := vol_le hF
  rw [hvi] at v1 v2
  rw [hvo] at v2
  have HVI := hide hvi
  have HVO := hide hvo
  have HVC := hide v3
  have hw := whole_eq hF
  have hh := half_eq hF
  obtain ⟨bd1, bd2, bd3, bd4⟩ := len_bd (n := 4) hF (by omega) (by omega)
  obtain ⟨be1, be2, be3, be4⟩ := len_bd (n := 2) hF (by omega) (by omega)
  obtain ⟨n4, h4⟩ : ∃ v, lengthNum l wd h j 4 = v := ⟨_, rfl⟩
  obtain ⟨d4, h5⟩ : ∃ v, lengthDen l wd h j 4 = v := ⟨_, rfl⟩
  obtain ⟨n2, h6⟩ : ∃ v, lengthNum l wd h j 2 = v := ⟨_, rfl⟩
  obtain ⟨d2, h7⟩ : ∃ v, lengthDen l wd h j 2 = v := ⟨_, rfl⟩
  obtain ⟨mb, h8⟩ : ∃ v, modB l wd h j = v := ⟨_, rfl⟩
  rw [h4, h5] at hw
  rw [h6, h7, h8] at hh
  rw [h4] at bd1 bd2
  rw [h5] at bd3 bd4
  rw [h6] at be1 be2
  rw [h7] at be3 be4
  have p1 := mul_bd l d4 1000 4 (by omega) (by omega) (by omega) (by omega) (by omega)
  have p2 := mul_bd wd d2 1000 4 (by omega) (by omega) (by omega) (by omega) (by omega)
  have W4 := hide (Go.IntWalk.i64_in (l * d4) ⟨by omega, by omega⟩)
  have W2 := hide (Go.IntWalk.i64_in (wd * d2) ⟨by omega, by omega⟩)
  have HC4 := hide (fcode_in (n := 4) (lo := 1) (hi := 200) hF (by omega) (by omega))
  have HC2 := hide (fcode_in (n := 2) (lo := 1) (hi := 200) hF (by omega) (by omega))
  have H4 := hide h4
  have H5 := hide h5
  have H6 := hide h6
  have H7 := hide h7
  have H8 := hide h8
  have HW := hide hw
  have HH := hide hh
  have hv1 : decide (vi < 1) = false := by simp; omega
  have hv2 : decide (vo < vi) = false := by simp; omega
  clear ht hfl hvi hvo v3 hw hh h4 h5 h6 h7 h8 hF
  go_wp2_with fail
  rw [HU2.out]
  refine (impl_formatText l wd h j _ (HP.out.below B2.out)).mono ?_
  rintro e w3 ⟨rfl, hb⟩
  rw [HT.out]
  replace f0 := (hb.cell (p := ⟨w1.heap.size, 0, none⟩) e2).trans f0
  replace f1 := (hb.cell (p := ⟨w1.heap.size, 1, none⟩) e2).trans f1
  replace f2 := (hb.cell (p := ⟨w1.heap.size, 2, none⟩) e2).trans f2
  replace f3 := (hb.cell (p := ⟨w1.heap.size, 3, none⟩) e2).trans f3
  have e3 : w1.heap.size < w3.heap.size := Nat.lt_of_lt_of_le e2 hb.size
  have B3 := hide (B2.out.trans (hb.mono B2.out.size))
  clear hb
  go_wp2_with fail
  refine (impl_readFormat t _ (by omega) (HM.out.below hMz B3.out) (HP.out.below B3.out) (HY.out.below B3.out)).mono ?_
  intro e w4 hq
  obtain ⟨rfl, hb⟩ := quad_is hq HFL.out
  replace f0 := (hb.cell (p := ⟨w1.heap.size, 0, none⟩) e3).trans f0
  replace f1 := (hb.cell (p := ⟨w1.heap.size, 1, none⟩) e3).trans f1
  replace f2 := (hb.cell (p := ⟨w1.heap.size, 2, none⟩) e3).trans f2
  replace f3 := (hb.cell (p := ⟨w1.heap.size, 3, none⟩) e3).trans f3
  have e4 : w1.heap.size < w4.heap.size := Nat.lt_of_lt_of_le e3 hb.size
  have B4 := hide (B3.out.trans (hb.mono B3.out.size))
  clear hb hq
  go_wp2_with fail
  refine (impl_volumeOf l wd h j _).mono ?_
  rintro e w6 ⟨rfl, hb⟩
  rw [HVI.out, HVO.out, HVC.out]
  replace f0 := (hb.cell (p := ⟨w1.heap.size, 0, none⟩) (by simp; omega)).trans ((World.cell?_alloc_lt _ _ ⟨w1.heap.size, 0, none⟩ e4).trans f0)
  have g0 := (hb.cell (p := ⟨w4.heap.size, 0, none⟩) (by simp)).trans (show _ = some (.int .i64 l) from by simp [go_sem])
  replace f1 := (hb.cell (p := ⟨w1.heap.size, 1, none⟩) (by simp; omega)).trans ((World.cell?_alloc_lt _ _ ⟨w1.heap.size, 1, none⟩ e4).trans f1)
  have g1 := (hb.cell (p := ⟨w4.heap.size, 1, none⟩) (by simp)).trans (show _ = some (.int .i64 wd) from by simp [go_sem])
  replace f2 := (hb.cell (p := ⟨w1.heap.size, 2, none⟩) (by simp; omega)).trans ((World.cell?_alloc_lt _ _ ⟨w1.heap.size, 2, none⟩ e4).trans f2)
  have g2 := (hb.cell (p := ⟨w4.heap.size, 2, none⟩) (by simp)).trans (show _ = some (.int .i64 h) from by simp [go_sem])
  replace f3 := (hb.cell (p := ⟨w1.heap.size, 3, none⟩) (by simp; omega)).trans ((World.cell?_alloc_lt _ _ ⟨w1.heap.size, 3, none⟩ e4).trans f3)
  have g3 := (hb.cell (p := ⟨w4.heap.size, 3, none⟩) (by simp)).trans (show _ = some (.int .i64 j) from by simp [go_sem])
  have e6 : w4.heap.size < w6.heap.size := by have := hb.size; simp at this; omega
  have e6b : w1.heap.size < w6.heap.size := by omega
  have B6 := hide ((B4.out.alloc B4.out.size _).trans (hb.mono (by have := B4.out.size; simp; omega)))
  clear hb
  go_wp2_with fail
  refine (impl_lengthOf l wd h j 4 _ (by omega) (by omega)).mono ?_
  rintro e w7 ⟨rfl, hb⟩
  rw [H4.out, H5.out, HC4.out]
  replace f0 := (hb.cell (p := ⟨w1.heap.size, 0, none⟩) e6b).trans f0
  replace f1 := (hb.cell (p := ⟨w1.heap.size, 1, none⟩) e6b).trans f1
  replace f2 := (hb.cell (p := ⟨w1.heap.size, 2, none⟩) e6b).trans f2
  replace f3 := (hb.cell (p := ⟨w1.heap.size, 3, none⟩) e6b).trans f3
  replace g0 := (hb.cell (p := ⟨w4.heap.size, 0, none⟩) e6).trans g0
  replace g1 := (hb.cell (p := ⟨w4.heap.size, 1, none⟩) e6).trans g1
  replace g2 := (hb.cell (p := ⟨w4.heap.size, 2, none⟩) e6).trans g2
  replace g3 := (hb.cell (p := ⟨w4.heap.size, 3, none⟩) e6).trans g3
  have e7 : w4.heap.size < w7.heap.size := Nat.lt_of_lt_of_le e6 hb.size
  have e7b : w1.heap.size < w7.heap.size := by omega
  have B7 := hide (B6.out.trans (hb.mono B6.out.size))
  clear hb
  go_wp2_with fail
  refine (impl_lengthOf l wd h j 2 _ (by omega) (by omega)).mono ?_
  rintro e w9 ⟨rfl, hb⟩
  rw [H6.out, H7.out, HC2.out]
  replace f0 := (hb.cell (p := ⟨w1.heap.size, 0, none⟩) (by simp; omega)).trans ((World.cell?_alloc_lt _ _ ⟨w1.heap.size, 0, none⟩ e7b).trans f0)
  replace g0 := (hb.cell (p := ⟨w4.heap.size, 0, none⟩) (by simp; omega)).trans ((World.cell?_alloc_lt _ _ ⟨w4.heap.size, 0, none⟩ e7).trans g0)
  replace f1 := (hb.cell (p := ⟨w1.heap.size, 1, none⟩) (by simp; omega)).trans ((World.cell?_alloc_lt _ _ ⟨w1.heap.size, 1, none⟩ e7b).trans f1)
  replace g1 := (hb.cell (p := ⟨w4.heap.size, 1, none⟩) (by simp; omega)).trans ((World.cell?_alloc_lt _ _ ⟨w4.heap.size, 1, none⟩ e7).trans g1)
  replace f2 := (hb.cell (p := ⟨w1.heap.size, 2, none⟩) (by simp; omega)).trans ((World.cell?_alloc_lt _ _ ⟨w1.heap.size, 2, none⟩ e7b).trans f2)
  replace g2 := (hb.cell (p := ⟨w4.heap.size, 2, none⟩) (by simp; omega)).trans ((World.cell?_alloc_lt _ _ ⟨w4.heap.size, 2, none⟩ e7).trans g2)
  replace f3 := (hb.cell (p := ⟨w1.heap.size, 3, none⟩) (by simp; omega)).trans ((World.cell?_alloc_lt _ _ ⟨w1.heap.size, 3, none⟩ e7b).trans f3)
  replace g3 := (hb.cell (p := ⟨w4.heap.size, 3, none⟩) (by simp; omega)).trans ((World.cell?_alloc_lt _ _ ⟨w4.heap.size, 3, none⟩ e7).trans g3)
  have m0 := (hb.cell (p := ⟨w7.heap.size, 0, none⟩) (by simp)).trans (show _ = some (.int .i64 n4) from by simp [go_sem])
  have m1 := (hb.cell (p := ⟨w7.heap.size, 1, none⟩) (by simp)).trans (show _ = some (.int .i64 d4) from by simp [go_sem])
  have e9 : w7.heap.size < w9.heap.size := by have := hb.size; simp at this; omega
  have e9b : w1.heap.size < w9.heap.size := by omega
  have e9c : w4.heap.size < w9.heap.size := by omega
  have B9 := hide ((B7.out.alloc B7.out.size _).trans (hb.mono (by have := B7.out.size; simp; omega)))
  clear hb
  have hw4 := W4.out
  have hne4 : (n4 != l * d4) = false := by rw [HW.out]; simp
  go_wp2_with fail
  refine (impl_isModular l wd h j _).mono ?_
  rintro e w11 ⟨rfl, hb⟩
  rw [H8.out]
  replace f0 := (hb.cell (p := ⟨w1.heap.size, 0, none⟩) (by simp; omega)).trans ((World.cell?_alloc_lt _ _ ⟨w1.heap.size, 0, none⟩ e9b).trans f0)
  replace f1 := (hb.cell (p := ⟨w1.heap.size, 1, none⟩) (by simp; omega)).trans ((World.cell?_alloc_lt _ _ ⟨w1.heap.size, 1, none⟩ e9b).trans f1)
  have k0 := (hb.cell (p := ⟨w9.heap.size, 0, none⟩) (by simp)).trans (show _ = some (.int .i64 n2) from by simp [go_sem])
  have k1 := (hb.cell (p := ⟨w9.heap.size, 1, none⟩) (by simp)).trans (show _ = some (.int .i64 d2) from by simp [go_sem])
  have B11 := hide ((B9.out.alloc B9.out.size _).trans (hb.mono (by have := B9.out.size; simp; omega)))
  clear hb hw4 hne4 m0 m1 g0 g1 g2 g3 f2 f3
  have hw2 := W2.out
  have hmb := HH.out
  go_wp2
  go_loop [15, 16, 17] (fun x y i => ∃ k : Nat, k ≤ 256 ∧ i = .int .i64 k ∧ x = .int .i64 (allQ k : Int) ∧ y = .int .i64 (allC k : Int)) (fun _ _ i => 256 - (intOf i).toNat)
  case atStart => exact ⟨0, by omega, rfl, rfl, rfl⟩
  case round =>
    obtain ⟨k, hk, rfl, rfl, rfl⟩ := hrel
    by_cases hlt : k < 256
    · have hki : (k : Int) < 256 := by omega
      have hq1 := allQ_le k
      have hq2 := allC_le k
      have hq3 := qN_le k
      by_cases hq : qN k = 0
      · have HA := hide (show allQ (k + 1) = allQ k from by show allQ k + qN k = _; omega)
        go_wp2_with fail
        refine (quarters_none k _ hlt hq).mono ?_
        rintro e v1 ⟨rfl, rfl⟩
        clear hq
        go_wp2_with fail
        refine (isCut_any k _ hlt).mono ?_
        rintro e v2 ⟨rfl, rfl⟩
        cases hc : cutN k with
        | true =>
          have HC := hide (show allC (k + 1) = allC k + 1 from by show allC k + (if cutN k = true then 1 else 0) = _; rw [if_pos hc])
          clear hc
          go_wp2
          go_round
          case rel => exact ⟨k + 1, by omega, by go_num, by rw [HA.out], by rw [HC.out]; go_num⟩
          case measure => simp [intOf]; omega
        | false =>
          have HC := hide (show allC (k + 1) = allC k from by show allC k + (if cutN k = true then 1 else 0) = _; rw [if_neg (by rw [hc]; simp)]; rfl)
          clear hc
          go_wp2
          go_round
          case rel => exact ⟨k + 1, by omega, by go_num, by rw [HA.out], by rw [HC.out]⟩
          case measure => simp [intOf]; omega
      · have HA := hide (show allQ (k + 1) = allQ k + qN k from rfl)
        go_wp2_with fail
        refine (quarters_some k _ hlt hq).mono ?_
        rintro e v1 ⟨rfl, rfl⟩
        clear hq
        go_wp2_with fail
        refine (isCut_any k _ hlt).mono ?_
        rintro e v2 ⟨rfl, rfl⟩
        cases hc : cutN k with
        | true =>
          have HC := hide (show allC (k + 1) = allC k + 1 from by show allC k + (if cutN k = true then 1 else 0) = _; rw [if_pos hc])
          clear hc
          go_wp2
          go_round
          case rel => exact ⟨k + 1, by omega, by go_num, by rw [HA.out]; go_num, by rw [HC.out]; go_num⟩
          case measure => simp [intOf]; omega
        | false =>
          have HC := hide (show allC (k + 1) = allC k from by show allC k + (if cutN k = true then 1 else 0) = _; rw [if_neg (by rw [hc]; simp)]; rfl)
          clear hc
          go_wp2
          go_round
          case rel => exact ⟨k + 1, by omega, by go_num, by rw [HA.out]; go_num, by rw [HC.out]⟩
          case measure => simp [intOf]; omega
    · obtain rfl : k = 256 := by omega
      rw [allQ_end, allC_end]
      go_wp2
      go_ret
      exact ⟨rfl, B11.out⟩
end Go.Proofs.YtjoepnmmcagggaaDoor
