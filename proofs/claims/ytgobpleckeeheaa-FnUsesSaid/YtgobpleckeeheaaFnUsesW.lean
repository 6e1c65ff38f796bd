/-
  What is proved: the law FnUses returns true and changes nothing that was there, for every input. No conditions beyond the arguments' own ranges.
-/
import Derived.Test.YtgobpleckeeheaaDrawM4
import Derived.Test.YtgobpleckeeheaaDrawM5
import Derived.Test.YtgobpleckeeheaaUsesLaw
import Derived.Test.YtgobpleckeeheaaMouldU2
import Derived.Test.YtgobpleckeeheaaMouldW2
import Derived.Test.YtgobpleckeeheaaMouldSame
import Derived.Test.YtgobpleckeeheaaF6
import Derived.Deep.DeepCutAuto
namespace Go.Proofs.Ytgobpleckeeheaa
open Go.RowKit
set_option linter.unusedVariables false

theorem has_yes {xs : List Int} {a : Int} {k : Nat} (h : decide (a ∈ xs.take k) = true) : decide (a ∈ xs.take (k + 1)) = true := by
  have h1 := of_decide_eq_true h
  refine decide_eq_true ?_
  rw [List.take_add_one]
  exact List.mem_append_left _ h1
theorem has_step {xs : List Int} {a y : Int} {k : Nat} (hy : xs[k]? = some y) (h : decide (a ∈ xs.take k) = false) : decide (a ∈ xs.take (k + 1)) = (y == a) := by
  have h1 : a ∉ xs.take k := of_decide_eq_false h
  rw [List.take_add_one, hy]
  by_cases e : y = a
  · subst e
    rw [beq_self_eq_true]
    exact decide_eq_true (by simp)
  · rw [show (y == a) = false from by simpa using e]
    refine decide_eq_false (fun q => ?_)
    rcases List.mem_append.1 q with q | q
    · exact h1 q
    · simp at q
      exact e q.symm
theorem word_tests {K : ByteArray} (h : SizeWord K) : ((K.toList == [110, 111, 110, 101]) = false → (K.toList == [108, 101, 110, 103, 116, 104]) = false → (K.toList == [119, 105, 100, 116, 104]) = false → (K.toList == [104, 101, 105, 103, 104, 116]) = true) := by
  rw [Lib.toList_data]
  rcases h with rfl | rfl | rfl | rfl <;> decide
set_option maxRecDepth 100000 in
set_option maxHeartbeats 16000000 in
theorem fnUsesWalk (a0 : Option Addr) (n0 c0 : Nat) (z0 : List Int) (w : World) (w0 : ArgInts .u8 w a0 n0 c0 z0) :
    Calls Try.prog 4 #[.slice a0 n0 c0] w fun e w' => e = .returned (.bool true) ∧ Below w.heap.size w w' := by
  have W0 := hide w0
  clear w0
  by_cases hlong : 4096 < n0
  · go_enter Try.func4, Try.ntmps4
    go_wp2_with fail
    refine (f6big_yes _ _ _ _ hlong).mono ?_
    rintro e w1 ⟨rfl, rfl⟩
    go_wp2
    go_ret
    exact ⟨rfl, Below.refl _ _⟩
  have hshort : n0 ≤ 4096 := by omega
  clear hlong
  go_enter Try.func4, Try.ntmps4
  have B0 := hide (Below.refl w.heap.size w)
  go_wp2_with fail
  refine (f6big_no _ _ _ _ hshort).mono ?_
  rintro e u1 ⟨rfl, rfl⟩
  go_wp2_with fail
  refine (src_DrawShareUses _ _ _ _ z0 (W0.out.below B0.out)).mono ?_
  rintro e u2 ⟨zs, g, d, t, hl, rfl, ho, hb2⟩
  have e2 : w.heap.size ≤ u2.heap.size := hb2.size
  have B2 := hide (B0.out.trans (hb2.mono B0.out.size))
  clear hb2 B0
  obtain ⟨np, hnp⟩ : ∃ r, zs.length = r := ⟨_, rfl⟩
  rw [hnp] at ho hl ⊢
  have Hnp := hide hnp
  have P_0 := hide ho
  clear ho hnp
  obtain ⟨K1, hK1⟩ : ∃ K, shareL zs t = K := ⟨_, rfl⟩
  obtain ⟨c1, hC1⟩ : ∃ K, shareC zs t = K := ⟨_, rfl⟩
  have hk1 : K1.length ≤ 21 := by rw [← hK1]; have := shareL_len zs t; have := Hnp.out; omega
  have HK1 := hide hK1
  have HC1 := hide hC1
  clear hK1 hC1
  go_wp2_with fail
  refine (impl_share' _ _ _ zs t K1 c1 _ HK1.out HC1.out (by omega) Hnp.out (P_0.out.row (fun _ => rfl))).mono ?_
  rintro e u3 ⟨A1, C1, rfl, ho, hb3⟩
  have e3 : u2.heap.size ≤ u3.heap.size := hb3.size
  have B3 := hide (B2.out.trans (hb3.mono B2.out.size))
  have P_3 := hide (P_0.out.below hb3)
  clear P_0
  clear hb3 B2
  have U_3 := hide ho
  clear ho
  go_wp2_with fail
  refine (spec_share' _ _ _ zs t K1 c1 _ HK1.out HC1.out (by omega) Hnp.out (P_3.out.row (fun _ => rfl))).mono ?_
  rintro e u4 ⟨A2, C2, rfl, ho, hb4⟩
  have e4 : u3.heap.size ≤ u4.heap.size := hb4.size
  have B4 := hide (B3.out.trans (hb4.mono B3.out.size))
  have P_4 := hide (P_3.out.below hb4)
  clear P_3
  have U_4 := hide (U_3.out.below hb4)
  clear U_3
  clear hb4 B3
  have V_4 := hide ho
  clear ho
  go_wp2_with fail
  refine (src_DrawBestMould _ _ _ _ z0 (W0.out.below B4.out)).mono ?_
  rintro e u5 ⟨zb, gb, db, l, wd, h, j, s, hlb, rfl, ho, hb5⟩
  have e5 : u4.heap.size ≤ u5.heap.size := hb5.size
  have B5 := hide (B4.out.trans (hb5.mono B4.out.size))
  have P_5 := hide (P_4.out.below hb5)
  clear P_4
  have U_5 := hide (U_4.out.below hb5)
  clear U_4
  have V_5 := hide (V_4.out.below hb5)
  clear V_4
  clear hb5 B4
  obtain ⟨nb, hnb⟩ : ∃ r, zb.length = r := ⟨_, rfl⟩
  rw [hnb] at ho hlb ⊢
  have Hnb := hide hnb
  have Q_0 := hide ho
  clear ho hnb
  obtain ⟨u6, hu6⟩ : ∃ u, u5.alloc (.cells #[.int .i64 l, .int .i64 wd, .int .i64 h, .int .i64 j] 55) = u := ⟨_, rfl⟩
  have hb6 : Below u5.heap.size u5 u6 := by rw [← hu6]; exact (Below.refl _ _).alloc (Nat.le_refl _) _
  have e6 : u5.heap.size < u6.heap.size := by rw [← hu6]; simp
  have B6 := hide (B5.out.trans (hb6.mono B5.out.size))
  have f6_0 : u6.cell? ⟨u5.heap.size, 0, none⟩ = some (.int .i64 l) := by rw [← hu6]; simp [go_sem]
  have f6_1 : u6.cell? ⟨u5.heap.size, 1, none⟩ = some (.int .i64 wd) := by rw [← hu6]; simp [go_sem]
  have f6_2 : u6.cell? ⟨u5.heap.size, 2, none⟩ = some (.int .i64 h) := by rw [← hu6]; simp [go_sem]
  have f6_3 : u6.cell? ⟨u5.heap.size, 3, none⟩ = some (.int .i64 j) := by rw [← hu6]; simp [go_sem]
  have f6_0o := f6_0
  rw [← hu6] at f6_0o
  have f6_1o := f6_1
  rw [← hu6] at f6_1o
  have f6_2o := f6_2
  rw [← hu6] at f6_2o
  have f6_3o := f6_3
  rw [← hu6] at f6_3o
  have P_6 := hide (P_5.out.below hb6)
  clear P_5
  have U_6 := hide (U_5.out.below hb6)
  clear U_5
  have V_6 := hide (V_5.out.below hb6)
  clear V_5
  have Q_6 := hide (Q_0.out.below hb6)
  clear Q_0
  clear hb6 B5
  have HU6 := hide hu6
  clear hu6
  obtain ⟨K2, hK2⟩ : ∃ K, bestV zb l wd h j s = K := ⟨_, rfl⟩
  obtain ⟨c2, hC2⟩ : ∃ K, bestC zb l wd h j s = K := ⟨_, rfl⟩
  have HK2 := hide hK2
  have HC2 := hide hC2
  clear hK2 hC2
  go_wp2_with fail
  rw [HU6.out]

  refine (impl_best' _ _ _ zb l wd h j s K2 c2 _ HK2.out HC2.out (by omega) Hnb.out (Q_6.out.row (fun _ => rfl))).mono ?_
  rintro e u7 ⟨rfl, hb7⟩
  have e7 : u6.heap.size ≤ u7.heap.size := hb7.size
  clear f6_0o f6_1o f6_2o f6_3o
  have B7 := hide (B6.out.trans (hb7.mono B6.out.size))
  replace f6_0 := (hb7.cell (p := ⟨u5.heap.size, 0, none⟩) (show u5.heap.size < u6.heap.size from by omega)).trans f6_0
  replace f6_1 := (hb7.cell (p := ⟨u5.heap.size, 1, none⟩) (show u5.heap.size < u6.heap.size from by omega)).trans f6_1
  replace f6_2 := (hb7.cell (p := ⟨u5.heap.size, 2, none⟩) (show u5.heap.size < u6.heap.size from by omega)).trans f6_2
  replace f6_3 := (hb7.cell (p := ⟨u5.heap.size, 3, none⟩) (show u5.heap.size < u6.heap.size from by omega)).trans f6_3
  have P_7 := hide (P_6.out.below hb7)
  clear P_6
  have U_7 := hide (U_6.out.below hb7)
  clear U_6
  have V_7 := hide (V_6.out.below hb7)
  clear V_6
  have Q_7 := hide (Q_6.out.below hb7)
  clear Q_6
  clear hb7 B6
  go_wp2_with fail
  refine (spec_best' _ _ _ zb l wd h j s K2 c2 _ HK2.out HC2.out (by omega) Hnb.out (Q_7.out.row (fun _ => rfl))).mono ?_
  rintro e u8 ⟨rfl, hb8⟩
  have e8 : u7.heap.size ≤ u8.heap.size := hb8.size
  have B8 := hide (B7.out.trans (hb8.mono B7.out.size))
  replace f6_0 := (hb8.cell (p := ⟨u5.heap.size, 0, none⟩) (show u5.heap.size < u7.heap.size from by omega)).trans f6_0
  replace f6_1 := (hb8.cell (p := ⟨u5.heap.size, 1, none⟩) (show u5.heap.size < u7.heap.size from by omega)).trans f6_1
  replace f6_2 := (hb8.cell (p := ⟨u5.heap.size, 2, none⟩) (show u5.heap.size < u7.heap.size from by omega)).trans f6_2
  replace f6_3 := (hb8.cell (p := ⟨u5.heap.size, 3, none⟩) (show u5.heap.size < u7.heap.size from by omega)).trans f6_3
  have P_8 := hide (P_7.out.below hb8)
  clear P_7
  have U_8 := hide (U_7.out.below hb8)
  clear U_7
  have V_8 := hide (V_7.out.below hb8)
  clear V_7
  have Q_8 := hide (Q_7.out.below hb8)
  clear Q_7
  clear hb8 B7
  go_wp2_with fail
  refine (src_DrawUseMould _ _ _ _ z0 (W0.out.below B8.out)).mono ?_
  rintro e u9 ⟨zu, gu, du, at3, many, hlu, rfl, ho, hb9⟩
  have e9 : u8.heap.size ≤ u9.heap.size := hb9.size
  have B9 := hide (B8.out.trans (hb9.mono B8.out.size))
  replace f6_0 := (hb9.cell (p := ⟨u5.heap.size, 0, none⟩) (show u5.heap.size < u8.heap.size from by omega)).trans f6_0
  replace f6_1 := (hb9.cell (p := ⟨u5.heap.size, 1, none⟩) (show u5.heap.size < u8.heap.size from by omega)).trans f6_1
  replace f6_2 := (hb9.cell (p := ⟨u5.heap.size, 2, none⟩) (show u5.heap.size < u8.heap.size from by omega)).trans f6_2
  replace f6_3 := (hb9.cell (p := ⟨u5.heap.size, 3, none⟩) (show u5.heap.size < u8.heap.size from by omega)).trans f6_3
  have P_9 := hide (P_8.out.below hb9)
  clear P_8
  have U_9 := hide (U_8.out.below hb9)
  clear U_8
  have V_9 := hide (V_8.out.below hb9)
  clear V_8
  have Q_9 := hide (Q_8.out.below hb9)
  clear Q_8
  clear hb9 B8
  obtain ⟨nu, hnu⟩ : ∃ r, zu.length = r := ⟨_, rfl⟩
  rw [hnu] at ho hlu ⊢
  have Hnu := hide hnu
  have R_0 := hide ho
  clear ho hnu
  obtain ⟨K3, hK3⟩ : ∃ K, useL zu at3 many = K := ⟨_, rfl⟩
  obtain ⟨c3, hC3⟩ : ∃ K, useC zu at3 many = K := ⟨_, rfl⟩
  have hk3 : K3.length ≤ 21 := by rw [← hK3]; have := useL_len zu at3 many; have := Hnu.out; omega
  have HK3 := hide hK3
  have HC3 := hide hC3
  clear hK3 hC3
  go_wp2_with fail
  refine (impl_use' _ _ _ zu at3 many K3 c3 _ HK3.out HC3.out (by omega) Hnu.out (R_0.out.row (fun _ => rfl))).mono ?_
  rintro e u10 ⟨A3, C3, rfl, ho, hb10⟩
  have e10 : u9.heap.size ≤ u10.heap.size := hb10.size
  have B10 := hide (B9.out.trans (hb10.mono B9.out.size))
  replace f6_0 := (hb10.cell (p := ⟨u5.heap.size, 0, none⟩) (show u5.heap.size < u9.heap.size from by omega)).trans f6_0
  replace f6_1 := (hb10.cell (p := ⟨u5.heap.size, 1, none⟩) (show u5.heap.size < u9.heap.size from by omega)).trans f6_1
  replace f6_2 := (hb10.cell (p := ⟨u5.heap.size, 2, none⟩) (show u5.heap.size < u9.heap.size from by omega)).trans f6_2
  replace f6_3 := (hb10.cell (p := ⟨u5.heap.size, 3, none⟩) (show u5.heap.size < u9.heap.size from by omega)).trans f6_3
  have P_10 := hide (P_9.out.below hb10)
  clear P_9
  have U_10 := hide (U_9.out.below hb10)
  clear U_9
  have V_10 := hide (V_9.out.below hb10)
  clear V_9
  have Q_10 := hide (Q_9.out.below hb10)
  clear Q_9
  have R_10 := hide (R_0.out.below hb10)
  clear R_0
  clear hb10 B9
  have X_10 := hide ho
  clear ho
  go_wp2_with fail
  refine (spec_use' _ _ _ zu at3 many K3 c3 _ HK3.out HC3.out (by omega) Hnu.out (R_10.out.row (fun _ => rfl))).mono ?_
  rintro e u11 ⟨A4, C4, rfl, ho, hb11⟩
  have e11 : u10.heap.size ≤ u11.heap.size := hb11.size
  have B11 := hide (B10.out.trans (hb11.mono B10.out.size))
  replace f6_0 := (hb11.cell (p := ⟨u5.heap.size, 0, none⟩) (show u5.heap.size < u10.heap.size from by omega)).trans f6_0
  replace f6_1 := (hb11.cell (p := ⟨u5.heap.size, 1, none⟩) (show u5.heap.size < u10.heap.size from by omega)).trans f6_1
  replace f6_2 := (hb11.cell (p := ⟨u5.heap.size, 2, none⟩) (show u5.heap.size < u10.heap.size from by omega)).trans f6_2
  replace f6_3 := (hb11.cell (p := ⟨u5.heap.size, 3, none⟩) (show u5.heap.size < u10.heap.size from by omega)).trans f6_3
  have P_11 := hide (P_10.out.below hb11)
  clear P_10
  have U_11 := hide (U_10.out.below hb11)
  clear U_10
  have V_11 := hide (V_10.out.below hb11)
  clear V_10
  have Q_11 := hide (Q_10.out.below hb11)
  clear Q_10
  have R_11 := hide (R_10.out.below hb11)
  clear R_10
  have X_11 := hide (X_10.out.below hb11)
  clear X_10
  clear hb11 B10
  have Y_11 := hide ho
  clear ho
  go_wp2_with fail
  refine (src_DrawWornMoulds _ _ _ _ z0 (W0.out.below B11.out)).mono ?_
  rintro e u12 ⟨zw, gw, dw, most, hlw, rfl, ho, hb12⟩
  have e12 : u11.heap.size ≤ u12.heap.size := hb12.size
  have B12 := hide (B11.out.trans (hb12.mono B11.out.size))
  replace f6_0 := (hb12.cell (p := ⟨u5.heap.size, 0, none⟩) (show u5.heap.size < u11.heap.size from by omega)).trans f6_0
  replace f6_1 := (hb12.cell (p := ⟨u5.heap.size, 1, none⟩) (show u5.heap.size < u11.heap.size from by omega)).trans f6_1
  replace f6_2 := (hb12.cell (p := ⟨u5.heap.size, 2, none⟩) (show u5.heap.size < u11.heap.size from by omega)).trans f6_2
  replace f6_3 := (hb12.cell (p := ⟨u5.heap.size, 3, none⟩) (show u5.heap.size < u11.heap.size from by omega)).trans f6_3
  have P_12 := hide (P_11.out.below hb12)
  clear P_11
  have U_12 := hide (U_11.out.below hb12)
  clear U_11
  have V_12 := hide (V_11.out.below hb12)
  clear V_11
  have Q_12 := hide (Q_11.out.below hb12)
  clear Q_11
  have X_12 := hide (X_11.out.below hb12)
  clear X_11
  have Y_12 := hide (Y_11.out.below hb12)
  clear Y_11
  clear hb12 B11
  obtain ⟨nw, hnw⟩ : ∃ r, zw.length = r := ⟨_, rfl⟩
  rw [hnw] at ho hlw ⊢
  have Hnw := hide hnw
  have S_0 := hide ho
  clear ho hnw
  obtain ⟨K4, hK4⟩ : ∃ K, wornL zw most = K := ⟨_, rfl⟩
  obtain ⟨c4, hC4⟩ : ∃ K, wornC zw most = K := ⟨_, rfl⟩
  have hk4 : K4.length ≤ 21 := by rw [← hK4]; have := wornL_len zw most; have := Hnw.out; omega
  have HK4 := hide hK4
  have HC4 := hide hC4
  clear hK4 hC4
  go_wp2_with fail
  refine (impl_worn' _ _ _ zw most K4 c4 _ HK4.out HC4.out (by omega) Hnw.out (S_0.out.row (fun _ => rfl))).mono ?_
  rintro e u13 ⟨A5, C5, rfl, ho, hb13⟩
  have e13 : u12.heap.size ≤ u13.heap.size := hb13.size
  have B13 := hide (B12.out.trans (hb13.mono B12.out.size))
  replace f6_0 := (hb13.cell (p := ⟨u5.heap.size, 0, none⟩) (show u5.heap.size < u12.heap.size from by omega)).trans f6_0
  replace f6_1 := (hb13.cell (p := ⟨u5.heap.size, 1, none⟩) (show u5.heap.size < u12.heap.size from by omega)).trans f6_1
  replace f6_2 := (hb13.cell (p := ⟨u5.heap.size, 2, none⟩) (show u5.heap.size < u12.heap.size from by omega)).trans f6_2
  replace f6_3 := (hb13.cell (p := ⟨u5.heap.size, 3, none⟩) (show u5.heap.size < u12.heap.size from by omega)).trans f6_3
  have P_13 := hide (P_12.out.below hb13)
  clear P_12
  have U_13 := hide (U_12.out.below hb13)
  clear U_12
  have V_13 := hide (V_12.out.below hb13)
  clear V_12
  have Q_13 := hide (Q_12.out.below hb13)
  clear Q_12
  have X_13 := hide (X_12.out.below hb13)
  clear X_12
  have Y_13 := hide (Y_12.out.below hb13)
  clear Y_12
  have S_13 := hide (S_0.out.below hb13)
  clear S_0
  clear hb13 B12
  have M_13 := hide ho
  clear ho
  go_wp2_with fail
  refine (spec_worn' _ _ _ zw most K4 c4 _ HK4.out HC4.out (by omega) Hnw.out (S_13.out.row (fun _ => rfl))).mono ?_
  rintro e u14 ⟨A6, C6, rfl, ho, hb14⟩
  have e14 : u13.heap.size ≤ u14.heap.size := hb14.size
  have B14 := hide (B13.out.trans (hb14.mono B13.out.size))
  replace f6_0 := (hb14.cell (p := ⟨u5.heap.size, 0, none⟩) (show u5.heap.size < u13.heap.size from by omega)).trans f6_0
  replace f6_1 := (hb14.cell (p := ⟨u5.heap.size, 1, none⟩) (show u5.heap.size < u13.heap.size from by omega)).trans f6_1
  replace f6_2 := (hb14.cell (p := ⟨u5.heap.size, 2, none⟩) (show u5.heap.size < u13.heap.size from by omega)).trans f6_2
  replace f6_3 := (hb14.cell (p := ⟨u5.heap.size, 3, none⟩) (show u5.heap.size < u13.heap.size from by omega)).trans f6_3
  have P_14 := hide (P_13.out.below hb14)
  clear P_13
  have U_14 := hide (U_13.out.below hb14)
  clear U_13
  have V_14 := hide (V_13.out.below hb14)
  clear V_13
  have Q_14 := hide (Q_13.out.below hb14)
  clear Q_13
  have X_14 := hide (X_13.out.below hb14)
  clear X_13
  have Y_14 := hide (Y_13.out.below hb14)
  clear Y_13
  have S_14 := hide (S_13.out.below hb14)
  clear S_13
  have M_14 := hide (M_13.out.below hb14)
  clear M_13
  clear hb14 B13
  have N_14 := hide ho
  clear ho
  go_wp2_with fail
  refine (src_DrawSameMoulds _ _ _ _ z0 (W0.out.below B14.out)).mono ?_
  rintro e u15 ⟨zd, ze, gd, dd, ge, de, hld, hle, rfl, ho1, ho2, hb15⟩
  have e15 : u14.heap.size ≤ u15.heap.size := hb15.size
  have B15 := hide (B14.out.trans (hb15.mono B14.out.size))
  replace f6_0 := (hb15.cell (p := ⟨u5.heap.size, 0, none⟩) (show u5.heap.size < u14.heap.size from by omega)).trans f6_0
  replace f6_1 := (hb15.cell (p := ⟨u5.heap.size, 1, none⟩) (show u5.heap.size < u14.heap.size from by omega)).trans f6_1
  replace f6_2 := (hb15.cell (p := ⟨u5.heap.size, 2, none⟩) (show u5.heap.size < u14.heap.size from by omega)).trans f6_2
  replace f6_3 := (hb15.cell (p := ⟨u5.heap.size, 3, none⟩) (show u5.heap.size < u14.heap.size from by omega)).trans f6_3
  have P_15 := hide (P_14.out.below hb15)
  clear P_14
  have U_15 := hide (U_14.out.below hb15)
  clear U_14
  have V_15 := hide (V_14.out.below hb15)
  clear V_14
  have Q_15 := hide (Q_14.out.below hb15)
  clear Q_14
  have X_15 := hide (X_14.out.below hb15)
  clear X_14
  have Y_15 := hide (Y_14.out.below hb15)
  clear Y_14
  have M_15 := hide (M_14.out.below hb15)
  clear M_14
  have N_15 := hide (N_14.out.below hb15)
  clear N_14
  clear hb15 B14
  obtain ⟨nd, hnd⟩ : ∃ r, zd.length = r := ⟨_, rfl⟩
  obtain ⟨ne, hne⟩ : ∃ r, ze.length = r := ⟨_, rfl⟩
  rw [hnd] at hld ⊢
  rw [hne] at hle ⊢
  have Hnd := hide hnd
  have Hne := hide hne
  have D_0 := hide ho1
  have E_0 := hide ho2
  clear hnd hne ho1 ho2
  obtain ⟨sv, hsv⟩ : ∃ v, sameL Mould.same zd ze = v := ⟨_, rfl⟩
  obtain ⟨mv, hmv⟩ : ∃ v, mouldsOk zs = v := ⟨_, rfl⟩
  have HSV := hide hsv
  have HMV := hide hmv
  clear hsv hmv
  go_wp2_with fail
  refine (quiet_below (f6ints_same _ _ _ _ _ K1 _ (by omega) rfl (U_15.out.row (fun _ => rfl)) (V_15.out.row (fun _ => rfl)))).mono ?_
  rintro e u16 ⟨rfl, hb16⟩
  have e16 : u15.heap.size ≤ u16.heap.size := hb16.size
  have B16 := hide (B15.out.trans (hb16.mono B15.out.size))
  replace f6_0 := (hb16.cell (p := ⟨u5.heap.size, 0, none⟩) (show u5.heap.size < u15.heap.size from by omega)).trans f6_0
  replace f6_1 := (hb16.cell (p := ⟨u5.heap.size, 1, none⟩) (show u5.heap.size < u15.heap.size from by omega)).trans f6_1
  replace f6_2 := (hb16.cell (p := ⟨u5.heap.size, 2, none⟩) (show u5.heap.size < u15.heap.size from by omega)).trans f6_2
  replace f6_3 := (hb16.cell (p := ⟨u5.heap.size, 3, none⟩) (show u5.heap.size < u15.heap.size from by omega)).trans f6_3
  have P_16 := hide (P_15.out.below hb16)
  clear P_15
  have U_16 := hide (U_15.out.below hb16)
  clear U_15
  have V_16 := hide (V_15.out.below hb16)
  clear V_15
  have Q_16 := hide (Q_15.out.below hb16)
  clear Q_15
  have X_16 := hide (X_15.out.below hb16)
  clear X_15
  have Y_16 := hide (Y_15.out.below hb16)
  clear Y_15
  have M_16 := hide (M_15.out.below hb16)
  clear M_15
  have N_16 := hide (N_15.out.below hb16)
  clear N_15
  have D_16 := hide (D_0.out.below hb16)
  clear D_0
  have E_16 := hide (E_0.out.below hb16)
  clear E_0
  clear hb16 B15
  go_wp2_with fail
  refine (quiet_below (spec_sameMould _ _ _ _ _ _ K3 K3 _ (by omega) (by omega) rfl rfl (X_16.out.row (fun _ => rfl)) (Y_16.out.row (fun _ => rfl)))).mono ?_
  rintro e u17 ⟨rfl, hb17⟩
  have e17 : u16.heap.size ≤ u17.heap.size := hb17.size
  have B17 := hide (B16.out.trans (hb17.mono B16.out.size))
  replace f6_0 := (hb17.cell (p := ⟨u5.heap.size, 0, none⟩) (show u5.heap.size < u16.heap.size from by omega)).trans f6_0
  replace f6_1 := (hb17.cell (p := ⟨u5.heap.size, 1, none⟩) (show u5.heap.size < u16.heap.size from by omega)).trans f6_1
  replace f6_2 := (hb17.cell (p := ⟨u5.heap.size, 2, none⟩) (show u5.heap.size < u16.heap.size from by omega)).trans f6_2
  replace f6_3 := (hb17.cell (p := ⟨u5.heap.size, 3, none⟩) (show u5.heap.size < u16.heap.size from by omega)).trans f6_3
  have P_17 := hide (P_16.out.below hb17)
  clear P_16
  have V_17 := hide (V_16.out.below hb17)
  clear V_16
  have Q_17 := hide (Q_16.out.below hb17)
  clear Q_16
  have X_17 := hide (X_16.out.below hb17)
  clear X_16
  have Y_17 := hide (Y_16.out.below hb17)
  clear Y_16
  have M_17 := hide (M_16.out.below hb17)
  clear M_16
  have N_17 := hide (N_16.out.below hb17)
  clear N_16
  have D_17 := hide (D_16.out.below hb17)
  clear D_16
  have E_17 := hide (E_16.out.below hb17)
  clear E_16
  clear hb17 B16
  rw [sameL_self (fun x => by simp [Mould.same])]
  go_wp2_with fail
  refine (quiet_below (f6ints_same _ _ _ _ _ K4 _ (by omega) rfl (M_17.out.row (fun _ => rfl)) (N_17.out.row (fun _ => rfl)))).mono ?_
  rintro e u18 ⟨rfl, hb18⟩
  have e18 : u17.heap.size ≤ u18.heap.size := hb18.size
  have B18 := hide (B17.out.trans (hb18.mono B17.out.size))
  replace f6_0 := (hb18.cell (p := ⟨u5.heap.size, 0, none⟩) (show u5.heap.size < u17.heap.size from by omega)).trans f6_0
  replace f6_1 := (hb18.cell (p := ⟨u5.heap.size, 1, none⟩) (show u5.heap.size < u17.heap.size from by omega)).trans f6_1
  replace f6_2 := (hb18.cell (p := ⟨u5.heap.size, 2, none⟩) (show u5.heap.size < u17.heap.size from by omega)).trans f6_2
  replace f6_3 := (hb18.cell (p := ⟨u5.heap.size, 3, none⟩) (show u5.heap.size < u17.heap.size from by omega)).trans f6_3
  have P_18 := hide (P_17.out.below hb18)
  clear P_17
  have V_18 := hide (V_17.out.below hb18)
  clear V_17
  have Q_18 := hide (Q_17.out.below hb18)
  clear Q_17
  have X_18 := hide (X_17.out.below hb18)
  clear X_17
  have Y_18 := hide (Y_17.out.below hb18)
  clear Y_17
  have M_18 := hide (M_17.out.below hb18)
  clear M_17
  have N_18 := hide (N_17.out.below hb18)
  clear N_17
  have D_18 := hide (D_17.out.below hb18)
  clear D_17
  have E_18 := hide (E_17.out.below hb18)
  clear E_17
  clear hb18 B17
  go_wp2_with fail
  refine (quiet_below (impl_sameMould _ _ _ _ _ _ zd ze _ (by omega) (by omega) Hnd.out Hne.out D_18.out E_18.out)).mono ?_
  rintro e u19 ⟨rfl, hb19⟩
  have e19 : u18.heap.size ≤ u19.heap.size := hb19.size
  have B19 := hide (B18.out.trans (hb19.mono B18.out.size))
  replace f6_0 := (hb19.cell (p := ⟨u5.heap.size, 0, none⟩) (show u5.heap.size < u18.heap.size from by omega)).trans f6_0
  replace f6_1 := (hb19.cell (p := ⟨u5.heap.size, 1, none⟩) (show u5.heap.size < u18.heap.size from by omega)).trans f6_1
  replace f6_2 := (hb19.cell (p := ⟨u5.heap.size, 2, none⟩) (show u5.heap.size < u18.heap.size from by omega)).trans f6_2
  replace f6_3 := (hb19.cell (p := ⟨u5.heap.size, 3, none⟩) (show u5.heap.size < u18.heap.size from by omega)).trans f6_3
  have P_19 := hide (P_18.out.below hb19)
  clear P_18
  have V_19 := hide (V_18.out.below hb19)
  clear V_18
  have Q_19 := hide (Q_18.out.below hb19)
  clear Q_18
  have X_19 := hide (X_18.out.below hb19)
  clear X_18
  have Y_19 := hide (Y_18.out.below hb19)
  clear Y_18
  have D_19 := hide (D_18.out.below hb19)
  clear D_18
  have E_19 := hide (E_18.out.below hb19)
  clear E_18
  clear hb19 B18
  rw [HSV.out]
  go_wp2_with fail
  refine (quiet_below (spec_sameMould _ _ _ _ _ _ zd ze _ (by omega) (by omega) Hnd.out Hne.out D_19.out E_19.out)).mono ?_
  rintro e u20 ⟨rfl, hb20⟩
  have e20 : u19.heap.size ≤ u20.heap.size := hb20.size
  have B20 := hide (B19.out.trans (hb20.mono B19.out.size))
  replace f6_0 := (hb20.cell (p := ⟨u5.heap.size, 0, none⟩) (show u5.heap.size < u19.heap.size from by omega)).trans f6_0
  replace f6_1 := (hb20.cell (p := ⟨u5.heap.size, 1, none⟩) (show u5.heap.size < u19.heap.size from by omega)).trans f6_1
  replace f6_2 := (hb20.cell (p := ⟨u5.heap.size, 2, none⟩) (show u5.heap.size < u19.heap.size from by omega)).trans f6_2
  replace f6_3 := (hb20.cell (p := ⟨u5.heap.size, 3, none⟩) (show u5.heap.size < u19.heap.size from by omega)).trans f6_3
  have P_20 := hide (P_19.out.below hb20)
  clear P_19
  have V_20 := hide (V_19.out.below hb20)
  clear V_19
  have Q_20 := hide (Q_19.out.below hb20)
  clear Q_19
  have X_20 := hide (X_19.out.below hb20)
  clear X_19
  have Y_20 := hide (Y_19.out.below hb20)
  clear Y_19
  have D_20 := hide (D_19.out.below hb20)
  clear D_19
  have E_20 := hide (E_19.out.below hb20)
  clear E_19
  clear hb20 B19
  rw [HSV.out]
  go_wp2_with fail
  refine (impl_validMoulds _ _ _ zs _ (by omega) Hnp.out (P_20.out.row (fun _ => rfl))).mono ?_
  rintro e u21 ⟨rfl, hb21⟩
  have e21 : u20.heap.size ≤ u21.heap.size := hb21.size
  have B21 := hide (B20.out.trans (hb21.mono B20.out.size))
  replace f6_0 := (hb21.cell (p := ⟨u5.heap.size, 0, none⟩) (show u5.heap.size < u20.heap.size from by omega)).trans f6_0
  replace f6_1 := (hb21.cell (p := ⟨u5.heap.size, 1, none⟩) (show u5.heap.size < u20.heap.size from by omega)).trans f6_1
  replace f6_2 := (hb21.cell (p := ⟨u5.heap.size, 2, none⟩) (show u5.heap.size < u20.heap.size from by omega)).trans f6_2
  replace f6_3 := (hb21.cell (p := ⟨u5.heap.size, 3, none⟩) (show u5.heap.size < u20.heap.size from by omega)).trans f6_3
  have P_21 := hide (P_20.out.below hb21)
  clear P_20
  have V_21 := hide (V_20.out.below hb21)
  clear V_20
  have Q_21 := hide (Q_20.out.below hb21)
  clear Q_20
  have X_21 := hide (X_20.out.below hb21)
  clear X_20
  have Y_21 := hide (Y_20.out.below hb21)
  clear Y_20
  clear hb21 B20
  rw [HMV.out]
  go_wp2_with fail
  refine (spec_validMoulds _ _ _ zs _ (by omega) Hnp.out (P_21.out.row (fun _ => rfl))).mono ?_
  rintro e u22 ⟨rfl, rfl⟩
  rw [HMV.out]
  obtain ⟨b2, hb2⟩ : ∃ b, (c2 == 0) = b := ⟨_, rfl⟩
  have HB2 := hide hb2
  go_upto_if 179 with fail
  clear hb2
  go_cut [] (fun wx => Hid (Below u21.heap.size u21 wx))
  case first =>
    as_aux_lemma =>
      cases b2 with
      | false =>
        go_wp2
        go_meet
        exact hide (Below.refl _ _)
      | true =>
        have hc2 : c2 = 0 := by simpa using HB2.out
        subst hc2
        obtain ⟨i, ⟨x0, x1, x2, x3⟩, hbv, hx, hl20, hlaw⟩ := best_law HC2.out
        rw [HK2.out] at hbv
        subst hbv
        have LAW := hide hlaw
        have hib : i < nb := by have := (List.getElem?_eq_some_iff.1 hx).1; have := Hnb.out; omega
        have HX := hide hx
        clear hx hlaw hl20
        go_wp2
        go_loopw [31] (fun iv wr => ∃ k : Nat, k ≤ 101 ∧ iv = .int .i64 (k : Int) ∧ Hid (Below u21.heap.size u21 wr)) (fun iv _ => 101 - (intOf iv).toNat)
        case atStart => exact ⟨0, by omega, rfl, hide (Below.refl _ _)⟩
        case round =>
          obtain ⟨k, hk, rfl, HW⟩ := hrel
          by_cases hlt : k ≤ 100
          · obtain ⟨hsf, hword⟩ := LAW.out (k : Int) (by omega) (by omega)
            obtain ⟨K5, hK5⟩ : ∃ K, sfS x0 x1 x2 x3 l wd h j s (k : Int) = K := ⟨_, rfl⟩
            rw [show sfS (⟨x0, x1, x2, x3⟩ : Mould).l (⟨x0, x1, x2, x3⟩ : Mould).w (⟨x0, x1, x2, x3⟩ : Mould).h (⟨x0, x1, x2, x3⟩ : Mould).u l wd h j s (k : Int) = K5 from hK5] at hword
            have HSF := hide (show sfC x0 x1 x2 x3 l wd h j s (k : Int) = 0 from hsf)
            have HK5 := hide hK5
            have HWD := hide hword
            obtain ⟨bq, oq, hqe, hbq, q0, q1, q2, q3⟩ := row_at_4 ((show Row Mould.enc 4 u21 (some ⟨gb, 0, none⟩) zb from Q_21.out.row (fun _ => rfl)).below HW.out) HX.out rfl
            obtain ⟨rfl, rfl⟩ : gb = bq ∧ 0 = oq := by injection hqe with h1; injection h1 with h1 h2; exact ⟨h1, h2⟩
            rw [Nat.zero_add] at q0 q1 q2 q3
            have f0 := (HW.out.cell (p := ⟨u5.heap.size, 0, none⟩) (show u5.heap.size < u21.heap.size from by omega)).trans f6_0
            have f1 := (HW.out.cell (p := ⟨u5.heap.size, 1, none⟩) (show u5.heap.size < u21.heap.size from by omega)).trans f6_1
            have f2 := (HW.out.cell (p := ⟨u5.heap.size, 2, none⟩) (show u5.heap.size < u21.heap.size from by omega)).trans f6_2
            have f3 := (HW.out.cell (p := ⟨u5.heap.size, 3, none⟩) (show u5.heap.size < u21.heap.size from by omega)).trans f6_3
            have hi0 : (i : Int) < (nb : Int) := by omega
            have hk0 : (k : Int) ≤ 100 := by omega
            have HUS := HW.out.size
            clear hsf hword hK5 hqe
            go_wp2
            go_region_with (go_at_call 37; refine (impl_sf x0 x1 x2 x3 l wd h j s (k : Int) K5 0 _ HK5.out HSF.out).mono ?_; rintro e y1 ⟨rfl, hb⟩; have HW1 := hide (HW.out.drew.trans (by first | exact hb.mono HUS | exact ((Below.refl _ _).drew).trans (hb.mono HUS))); clear hb)
            all_goals
              clear q0 q1 q2 q3 f0 f1 f2 f3
              obtain ⟨w1b, hw1b⟩ : ∃ b, (K5.toList == [110, 111, 110, 101]) = b := ⟨_, rfl⟩
              obtain ⟨w2b, hw2b⟩ : ∃ b, (K5.toList == [108, 101, 110, 103, 116, 104]) = b := ⟨_, rfl⟩
              obtain ⟨w3b, hw3b⟩ : ∃ b, (K5.toList == [119, 105, 100, 116, 104]) = b := ⟨_, rfl⟩
              have hwt := word_tests HWD.out
              rw [hw1b, hw2b, hw3b] at hwt
              cases w1b
              · cases w2b
                · cases w3b
                  · have hw4b := hwt rfl rfl rfl
                    clear hwt
                    go_wp2
                    go_roundw
                    case rel => exact ⟨k + 1, by omega, by go_num, HW1⟩
                    case measure => simp [intOf]; omega
                  · clear hwt
                    go_wp2
                    go_roundw
                    case rel => exact ⟨k + 1, by omega, by go_num, HW1⟩
                    case measure => simp [intOf]; omega
                · clear hwt
                  go_wp2
                  go_roundw
                  case rel => exact ⟨k + 1, by omega, by go_num, HW1⟩
                  case measure => simp [intOf]; omega
              · clear hwt
                go_wp2
                go_roundw
                case rel => exact ⟨k + 1, by omega, by go_num, HW1⟩
                case measure => simp [intOf]; omega
          · have hk0 : ¬ ((k : Int) ≤ 100) := by omega
            go_wp2
            go_meet
            exact HW
  case rest =>
    as_aux_lemma =>
      clear HB2 HC2 HK2 f6_0 f6_1 f6_2 f6_3
      have hcu := hcut.out
      clear hcut
      obtain ⟨wd2, hwd2⟩ : ∃ u, wc = u := ⟨_, rfl⟩
      rw [hwd2] at hcu ⊢
      clear hwd2
      have P_cwd2 := hide (P_21.out.below hcu)
      clear P_21
      have V_cwd2 := hide (V_21.out.below hcu)
      clear V_21
      have X_cwd2 := hide (X_21.out.below hcu)
      clear X_21
      have Y_cwd2 := hide (Y_21.out.below hcu)
      clear Y_21
      have Bwd2 := hide (B21.out.trans (hcu.mono B21.out.size))
      clear B21
      have hzwd2 := hcu.size
      clear hcu
      obtain ⟨b3, hb3⟩ : ∃ b, (c3 == 0) = b := ⟨_, rfl⟩
      have HB3 := hide hb3
      go_upto_if 214 with fail
      clear hb3
      go_cut [] (fun wx => Hid (Below wd2.heap.size wd2 wx))
      case first =>
        as_aux_lemma =>
          cases b3 with
          | false =>
            go_wp2
            go_meet
            exact hide (Below.refl _ _)
          | true =>
            have hc3 : c3 = 0 := by simpa using HB3.out
            subst hc3
            obtain ⟨i, ⟨x0, x1, x2, x3⟩, rfl, hx, hlen, hl20, hu0, hu1, hwc, hwm⟩ := use_law HC3.out
            rw [HK3.out] at hx hlen hwc hwm
            obtain ⟨K6, hK6⟩ : ∃ K, wornL K3 (x3 - 1) = K := ⟨_, rfl⟩
            have hk6 : K6.length ≤ 21 := by rw [← hK6]; have := wornL_len K3 (x3 - 1); omega
            have hwm2 : (i : Int) ∈ K6 := by rw [← hK6]; exact hwm
            have HWM := hide hwm2
            have HK6 := hide hK6
            have HC6 := hide (show wornC K3 (x3 - 1) = 0 from hwc)
            have hi3 : i < K3.length := (List.getElem?_eq_some_iff.1 hx).1
            have hu0' : 1 ≤ x3 := hu0
            have hu1' : x3 ≤ 100000 := hu1
            obtain ⟨n3, hn3⟩ : ∃ r, K3.length = r := ⟨_, rfl⟩
            have hYR := (show Row Mould.enc 4 wd2 A4 K3 from Y_cwd2.out.row (fun _ => rfl))
            obtain ⟨bq, oq, rfl, hbq, q0, q1, q2, q3⟩ := row_at_4 hYR hx rfl
            have HX := hide hx
            have hi0 : (i : Int) < (K3.length : Int) := by omega
            have v1 := Go.IntWalk.i64_in (x3 - 1) ⟨by omega, by omega⟩
            clear hx hlen hl20 hu0 hu1 hwc hwm hwm2 hK6 hYR q0 q1 q2 hn3
            go_wp2_with fail
            refine (impl_worn' _ _ _ K3 (x3 - 1) K6 0 _ HK6.out HC6.out (by omega) rfl (show Row Mould.enc 4 wd2 A3 K3 from X_cwd2.out.row (fun _ => rfl))).mono ?_
            rintro e y1 ⟨A7, C7, rfl, ho, hb⟩
            have HG := hide ho
            have HW0 := hide hb
            obtain ⟨n6, hn6⟩ : ∃ r, K6.length = r := ⟨_, rfl⟩
            rw [hn6] at HG hk6 ⊢
            have HN6 := hide hn6
            clear ho hb hn6 q3 v1
            go_wp2
            go_loopw [36, 37] (fun hv iv wr => ∃ k : Nat, k ≤ n6 ∧ iv = .int .i64 (k : Int) ∧ hv = .bool (decide ((i : Int) ∈ K6.take k)) ∧ Hid (Below y1.heap.size y1 wr)) (fun _ iv _ => n6 - (intOf iv).toNat)
            case atStart => exact ⟨0, by omega, rfl, by simp, hide (Below.refl _ _)⟩
            case round =>
              obtain ⟨k, hk, rfl, rfl, HW⟩ := hrel
              by_cases hlt : k < n6
              · obtain ⟨y, hy⟩ : ∃ y, K6[k]? = some y := ⟨K6[k]'(by have := HN6.out; omega), List.getElem?_eq_getElem (by have := HN6.out; omega)⟩
                obtain ⟨bg, og, rfl, hbg, g0⟩ := row_at_1 ((show Row encI 1 y1 A7 K6 from HG.out.row (fun _ => rfl)).below HW.out) hy rfl
                have hki : (k : Int) < (n6 : Int) := by omega
                obtain ⟨hb, hhb⟩ : ∃ b, decide ((i : Int) ∈ K6.take k) = b := ⟨_, rfl⟩
                rw [hhb]
                have HHB := hide hhb
                have HY := hide hy
                clear hhb hy
                cases hb
                · go_wp2
                  go_roundw
                  case rel => exact ⟨k + 1, by omega, by go_num, by rw [has_step HY.out HHB.out], HW⟩
                  case measure => simp [intOf]; omega
                · go_wp2
                  go_roundw
                  case rel => exact ⟨k + 1, by omega, by go_num, by rw [has_yes HHB.out], HW⟩
                  case measure => simp [intOf]; omega
              · obtain rfl : k = n6 := by omega
                rw [List.take_of_length_le (by rw [HN6.out]; exact Nat.le_refl _), decide_eq_true HWM.out]
                have HWZ := hide (HW0.out.trans (HW.out.mono HW0.out.size))
                go_wp2
                go_meet
                exact HWZ
      case rest =>
        as_aux_lemma =>
          clear HB3 HC3 HK3
          have hcu := hcut.out
          clear hcut
          obtain ⟨we2, hwe2⟩ : ∃ u, wc = u := ⟨_, rfl⟩
          rw [hwe2] at hcu ⊢
          clear hwe2
          have P_cwe2 := hide (P_cwd2.out.below hcu)
          clear P_cwd2
          have V_cwe2 := hide (V_cwd2.out.below hcu)
          clear V_cwd2
          have Bwe2 := hide (Bwd2.out.trans (hcu.mono Bwd2.out.size))
          clear Bwd2
          have hzwe2 := hcu.size
          clear hcu
          by_cases hc1 : c1 = 0
          case neg =>
            have d1 : (c1 == 0) = false := by simpa using hc1
            clear hc1
            go_wp2
            go_ret
            exact ⟨rfl, Bwe2.out⟩
          subst hc1
          obtain ⟨hs1, hs2, hs3, hs4, hs5⟩ := share_law HC1.out
          rw [HK1.out] at hs1 hs3 hs4 hs5
          rw [Hnp.out] at hs1 hs2 hs4
          have HS4 := hide hs4
          have HS5 := hide hs5
          have HBD := hide (show ∀ k, k ≤ np → -9000000000000000000 ≤ sumT K1 k ∧ sumT K1 k ≤ 9000000000000000000 from fun k hk => by have := sumT_bd hs3 (by omega) k; omega)
          rw [hs1] at V_cwe2 ⊢
          have HS1 := hide hs1
          clear hs1 hs3 hs4 hs5
          have RP := hide (show Row Mould.enc 4 we2 (some ⟨g, 0, none⟩) zs from P_cwe2.out.row (fun _ => rfl))
          have RV := hide (show Row encI 1 we2 A2 K1 from V_cwe2.out.row (fun _ => rfl))
          go_wp2
          go_loopw [38] (fun iv wr => ∃ k : Nat, k ≤ np ∧ iv = .int .i64 (k : Int) ∧ Hid (Below we2.heap.size we2 wr)) (fun iv _ => np - (intOf iv).toNat)
          case atStart => exact ⟨0, by omega, rfl, hide (Below.refl _ _)⟩
          case round =>
            obtain ⟨i, hi, rfl, HW⟩ := hrel
            by_cases hlt : i < np
            · have hin : (i : Int) < (np : Int) := by omega
              obtain ⟨p, hp⟩ : ∃ y, K1[i]? = some y := ⟨K1[i]'(by have := HS1.out; omega), List.getElem?_eq_getElem (by have := HS1.out; omega)⟩
              obtain ⟨⟨x0, x1, x2, x3⟩, hx⟩ : ∃ y, zs[i]? = some y := ⟨zs[i]'(by have := Hnp.out; omega), List.getElem?_eq_getElem (by have := Hnp.out; omega)⟩
              have HP := hide hp
              have HX := hide hx
              clear hp hx
              go_wp2
              go_loopw [39] (fun jv wr => ∃ k : Nat, k ≤ np ∧ jv = .int .i64 (k : Int) ∧ Hid (Below we2.heap.size we2 wr)) (fun jv _ => np - (intOf jv).toNat)
              case atStart => exact ⟨0, by omega, rfl, HW⟩
              case round =>
                clear HW
                obtain ⟨j', hj, rfl, HW⟩ := hrel
                by_cases hlt2 : j' < np
                · have hjn : (j' : Int) < (np : Int) := by omega
                  obtain ⟨q, hq⟩ : ∃ y, K1[j']? = some y := ⟨K1[j']'(by have := HS1.out; omega), List.getElem?_eq_getElem (by have := HS1.out; omega)⟩
                  obtain ⟨⟨y0, y1, y2, y3⟩, hy⟩ : ∃ y, zs[j']? = some y := ⟨zs[j']'(by have := Hnp.out; omega), List.getElem?_eq_getElem (by have := Hnp.out; omega)⟩
                  obtain ⟨l1, l2, l3, l4, l5⟩ := HS5.out i j' _ _ p q HX.out hy HP.out hq
                  have l1' : 0 ≤ x3 ∧ x3 ≤ 100000 := l1
                  have l2' : 0 ≤ y3 ∧ y3 ≤ 100000 := l2
                  have l5' : 0 < p → x3 + p ≤ y3 + q + 1 := l5
                  obtain ⟨bv, ov, hve, hbv, a0⟩ := row_at_1 (RV.out.below HW.out) HP.out rfl
                  obtain ⟨bw, ow, hwe, hbw, a1⟩ := row_at_1 (RV.out.below HW.out) hq rfl
                  obtain ⟨bx, ox, hxe, hbx, e0, e1, e2, e3⟩ := row_at_4 (RP.out.below HW.out) HX.out rfl
                  obtain ⟨bz, oz, hze, hbz, f0, f1, f2, f3⟩ := row_at_4 (RP.out.below HW.out) hy rfl
                  subst hve
                  obtain ⟨rfl, rfl⟩ : bv = bw ∧ ov = ow := by injection hwe with h1; injection h1 with h1 h2; exact ⟨h1, h2⟩
                  obtain ⟨rfl, rfl⟩ : g = bx ∧ 0 = ox := by injection hxe with h1; injection h1 with h1 h2; exact ⟨h1, h2⟩
                  obtain ⟨rfl, rfl⟩ : g = bz ∧ 0 = oz := by injection hze with h1; injection h1 with h1 h2; exact ⟨h1, h2⟩
                  rw [Nat.zero_add] at e3 f3
                  have v1 := Go.IntWalk.i64_in (x3 + p) ⟨by omega, by omega⟩
                  have v2 := Go.IntWalk.i64_in (y3 + q) ⟨by omega, by omega⟩
                  have v3 := Go.IntWalk.i64_in (y3 + q + 1) ⟨by omega, by omega⟩
                  by_cases hpp : 0 < p
                  · have d3 : ¬ (y3 + q + 1 < x3 + p) := by have := l5' hpp; omega
                    clear l1 l2 l3 l4 l5 l1' l2' l5' hwe hxe hze hq hy e0 e1 e2 f0 f1 f2
                    go_wp2
                    go_quiet (fail)
                    go_wp2
                    go_roundw
                    case rel => exact ⟨j' + 1, by omega, by go_num, hide (below_drewN HW.out _)⟩
                    case measure => simp [intOf]; omega
                  · have hd : decide (0 < p) = false := by simpa using hpp
                    clear l1 l2 l3 l4 l5 l1' l2' l5' hwe hxe hze hq hy e0 e1 e2 f0 f1 f2 hpp
                    go_wp2
                    go_quiet (fail)
                    go_wp2
                    go_roundw
                    case rel => exact ⟨j' + 1, by omega, by go_num, hide (below_drewN HW.out _)⟩
                    case measure => simp [intOf]; omega
                · obtain rfl : j' = np := by omega
                  go_wp2
                  go_roundw
                  case rel => exact ⟨i + 1, by omega, by go_num, HW⟩
                  case measure => simp [intOf]; omega
            · obtain rfl : i = np := by omega
              go_wp2_with fail
              refine (f6sum_is _ _ _ K1 _ (by omega) HS1.out (RV.out.below HW.out) HBD.out).mono ?_
              rintro e y9 ⟨rfl, hb9⟩
              have HZ := hide (Bwe2.out.trans ((HW.out.trans (hb9.mono HW.out.size)).mono Bwe2.out.size))
              rw [HS4.out]
              clear hb9
              go_wp2
              go_ret
              exact ⟨rfl, HZ.out⟩
end Go.Proofs.Ytgobpleckeeheaa
