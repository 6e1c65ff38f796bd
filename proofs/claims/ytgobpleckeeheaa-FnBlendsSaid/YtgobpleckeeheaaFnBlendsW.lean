/-
  What is proved: the law FnBlends returns true and changes nothing that was there, for every input. No conditions beyond the arguments' own ranges.
-/
import Derived.Test.YtgobpleckeeheaaDrawC5
import Derived.Test.YtgobpleckeeheaaDrawC6
import Derived.Test.YtgobpleckeeheaaBlendLaw
import Derived.Test.YtgobpleckeeheaaMeans
import Derived.Test.YtgobpleckeeheaaF6
import Derived.Deep.DeepCutAuto
namespace Go.Proofs.Ytgobpleckeeheaa
open Go.RowKit
set_option linter.unusedVariables false

theorem names_short {zs : List Clay} (h : ShortNames zs) : Names zs := fun k z hz => by
  have := h z (List.mem_of_getElem? hz)
  unfold maxLen
  omega
theorem sumT_K (ps : List Int) : ∀ k, sumT ps k = sumK ps k
  | 0 => rfl
  | k + 1 => by
    show sumT ps k + ps.getD k 0 = sumK ps k + ps.getD k 0
    rw [sumT_K ps k]
theorem clay_in {zs : List Clay} {k : Nat} {z : Clay} (h : claysOk zs = true) (hz : zs[k]? = some z) : nameB z.n = true ∧ (0 ≤ z.s ∧ z.s ≤ 200) ∧ (0 ≤ z.l ∧ z.l ≤ 1000) ∧ (0 ≤ z.d ∧ z.d ≤ 1000) ∧ (0 ≤ z.p ∧ z.p ≤ 10000) := by
  unfold claysOk at h
  rw [Bool.and_eq_true, List.all_eq_true] at h
  have h1 := h.2 k (List.mem_range.2 (List.getElem?_eq_some_iff.1 hz).1)
  rw [clayAt_is hz, Bool.and_eq_true] at h1
  exact of_decide_eq_true h1.1
theorem str_ne (s : ByteArray) : (s.toList != s.toList) = false := by simp
set_option maxRecDepth 100000 in
set_option maxHeartbeats 16000000 in
theorem fnBlendsWalk (a0 : Option Addr) (n0 c0 : Nat) (z0 : List Int) (w : World) (w0 : ArgInts .u8 w a0 n0 c0 z0) :
    Calls Try.prog 3 #[.slice a0 n0 c0] w fun e w' => e = .returned (.bool true) ∧ Below w.heap.size w w' := by
  have W0 := hide w0
  clear w0
  by_cases hlong : 4096 < n0
  · go_enter Try.func3, Try.ntmps3
    go_wp2_with fail
    refine (f6big_yes _ _ _ _ hlong).mono ?_
    rintro e w1 ⟨rfl, rfl⟩
    go_wp2
    go_ret
    exact ⟨rfl, Below.refl _ _⟩
  have hshort : n0 ≤ 4096 := by omega
  clear hlong
  go_enter Try.func3, Try.ntmps3
  have B0 := hide (Below.refl w.heap.size w)
  go_wp2_with fail
  refine (f6big_no _ _ _ _ hshort).mono ?_
  rintro e u1 ⟨rfl, rfl⟩
  go_wp2_with fail
  refine (src_DrawCheapestBlend _ _ _ _ z0 (W0.out.below B0.out)).mono ?_
  rintro e u2 ⟨zs, g, d, t, l, h, m, s, hl7, hnm, rfl, ho, hb2⟩
  have e2 : w.heap.size ≤ u2.heap.size := hb2.size
  have B2 := hide (B0.out.trans (hb2.mono B0.out.size))
  clear hb2 B0
  obtain ⟨nz, hnz⟩ : ∃ r, zs.length = r := ⟨_, rfl⟩
  rw [hnz] at ho hl7 ⊢
  have Hnz := hide hnz
  have P_0 := hide ho
  have NM := names_short hnm
  clear ho hnz hnm
  have hk6 := chL_len zs l h m s t
  obtain ⟨u3, hu3⟩ : ∃ u, u2.alloc (.cells #[.int .i64 l, .int .i64 h, .int .i64 m, .int .i64 s] 26) = u := ⟨_, rfl⟩
  have hb3 : Below u2.heap.size u2 u3 := by rw [← hu3]; exact (Below.refl _ _).alloc (Nat.le_refl _) _
  have e3 : u2.heap.size < u3.heap.size := by rw [← hu3]; simp
  have B3 := hide (B2.out.trans (hb3.mono B2.out.size))
  have f3_0 : u3.cell? ⟨u2.heap.size, 0, none⟩ = some (.int .i64 l) := by rw [← hu3]; simp [go_sem]
  have f3_1 : u3.cell? ⟨u2.heap.size, 1, none⟩ = some (.int .i64 h) := by rw [← hu3]; simp [go_sem]
  have f3_2 : u3.cell? ⟨u2.heap.size, 2, none⟩ = some (.int .i64 m) := by rw [← hu3]; simp [go_sem]
  have f3_3 : u3.cell? ⟨u2.heap.size, 3, none⟩ = some (.int .i64 s) := by rw [← hu3]; simp [go_sem]
  have f3_0o := f3_0
  rw [← hu3] at f3_0o
  have f3_1o := f3_1
  rw [← hu3] at f3_1o
  have f3_2o := f3_2
  rw [← hu3] at f3_2o
  have f3_3o := f3_3
  rw [← hu3] at f3_3o
  have P_3 := hide (P_0.out.below hb3)
  clear P_0
  clear hb3 B2
  have HU3 := hide hu3
  clear hu3
  obtain ⟨K, hK⟩ : ∃ r, chL zs l h m s t = r := ⟨_, rfl⟩
  rw [hK] at hk6
  have HK := hide hK
  clear hK
  obtain ⟨cc, hcc⟩ : ∃ r, chC zs l h m s t = r := ⟨_, rfl⟩
  obtain ⟨kc, hkc⟩ : ∃ r, cntN zs l h m s t = r := ⟨_, rfl⟩
  obtain ⟨cb, hcb⟩ : ∃ r, blcode zs l h m s t = r := ⟨_, rfl⟩
  have Hcc := hide hcc
  have Hkc := hide hkc
  have Hcb := hide hcb
  clear hcc hkc hcb
  go_wp2_with fail
  rw [HU3.out]

  refine (impl_cheapestBlend K cc _ _ _ zs l h m s t _ (by omega) (own_cap P_3.out) P_3.out.len (P_3.out.row (fun _ => rfl)) (fun a ha => Nat.lt_of_lt_of_le (P_3.out.up a ha) P_3.out.hi_le) NM HK.out Hcc.out).mono ?_
  rintro e u4 ⟨A1, C1, rfl, ho, hb4⟩
  have e4 : u3.heap.size ≤ u4.heap.size := hb4.size
  clear f3_0o f3_1o f3_2o f3_3o
  have B4 := hide (B3.out.trans (hb4.mono B3.out.size))
  replace f3_0 := (hb4.cell (p := ⟨u2.heap.size, 0, none⟩) (show u2.heap.size < u3.heap.size from by omega)).trans f3_0
  replace f3_1 := (hb4.cell (p := ⟨u2.heap.size, 1, none⟩) (show u2.heap.size < u3.heap.size from by omega)).trans f3_1
  replace f3_2 := (hb4.cell (p := ⟨u2.heap.size, 2, none⟩) (show u2.heap.size < u3.heap.size from by omega)).trans f3_2
  replace f3_3 := (hb4.cell (p := ⟨u2.heap.size, 3, none⟩) (show u2.heap.size < u3.heap.size from by omega)).trans f3_3
  have P_4 := hide (P_3.out.below hb4)
  clear P_3
  clear hb4 B3
  have U_4 := hide ho
  clear ho
  go_wp2_with fail
  refine (spec_cheapestBlend K cc _ _ _ zs l h m s t _ (by omega) P_4.out.len (P_4.out.row (fun _ => rfl)) (fun a ha => Nat.lt_of_lt_of_le (P_4.out.up a ha) P_4.out.hi_le) NM HK.out Hcc.out).mono ?_
  rintro e u5 ⟨A2, C2, rfl, ho, hb5⟩
  have e5 : u4.heap.size ≤ u5.heap.size := hb5.size
  have B5 := hide (B4.out.trans (hb5.mono B4.out.size))
  replace f3_0 := (hb5.cell (p := ⟨u2.heap.size, 0, none⟩) (show u2.heap.size < u4.heap.size from by omega)).trans f3_0
  replace f3_1 := (hb5.cell (p := ⟨u2.heap.size, 1, none⟩) (show u2.heap.size < u4.heap.size from by omega)).trans f3_1
  replace f3_2 := (hb5.cell (p := ⟨u2.heap.size, 2, none⟩) (show u2.heap.size < u4.heap.size from by omega)).trans f3_2
  replace f3_3 := (hb5.cell (p := ⟨u2.heap.size, 3, none⟩) (show u2.heap.size < u4.heap.size from by omega)).trans f3_3
  have P_5 := hide (P_4.out.below hb5)
  clear P_4
  have U_5 := hide (U_4.out.below hb5)
  clear U_4
  clear hb5 B4
  have V_5 := hide ho
  clear ho
  go_wp2_with fail
  refine (impl_countBlends _ _ _ zs l h m s t _ (by omega) (own_cap P_5.out) P_5.out.len (P_5.out.row (fun _ => rfl)) (fun a ha => Nat.lt_of_lt_of_le (P_5.out.up a ha) P_5.out.hi_le) NM).mono ?_
  rintro e u6 ⟨rfl, hb6⟩
  have e6 : u5.heap.size ≤ u6.heap.size := hb6.size
  have B6 := hide (B5.out.trans (hb6.mono B5.out.size))
  replace f3_0 := (hb6.cell (p := ⟨u2.heap.size, 0, none⟩) (show u2.heap.size < u5.heap.size from by omega)).trans f3_0
  replace f3_1 := (hb6.cell (p := ⟨u2.heap.size, 1, none⟩) (show u2.heap.size < u5.heap.size from by omega)).trans f3_1
  replace f3_2 := (hb6.cell (p := ⟨u2.heap.size, 2, none⟩) (show u2.heap.size < u5.heap.size from by omega)).trans f3_2
  replace f3_3 := (hb6.cell (p := ⟨u2.heap.size, 3, none⟩) (show u2.heap.size < u5.heap.size from by omega)).trans f3_3
  have P_6 := hide (P_5.out.below hb6)
  clear P_5
  have U_6 := hide (U_5.out.below hb6)
  clear U_5
  have V_6 := hide (V_5.out.below hb6)
  clear V_5
  clear hb6 B5
  rw [Hkc.out, Hcb.out]
  go_wp2_with fail
  refine (spec_countBlends _ _ _ zs l h m s t _ (by omega) P_6.out.len (P_6.out.row (fun _ => rfl)) (fun a ha => Nat.lt_of_lt_of_le (P_6.out.up a ha) P_6.out.hi_le) NM).mono ?_
  rintro e u7 ⟨rfl, hb7⟩
  have e7 : u6.heap.size ≤ u7.heap.size := hb7.size
  have B7 := hide (B6.out.trans (hb7.mono B6.out.size))
  replace f3_0 := (hb7.cell (p := ⟨u2.heap.size, 0, none⟩) (show u2.heap.size < u6.heap.size from by omega)).trans f3_0
  replace f3_1 := (hb7.cell (p := ⟨u2.heap.size, 1, none⟩) (show u2.heap.size < u6.heap.size from by omega)).trans f3_1
  replace f3_2 := (hb7.cell (p := ⟨u2.heap.size, 2, none⟩) (show u2.heap.size < u6.heap.size from by omega)).trans f3_2
  replace f3_3 := (hb7.cell (p := ⟨u2.heap.size, 3, none⟩) (show u2.heap.size < u6.heap.size from by omega)).trans f3_3
  have P_7 := hide (P_6.out.below hb7)
  clear P_6
  have U_7 := hide (U_6.out.below hb7)
  clear U_6
  have V_7 := hide (V_6.out.below hb7)
  clear V_6
  clear hb7 B6
  rw [Hkc.out, Hcb.out]
  go_wp2_with fail
  refine (src_DrawBlendFault _ _ _ _ z0 (W0.out.below B7.out)).mono ?_
  rintro e u8 ⟨za, ps, ga, da, gp, dp, l2, h2, m2, s2, hla, hlp, hnma, rfl, ho, hop, hb8⟩
  have e8 : u7.heap.size ≤ u8.heap.size := hb8.size
  have B8 := hide (B7.out.trans (hb8.mono B7.out.size))
  replace f3_0 := (hb8.cell (p := ⟨u2.heap.size, 0, none⟩) (show u2.heap.size < u7.heap.size from by omega)).trans f3_0
  replace f3_1 := (hb8.cell (p := ⟨u2.heap.size, 1, none⟩) (show u2.heap.size < u7.heap.size from by omega)).trans f3_1
  replace f3_2 := (hb8.cell (p := ⟨u2.heap.size, 2, none⟩) (show u2.heap.size < u7.heap.size from by omega)).trans f3_2
  replace f3_3 := (hb8.cell (p := ⟨u2.heap.size, 3, none⟩) (show u2.heap.size < u7.heap.size from by omega)).trans f3_3
  have P_8 := hide (P_7.out.below hb8)
  clear P_7
  have U_8 := hide (U_7.out.below hb8)
  clear U_7
  have V_8 := hide (V_7.out.below hb8)
  clear V_7
  clear hb8 B7
  obtain ⟨na, hna⟩ : ∃ r, za.length = r := ⟨_, rfl⟩
  obtain ⟨np, hnp⟩ : ∃ r, ps.length = r := ⟨_, rfl⟩
  rw [hna] at ho hla ⊢
  rw [hnp] at hlp ⊢
  have Hna := hide hna
  have Hnp := hide hnp
  have Q_0 := hide ho
  have R_0 := hide hop
  have NA := names_short hnma
  clear ho hop hna hnp hnma
  obtain ⟨u9, hu9⟩ : ∃ u, u8.alloc (.cells #[.int .i64 l2, .int .i64 h2, .int .i64 m2, .int .i64 s2] 26) = u := ⟨_, rfl⟩
  have hb9 : Below u8.heap.size u8 u9 := by rw [← hu9]; exact (Below.refl _ _).alloc (Nat.le_refl _) _
  have e9 : u8.heap.size < u9.heap.size := by rw [← hu9]; simp
  have B9 := hide (B8.out.trans (hb9.mono B8.out.size))
  replace f3_0 := (hb9.cell (p := ⟨u2.heap.size, 0, none⟩) (show u2.heap.size < u8.heap.size from by omega)).trans f3_0
  replace f3_1 := (hb9.cell (p := ⟨u2.heap.size, 1, none⟩) (show u2.heap.size < u8.heap.size from by omega)).trans f3_1
  replace f3_2 := (hb9.cell (p := ⟨u2.heap.size, 2, none⟩) (show u2.heap.size < u8.heap.size from by omega)).trans f3_2
  replace f3_3 := (hb9.cell (p := ⟨u2.heap.size, 3, none⟩) (show u2.heap.size < u8.heap.size from by omega)).trans f3_3
  have f9_0 : u9.cell? ⟨u8.heap.size, 0, none⟩ = some (.int .i64 l2) := by rw [← hu9]; simp [go_sem]
  have f9_1 : u9.cell? ⟨u8.heap.size, 1, none⟩ = some (.int .i64 h2) := by rw [← hu9]; simp [go_sem]
  have f9_2 : u9.cell? ⟨u8.heap.size, 2, none⟩ = some (.int .i64 m2) := by rw [← hu9]; simp [go_sem]
  have f9_3 : u9.cell? ⟨u8.heap.size, 3, none⟩ = some (.int .i64 s2) := by rw [← hu9]; simp [go_sem]
  have f3_0o := f3_0
  rw [← hu9] at f3_0o
  have f3_1o := f3_1
  rw [← hu9] at f3_1o
  have f3_2o := f3_2
  rw [← hu9] at f3_2o
  have f3_3o := f3_3
  rw [← hu9] at f3_3o
  have f9_0o := f9_0
  rw [← hu9] at f9_0o
  have f9_1o := f9_1
  rw [← hu9] at f9_1o
  have f9_2o := f9_2
  rw [← hu9] at f9_2o
  have f9_3o := f9_3
  rw [← hu9] at f9_3o
  have P_9 := hide (P_8.out.below hb9)
  clear P_8
  have U_9 := hide (U_8.out.below hb9)
  clear U_8
  have V_9 := hide (V_8.out.below hb9)
  clear V_8
  have Q_9 := hide (Q_0.out.below hb9)
  clear Q_0
  have R_9 := hide (R_0.out.below hb9)
  clear R_0
  clear hb9 B8
  have HU9 := hide hu9
  clear hu9
  obtain ⟨K3, hK3⟩ : ∃ r, bfS za ps l2 h2 m2 s2 = r := ⟨_, rfl⟩
  obtain ⟨c3, hc3⟩ : ∃ r, bfC za ps l2 h2 m2 s2 = r := ⟨_, rfl⟩
  have HK3 := hide hK3
  have Hc3 := hide hc3
  clear hK3 hc3
  go_wp2_with fail
  rw [HU9.out]

  refine (impl_bf' K3 c3 _ _ _ _ _ _ za ps l2 h2 m2 s2 _ (by omega) (own_cap Q_9.out) (by omega) Hna.out Hnp.out (Q_9.out.row (fun _ => rfl)) R_9.out NA HK3.out Hc3.out).mono ?_
  rintro e u10 ⟨rfl, hb10⟩
  have e10 : u9.heap.size ≤ u10.heap.size := hb10.size
  clear f3_0o f3_1o f3_2o f3_3o f9_0o f9_1o f9_2o f9_3o
  have B10 := hide (B9.out.trans (hb10.mono B9.out.size))
  replace f3_0 := (hb10.cell (p := ⟨u2.heap.size, 0, none⟩) (show u2.heap.size < u9.heap.size from by omega)).trans f3_0
  replace f3_1 := (hb10.cell (p := ⟨u2.heap.size, 1, none⟩) (show u2.heap.size < u9.heap.size from by omega)).trans f3_1
  replace f3_2 := (hb10.cell (p := ⟨u2.heap.size, 2, none⟩) (show u2.heap.size < u9.heap.size from by omega)).trans f3_2
  replace f3_3 := (hb10.cell (p := ⟨u2.heap.size, 3, none⟩) (show u2.heap.size < u9.heap.size from by omega)).trans f3_3
  replace f9_0 := (hb10.cell (p := ⟨u8.heap.size, 0, none⟩) (show u8.heap.size < u9.heap.size from by omega)).trans f9_0
  replace f9_1 := (hb10.cell (p := ⟨u8.heap.size, 1, none⟩) (show u8.heap.size < u9.heap.size from by omega)).trans f9_1
  replace f9_2 := (hb10.cell (p := ⟨u8.heap.size, 2, none⟩) (show u8.heap.size < u9.heap.size from by omega)).trans f9_2
  replace f9_3 := (hb10.cell (p := ⟨u8.heap.size, 3, none⟩) (show u8.heap.size < u9.heap.size from by omega)).trans f9_3
  have P_10 := hide (P_9.out.below hb10)
  clear P_9
  have U_10 := hide (U_9.out.below hb10)
  clear U_9
  have V_10 := hide (V_9.out.below hb10)
  clear V_9
  have Q_10 := hide (Q_9.out.below hb10)
  clear Q_9
  have R_10 := hide (R_9.out.below hb10)
  clear R_9
  clear hb10 B9
  go_wp2_with fail
  refine (spec_bf' K3 c3 _ _ _ _ _ _ za ps l2 h2 m2 s2 _ (by omega) (own_cap Q_10.out) (by omega) Hna.out Hnp.out (Q_10.out.row (fun _ => rfl)) R_10.out NA HK3.out Hc3.out).mono ?_
  rintro e u11 ⟨rfl, hb11⟩
  have e11 : u10.heap.size ≤ u11.heap.size := hb11.size
  have B11 := hide (B10.out.trans (hb11.mono B10.out.size))
  replace f3_0 := (hb11.cell (p := ⟨u2.heap.size, 0, none⟩) (show u2.heap.size < u10.heap.size from by omega)).trans f3_0
  replace f3_1 := (hb11.cell (p := ⟨u2.heap.size, 1, none⟩) (show u2.heap.size < u10.heap.size from by omega)).trans f3_1
  replace f3_2 := (hb11.cell (p := ⟨u2.heap.size, 2, none⟩) (show u2.heap.size < u10.heap.size from by omega)).trans f3_2
  replace f3_3 := (hb11.cell (p := ⟨u2.heap.size, 3, none⟩) (show u2.heap.size < u10.heap.size from by omega)).trans f3_3
  replace f9_0 := (hb11.cell (p := ⟨u8.heap.size, 0, none⟩) (show u8.heap.size < u10.heap.size from by omega)).trans f9_0
  replace f9_1 := (hb11.cell (p := ⟨u8.heap.size, 1, none⟩) (show u8.heap.size < u10.heap.size from by omega)).trans f9_1
  replace f9_2 := (hb11.cell (p := ⟨u8.heap.size, 2, none⟩) (show u8.heap.size < u10.heap.size from by omega)).trans f9_2
  replace f9_3 := (hb11.cell (p := ⟨u8.heap.size, 3, none⟩) (show u8.heap.size < u10.heap.size from by omega)).trans f9_3
  have P_11 := hide (P_10.out.below hb11)
  clear P_10
  have U_11 := hide (U_10.out.below hb11)
  clear U_10
  have V_11 := hide (V_10.out.below hb11)
  clear V_10
  have Q_11 := hide (Q_10.out.below hb11)
  clear Q_10
  have R_11 := hide (R_10.out.below hb11)
  clear R_10
  clear hb11 B10
  go_wp2_with fail
  refine (src_DrawBlendOfTwo _ _ _ _ z0 (W0.out.below B11.out)).mono ?_
  rintro e u12 ⟨x0, x1, x2, x3, x4, y0, y1, y2, y3, y4, sh, hx0, hy0, rfl, hb12⟩
  have e12 : u11.heap.size ≤ u12.heap.size := hb12.size
  have B12 := hide (B11.out.trans (hb12.mono B11.out.size))
  replace f3_0 := (hb12.cell (p := ⟨u2.heap.size, 0, none⟩) (show u2.heap.size < u11.heap.size from by omega)).trans f3_0
  replace f3_1 := (hb12.cell (p := ⟨u2.heap.size, 1, none⟩) (show u2.heap.size < u11.heap.size from by omega)).trans f3_1
  replace f3_2 := (hb12.cell (p := ⟨u2.heap.size, 2, none⟩) (show u2.heap.size < u11.heap.size from by omega)).trans f3_2
  replace f3_3 := (hb12.cell (p := ⟨u2.heap.size, 3, none⟩) (show u2.heap.size < u11.heap.size from by omega)).trans f3_3
  replace f9_0 := (hb12.cell (p := ⟨u8.heap.size, 0, none⟩) (show u8.heap.size < u11.heap.size from by omega)).trans f9_0
  replace f9_1 := (hb12.cell (p := ⟨u8.heap.size, 1, none⟩) (show u8.heap.size < u11.heap.size from by omega)).trans f9_1
  replace f9_2 := (hb12.cell (p := ⟨u8.heap.size, 2, none⟩) (show u8.heap.size < u11.heap.size from by omega)).trans f9_2
  replace f9_3 := (hb12.cell (p := ⟨u8.heap.size, 3, none⟩) (show u8.heap.size < u11.heap.size from by omega)).trans f9_3
  have P_12 := hide (P_11.out.below hb12)
  clear P_11
  have U_12 := hide (U_11.out.below hb12)
  clear U_11
  have V_12 := hide (V_11.out.below hb12)
  clear V_11
  clear hb12 B11
  have hmx : x0.size ≤ maxLen := by unfold maxLen; omega
  have hmy : y0.size ≤ maxLen := by unfold maxLen; omega
  obtain ⟨u13, hu13⟩ : ∃ u, u12.alloc (.cells #[.string x0, .int .i64 x1, .int .i64 x2, .int .i64 x3, .int .i64 x4] 39) = u := ⟨_, rfl⟩
  have hb13 : Below u12.heap.size u12 u13 := by rw [← hu13]; exact (Below.refl _ _).alloc (Nat.le_refl _) _
  have e13 : u12.heap.size < u13.heap.size := by rw [← hu13]; simp
  have B13 := hide (B12.out.trans (hb13.mono B12.out.size))
  replace f3_0 := (hb13.cell (p := ⟨u2.heap.size, 0, none⟩) (show u2.heap.size < u12.heap.size from by omega)).trans f3_0
  replace f3_1 := (hb13.cell (p := ⟨u2.heap.size, 1, none⟩) (show u2.heap.size < u12.heap.size from by omega)).trans f3_1
  replace f3_2 := (hb13.cell (p := ⟨u2.heap.size, 2, none⟩) (show u2.heap.size < u12.heap.size from by omega)).trans f3_2
  replace f3_3 := (hb13.cell (p := ⟨u2.heap.size, 3, none⟩) (show u2.heap.size < u12.heap.size from by omega)).trans f3_3
  have f13_0 : u13.cell? ⟨u12.heap.size, 0, none⟩ = some (.string x0) := by rw [← hu13]; simp [go_sem]
  have f13_1 : u13.cell? ⟨u12.heap.size, 1, none⟩ = some (.int .i64 x1) := by rw [← hu13]; simp [go_sem]
  have f13_2 : u13.cell? ⟨u12.heap.size, 2, none⟩ = some (.int .i64 x2) := by rw [← hu13]; simp [go_sem]
  have f13_3 : u13.cell? ⟨u12.heap.size, 3, none⟩ = some (.int .i64 x3) := by rw [← hu13]; simp [go_sem]
  have f13_4 : u13.cell? ⟨u12.heap.size, 4, none⟩ = some (.int .i64 x4) := by rw [← hu13]; simp [go_sem]
  have f3_0o := f3_0
  rw [← hu13] at f3_0o
  have f3_1o := f3_1
  rw [← hu13] at f3_1o
  have f3_2o := f3_2
  rw [← hu13] at f3_2o
  have f3_3o := f3_3
  rw [← hu13] at f3_3o
  have f13_0o := f13_0
  rw [← hu13] at f13_0o
  have f13_1o := f13_1
  rw [← hu13] at f13_1o
  have f13_2o := f13_2
  rw [← hu13] at f13_2o
  have f13_3o := f13_3
  rw [← hu13] at f13_3o
  have f13_4o := f13_4
  rw [← hu13] at f13_4o
  have P_13 := hide (P_12.out.below hb13)
  clear P_12
  have U_13 := hide (U_12.out.below hb13)
  clear U_12
  have V_13 := hide (V_12.out.below hb13)
  clear V_12
  clear hb13 B12
  have HU13 := hide hu13
  clear hu13
  clear f3_0o f3_1o f3_2o f3_3o f13_0o f13_1o f13_2o f13_3o f13_4o
  obtain ⟨u14, hu14⟩ : ∃ u, u13.alloc (.cells #[.string y0, .int .i64 y1, .int .i64 y2, .int .i64 y3, .int .i64 y4] 39) = u := ⟨_, rfl⟩
  have hb14 : Below u13.heap.size u13 u14 := by rw [← hu14]; exact (Below.refl _ _).alloc (Nat.le_refl _) _
  have e14 : u13.heap.size < u14.heap.size := by rw [← hu14]; simp
  have B14 := hide (B13.out.trans (hb14.mono B13.out.size))
  replace f3_0 := (hb14.cell (p := ⟨u2.heap.size, 0, none⟩) (show u2.heap.size < u13.heap.size from by omega)).trans f3_0
  replace f3_1 := (hb14.cell (p := ⟨u2.heap.size, 1, none⟩) (show u2.heap.size < u13.heap.size from by omega)).trans f3_1
  replace f3_2 := (hb14.cell (p := ⟨u2.heap.size, 2, none⟩) (show u2.heap.size < u13.heap.size from by omega)).trans f3_2
  replace f3_3 := (hb14.cell (p := ⟨u2.heap.size, 3, none⟩) (show u2.heap.size < u13.heap.size from by omega)).trans f3_3
  replace f13_0 := (hb14.cell (p := ⟨u12.heap.size, 0, none⟩) (show u12.heap.size < u13.heap.size from by omega)).trans f13_0
  replace f13_1 := (hb14.cell (p := ⟨u12.heap.size, 1, none⟩) (show u12.heap.size < u13.heap.size from by omega)).trans f13_1
  replace f13_2 := (hb14.cell (p := ⟨u12.heap.size, 2, none⟩) (show u12.heap.size < u13.heap.size from by omega)).trans f13_2
  replace f13_3 := (hb14.cell (p := ⟨u12.heap.size, 3, none⟩) (show u12.heap.size < u13.heap.size from by omega)).trans f13_3
  replace f13_4 := (hb14.cell (p := ⟨u12.heap.size, 4, none⟩) (show u12.heap.size < u13.heap.size from by omega)).trans f13_4
  have hs14 : u13.heap.size = u12.heap.size + 1 := by rw [← HU13.out]; simp
  have f14_0 : u14.cell? ⟨u12.heap.size + 1, 0, none⟩ = some (.string y0) := by rw [← hu14, ← hs14]; simp [go_sem]
  have f14_1 : u14.cell? ⟨u12.heap.size + 1, 1, none⟩ = some (.int .i64 y1) := by rw [← hu14, ← hs14]; simp [go_sem]
  have f14_2 : u14.cell? ⟨u12.heap.size + 1, 2, none⟩ = some (.int .i64 y2) := by rw [← hu14, ← hs14]; simp [go_sem]
  have f14_3 : u14.cell? ⟨u12.heap.size + 1, 3, none⟩ = some (.int .i64 y3) := by rw [← hu14, ← hs14]; simp [go_sem]
  have f14_4 : u14.cell? ⟨u12.heap.size + 1, 4, none⟩ = some (.int .i64 y4) := by rw [← hu14, ← hs14]; simp [go_sem]
  have f3_0o := f3_0
  rw [← hu14] at f3_0o
  have f3_1o := f3_1
  rw [← hu14] at f3_1o
  have f3_2o := f3_2
  rw [← hu14] at f3_2o
  have f3_3o := f3_3
  rw [← hu14] at f3_3o
  have f13_0o := f13_0
  rw [← hu14] at f13_0o
  have f13_1o := f13_1
  rw [← hu14] at f13_1o
  have f13_2o := f13_2
  rw [← hu14] at f13_2o
  have f13_3o := f13_3
  rw [← hu14] at f13_3o
  have f13_4o := f13_4
  rw [← hu14] at f13_4o
  have f14_0o := f14_0
  rw [← hu14] at f14_0o
  have f14_1o := f14_1
  rw [← hu14] at f14_1o
  have f14_2o := f14_2
  rw [← hu14] at f14_2o
  have f14_3o := f14_3
  rw [← hu14] at f14_3o
  have f14_4o := f14_4
  rw [← hu14] at f14_4o
  have P_14 := hide (P_13.out.below hb14)
  clear P_13
  have U_14 := hide (U_13.out.below hb14)
  clear U_13
  have V_14 := hide (V_13.out.below hb14)
  clear V_13
  clear hb14 B13
  have HU14 := hide hu14
  clear hu14
  obtain ⟨pp, hpp⟩ : ∃ r, twoX ⟨x0, x1, x2, x3, x4⟩ ⟨y0, y1, y2, y3, y4⟩ sh = r := ⟨_, rfl⟩
  obtain ⟨qq, hqq⟩ : ∃ r, twoY ⟨x0, x1, x2, x3, x4⟩ ⟨y0, y1, y2, y3, y4⟩ sh = r := ⟨_, rfl⟩
  obtain ⟨c5, hc5⟩ : ∃ r, twoC ⟨x0, x1, x2, x3, x4⟩ ⟨y0, y1, y2, y3, y4⟩ sh = r := ⟨_, rfl⟩
  have Hpp := hide hpp
  have Hqq := hide hqq
  have Hc5 := hide hc5
  clear hpp hqq hc5
  go_wp2_with fail
  rw [HU13.out, HU14.out]

  refine (impl_two' pp qq c5 x0 y0 x1 x2 x3 x4 y1 y2 y3 y4 sh _ hmx hmy Hpp.out Hqq.out Hc5.out).mono ?_
  rintro e u15 ⟨rfl, hb15⟩
  have e15 : u14.heap.size ≤ u15.heap.size := hb15.size
  clear f3_0o f3_1o f3_2o f3_3o f13_0o f13_1o f13_2o f13_3o f13_4o f14_0o f14_1o f14_2o f14_3o f14_4o
  have B15 := hide (B14.out.trans (hb15.mono B14.out.size))
  replace f3_0 := (hb15.cell (p := ⟨u2.heap.size, 0, none⟩) (show u2.heap.size < u14.heap.size from by omega)).trans f3_0
  replace f3_1 := (hb15.cell (p := ⟨u2.heap.size, 1, none⟩) (show u2.heap.size < u14.heap.size from by omega)).trans f3_1
  replace f3_2 := (hb15.cell (p := ⟨u2.heap.size, 2, none⟩) (show u2.heap.size < u14.heap.size from by omega)).trans f3_2
  replace f3_3 := (hb15.cell (p := ⟨u2.heap.size, 3, none⟩) (show u2.heap.size < u14.heap.size from by omega)).trans f3_3
  replace f13_0 := (hb15.cell (p := ⟨u12.heap.size, 0, none⟩) (show u12.heap.size < u14.heap.size from by omega)).trans f13_0
  replace f13_1 := (hb15.cell (p := ⟨u12.heap.size, 1, none⟩) (show u12.heap.size < u14.heap.size from by omega)).trans f13_1
  replace f13_2 := (hb15.cell (p := ⟨u12.heap.size, 2, none⟩) (show u12.heap.size < u14.heap.size from by omega)).trans f13_2
  replace f13_3 := (hb15.cell (p := ⟨u12.heap.size, 3, none⟩) (show u12.heap.size < u14.heap.size from by omega)).trans f13_3
  replace f13_4 := (hb15.cell (p := ⟨u12.heap.size, 4, none⟩) (show u12.heap.size < u14.heap.size from by omega)).trans f13_4
  replace f14_0 := (hb15.cell (p := ⟨u12.heap.size + 1, 0, none⟩) (show u12.heap.size + 1 < u14.heap.size from by omega)).trans f14_0
  replace f14_1 := (hb15.cell (p := ⟨u12.heap.size + 1, 1, none⟩) (show u12.heap.size + 1 < u14.heap.size from by omega)).trans f14_1
  replace f14_2 := (hb15.cell (p := ⟨u12.heap.size + 1, 2, none⟩) (show u12.heap.size + 1 < u14.heap.size from by omega)).trans f14_2
  replace f14_3 := (hb15.cell (p := ⟨u12.heap.size + 1, 3, none⟩) (show u12.heap.size + 1 < u14.heap.size from by omega)).trans f14_3
  replace f14_4 := (hb15.cell (p := ⟨u12.heap.size + 1, 4, none⟩) (show u12.heap.size + 1 < u14.heap.size from by omega)).trans f14_4
  have P_15 := hide (P_14.out.below hb15)
  clear P_14
  have U_15 := hide (U_14.out.below hb15)
  clear U_14
  have V_15 := hide (V_14.out.below hb15)
  clear V_14
  clear hb15 B14
  go_wp2_with fail
  refine (spec_two' pp qq c5 x0 y0 x1 x2 x3 x4 y1 y2 y3 y4 sh _ hmx hmy Hpp.out Hqq.out Hc5.out).mono ?_
  rintro e u16 ⟨rfl, hb16⟩
  have e16 : u15.heap.size ≤ u16.heap.size := hb16.size
  have B16 := hide (B15.out.trans (hb16.mono B15.out.size))
  replace f3_0 := (hb16.cell (p := ⟨u2.heap.size, 0, none⟩) (show u2.heap.size < u15.heap.size from by omega)).trans f3_0
  replace f3_1 := (hb16.cell (p := ⟨u2.heap.size, 1, none⟩) (show u2.heap.size < u15.heap.size from by omega)).trans f3_1
  replace f3_2 := (hb16.cell (p := ⟨u2.heap.size, 2, none⟩) (show u2.heap.size < u15.heap.size from by omega)).trans f3_2
  replace f3_3 := (hb16.cell (p := ⟨u2.heap.size, 3, none⟩) (show u2.heap.size < u15.heap.size from by omega)).trans f3_3
  replace f13_0 := (hb16.cell (p := ⟨u12.heap.size, 0, none⟩) (show u12.heap.size < u15.heap.size from by omega)).trans f13_0
  replace f13_1 := (hb16.cell (p := ⟨u12.heap.size, 1, none⟩) (show u12.heap.size < u15.heap.size from by omega)).trans f13_1
  replace f13_2 := (hb16.cell (p := ⟨u12.heap.size, 2, none⟩) (show u12.heap.size < u15.heap.size from by omega)).trans f13_2
  replace f13_3 := (hb16.cell (p := ⟨u12.heap.size, 3, none⟩) (show u12.heap.size < u15.heap.size from by omega)).trans f13_3
  replace f13_4 := (hb16.cell (p := ⟨u12.heap.size, 4, none⟩) (show u12.heap.size < u15.heap.size from by omega)).trans f13_4
  replace f14_0 := (hb16.cell (p := ⟨u12.heap.size + 1, 0, none⟩) (show u12.heap.size + 1 < u15.heap.size from by omega)).trans f14_0
  replace f14_1 := (hb16.cell (p := ⟨u12.heap.size + 1, 1, none⟩) (show u12.heap.size + 1 < u15.heap.size from by omega)).trans f14_1
  replace f14_2 := (hb16.cell (p := ⟨u12.heap.size + 1, 2, none⟩) (show u12.heap.size + 1 < u15.heap.size from by omega)).trans f14_2
  replace f14_3 := (hb16.cell (p := ⟨u12.heap.size + 1, 3, none⟩) (show u12.heap.size + 1 < u15.heap.size from by omega)).trans f14_3
  replace f14_4 := (hb16.cell (p := ⟨u12.heap.size + 1, 4, none⟩) (show u12.heap.size + 1 < u15.heap.size from by omega)).trans f14_4
  have P_16 := hide (P_15.out.below hb16)
  clear P_15
  have U_16 := hide (U_15.out.below hb16)
  clear U_15
  have V_16 := hide (V_15.out.below hb16)
  clear V_15
  clear hb16 B15
  have hsn := str_ne K3
  have hsn2 : (K3.toList == K3.toList) = true := by simp
  go_wp2_with fail
  refine (quiet_below (f6ints_same _ _ _ _ _ K _ (by omega) rfl (U_16.out.row (fun _ => rfl)) (V_16.out.row (fun _ => rfl)))).mono ?_
  rintro e u17 ⟨rfl, hb17⟩
  have e17 : u16.heap.size ≤ u17.heap.size := hb17.size
  have B17 := hide (B16.out.trans (hb17.mono B16.out.size))
  replace f3_0 := (hb17.cell (p := ⟨u2.heap.size, 0, none⟩) (show u2.heap.size < u16.heap.size from by omega)).trans f3_0
  replace f3_1 := (hb17.cell (p := ⟨u2.heap.size, 1, none⟩) (show u2.heap.size < u16.heap.size from by omega)).trans f3_1
  replace f3_2 := (hb17.cell (p := ⟨u2.heap.size, 2, none⟩) (show u2.heap.size < u16.heap.size from by omega)).trans f3_2
  replace f3_3 := (hb17.cell (p := ⟨u2.heap.size, 3, none⟩) (show u2.heap.size < u16.heap.size from by omega)).trans f3_3
  replace f13_0 := (hb17.cell (p := ⟨u12.heap.size, 0, none⟩) (show u12.heap.size < u16.heap.size from by omega)).trans f13_0
  replace f13_1 := (hb17.cell (p := ⟨u12.heap.size, 1, none⟩) (show u12.heap.size < u16.heap.size from by omega)).trans f13_1
  replace f13_2 := (hb17.cell (p := ⟨u12.heap.size, 2, none⟩) (show u12.heap.size < u16.heap.size from by omega)).trans f13_2
  replace f13_3 := (hb17.cell (p := ⟨u12.heap.size, 3, none⟩) (show u12.heap.size < u16.heap.size from by omega)).trans f13_3
  replace f13_4 := (hb17.cell (p := ⟨u12.heap.size, 4, none⟩) (show u12.heap.size < u16.heap.size from by omega)).trans f13_4
  replace f14_0 := (hb17.cell (p := ⟨u12.heap.size + 1, 0, none⟩) (show u12.heap.size + 1 < u16.heap.size from by omega)).trans f14_0
  replace f14_1 := (hb17.cell (p := ⟨u12.heap.size + 1, 1, none⟩) (show u12.heap.size + 1 < u16.heap.size from by omega)).trans f14_1
  replace f14_2 := (hb17.cell (p := ⟨u12.heap.size + 1, 2, none⟩) (show u12.heap.size + 1 < u16.heap.size from by omega)).trans f14_2
  replace f14_3 := (hb17.cell (p := ⟨u12.heap.size + 1, 3, none⟩) (show u12.heap.size + 1 < u16.heap.size from by omega)).trans f14_3
  replace f14_4 := (hb17.cell (p := ⟨u12.heap.size + 1, 4, none⟩) (show u12.heap.size + 1 < u16.heap.size from by omega)).trans f14_4
  have P_17 := hide (P_16.out.below hb17)
  clear P_16
  have U_17 := hide (U_16.out.below hb17)
  clear U_16
  have V_17 := hide (V_16.out.below hb17)
  clear V_16
  clear hb17 B16
  go_upto_region 16 with fail
  clear hsn hsn2
  go_cut [192] (fun v wx => v = .bool false ∧ Hid (Below u17.heap.size u17 wx))
  case first =>
    by_cases hc5 : c5 = 0
    · subst hc5
      have TL := two_law Hc5.out
      rw [Hpp.out, Hqq.out] at TL
      obtain ⟨⟨l1, l2'⟩, ⟨l3, l4⟩, ⟨l5, l6⟩, ⟨l7, l8⟩, ⟨l9, l10⟩, l11, l12⟩ := TL
      have l5 : 0 ≤ x1 := l5
      have l6 : x1 ≤ 200 := l6
      have l7 : 0 ≤ y1 := l7
      have l8 : y1 ≤ 200 := l8
      have l11 : pp * x1 + qq * y1 = (pp + qq) * sh := l11
      have b1 := mul_bd pp x1 200 200 l1 l2' l5 l6 (by omega)
      have b2 := mul_bd qq y1 200 200 l3 l4 l7 l8 (by omega)
      have b3 := mul_bd (pp + qq) sh 400 200 (by omega) (by omega) l9 l10 (by omega)
      have v1 := Go.IntWalk.i64_in (pp * x1) ⟨by omega, by omega⟩
      have v2 := Go.IntWalk.i64_in (qq * y1) ⟨by omega, by omega⟩
      have v3 := Go.IntWalk.i64_in (pp * x1 + qq * y1) ⟨by omega, by omega⟩
      have v4 := Go.IntWalk.i64_in (pp + qq) ⟨by omega, by omega⟩
      have v5 := Go.IntWalk.i64_in ((pp + qq) * sh) ⟨by omega, by omega⟩
      have d1 : ¬ (pp < 0) := by omega
      have d2 : ¬ (qq < 0) := by omega
      have d3 : ¬ (pp + qq < 1) := by omega
      have d4 : (pp * x1 + qq * y1 != (pp + qq) * sh) = false := by rw [l11]; simp
      have d5 : (pp * x1 + qq * y1 == (pp + qq) * sh) = true := by rw [l11]; simp
      clear b1 b2 b3 l11
      go_wp2
      go_meet
      exact ⟨rfl, hide (Below.refl _ _)⟩
    · have dc5 : (c5 == 0) = false := by simpa using hc5
      go_wp2
      go_meet
      exact ⟨rfl, hide (Below.refl _ _)⟩
  case rest =>
    as_aux_lemma =>
      obtain ⟨rfl, hcut⟩ := hcut
      clear Hpp Hqq Hc5 f13_0 f13_1 f13_2 f13_3 f13_4 f14_0 f14_1 f14_2 f14_3 f14_4
      have hcu := hcut.out
      clear hcut
      obtain ⟨wd2, hwd2⟩ : ∃ u, wc = u := ⟨_, rfl⟩
      rw [hwd2] at hcu ⊢
      clear hwd2
      have P_cwd2 := hide (P_17.out.below hcu)
      clear P_17
      have V_cwd2 := hide (V_17.out.below hcu)
      clear V_17
      replace f3_0 := (hcu.cell (p := ⟨u2.heap.size, 0, none⟩) (show u2.heap.size < u17.heap.size from by omega)).trans f3_0
      replace f3_1 := (hcu.cell (p := ⟨u2.heap.size, 1, none⟩) (show u2.heap.size < u17.heap.size from by omega)).trans f3_1
      replace f3_2 := (hcu.cell (p := ⟨u2.heap.size, 2, none⟩) (show u2.heap.size < u17.heap.size from by omega)).trans f3_2
      replace f3_3 := (hcu.cell (p := ⟨u2.heap.size, 3, none⟩) (show u2.heap.size < u17.heap.size from by omega)).trans f3_3
      have Bwd2 := hide (B17.out.trans (hcu.mono B17.out.size))
      clear B17
      have hzwd2 := hcu.size
      clear hcu
      go_upto_region 18 with fail
      go_cut [201] (fun v wx => v = .bool false ∧ Hid (Below wd2.heap.size wd2 wx))
      case first =>
        by_cases hcb : cb = 0
        · subst hcb
          have hcl := count_law Hcb.out
          rw [Hkc.out, Hcc.out] at hcl
          obtain ⟨bb, hbb⟩ : ∃ b, (kc == 0) = b := ⟨_, rfl⟩
          have hbc : (cc == 3) = bb := by
            rw [← hbb]
            by_cases q : kc = 0
            · rw [hcl.1 q, q]; rfl
            · have : ¬ cc = 3 := fun r => q (hcl.2 r)
              rw [show (kc == 0) = false from by simpa using q]; simpa using this
          clear hcl
          go_wp2
          go_meet
          exact ⟨rfl, hide (Below.refl _ _)⟩
        · have dcb : (cb == 0) = false := by simpa using hcb
          go_wp2
          go_meet
          exact ⟨rfl, hide (Below.refl _ _)⟩
      case rest =>
        as_aux_lemma =>
          obtain ⟨rfl, hcut⟩ := hcut
          clear Hkc Hcb
          have hcu := hcut.out
          clear hcut
          obtain ⟨we2, hwe2⟩ : ∃ u, wc = u := ⟨_, rfl⟩
          rw [hwe2] at hcu ⊢
          clear hwe2
          have P_cwe2 := hide (P_cwd2.out.below hcu)
          clear P_cwd2
          have V_cwe2 := hide (V_cwd2.out.below hcu)
          clear V_cwd2
          replace f3_0 := (hcu.cell (p := ⟨u2.heap.size, 0, none⟩) (show u2.heap.size < wd2.heap.size from by omega)).trans f3_0
          replace f3_1 := (hcu.cell (p := ⟨u2.heap.size, 1, none⟩) (show u2.heap.size < wd2.heap.size from by omega)).trans f3_1
          replace f3_2 := (hcu.cell (p := ⟨u2.heap.size, 2, none⟩) (show u2.heap.size < wd2.heap.size from by omega)).trans f3_2
          replace f3_3 := (hcu.cell (p := ⟨u2.heap.size, 3, none⟩) (show u2.heap.size < wd2.heap.size from by omega)).trans f3_3
          have Bwe2 := hide (Bwd2.out.trans (hcu.mono Bwd2.out.size))
          clear Bwd2
          have hzwe2 := hcu.size
          clear hcu
          by_cases hcc : cc = 0
          case neg =>
            have d1 : (cc == 0) = false := by simpa using hcc
            clear hcc
            go_wp2
            go_ret
            exact ⟨rfl, Bwe2.out⟩
          subst hcc
          obtain ⟨⟨q1, q2, q3, q4⟩, q5, q6, q7, q8, q9, q10, q11⟩ := blend_law Hcc.out
          rw [HK.out] at q5 q6 q7 q8 q9 q10 q11
          rw [Hnz.out] at q8 q10 q11
          have hpb := price_bd q1 q9 (by rw [q8]; exact Hnz.out.symm) (by rw [q8, q10]; exact q4) (by rw [q8, q10]; exact q3)
          have hsix := clays_six q1
          rw [Hnz.out] at hsix
          obtain ⟨X, hX⟩ : ∃ r, mnum (valOf 3) zs K = r := ⟨_, rfl⟩
          obtain ⟨Y, hY⟩ : ∃ r, mden (valOf 3) zs K = r := ⟨_, rfl⟩
          rw [hX, hY] at hpb q11
          obtain ⟨⟨x00, x09⟩, y00, y09⟩ := hpb
          have HX := hide hX
          have HY := hide hY
          have HSC := hide q5
          have HBC := hide q6
          have HBS := hide (show bfS zs K l h m s = ⟨#[110, 111, 110, 101]⟩ from q7)
          have HKL := hide q8
          have HSUM := hide (show sumT K nz = t from by rw [sumT_K]; exact q10)
          have HBD := hide (show ∀ k, k ≤ nz → -9000000000000000000 ≤ sumT K k ∧ sumT K k ≤ 9000000000000000000 from fun k hk => by
            rw [sumT_K]
            have := sumK_in q9 k
            omega)
          have HQ1 := hide q1
          have LAW := hide q11
          clear q5 q6 q7 q8 q9 q10 q11 hX hY q2 q1
          go_wp2_with fail
          refine (impl_bf' ⟨#[110, 111, 110, 101]⟩ 0 _ _ _ _ _ _ zs K l h m s _ (by omega) (own_cap P_cwe2.out) (by omega) Hnz.out rfl (show Row Clay.enc 5 we2 (some ⟨g, 0, none⟩) zs from P_cwe2.out.row (fun _ => rfl)) (show Row encI 1 we2 A2 K from V_cwe2.out.row (fun _ => rfl)) NM HBS.out HBC.out).mono ?_
          rintro e u18 ⟨rfl, hb18⟩
          have e18 : we2.heap.size ≤ u18.heap.size := hb18.size
          have B18 := hide (Bwe2.out.trans (hb18.mono Bwe2.out.size))
          replace f3_0 := (hb18.cell (p := ⟨u2.heap.size, 0, none⟩) (show u2.heap.size < we2.heap.size from by omega)).trans f3_0
          replace f3_1 := (hb18.cell (p := ⟨u2.heap.size, 1, none⟩) (show u2.heap.size < we2.heap.size from by omega)).trans f3_1
          replace f3_2 := (hb18.cell (p := ⟨u2.heap.size, 2, none⟩) (show u2.heap.size < we2.heap.size from by omega)).trans f3_2
          replace f3_3 := (hb18.cell (p := ⟨u2.heap.size, 3, none⟩) (show u2.heap.size < we2.heap.size from by omega)).trans f3_3
          have P_18 := hide (P_cwe2.out.below hb18)
          clear P_cwe2
          have V_18 := hide (V_cwe2.out.below hb18)
          clear V_cwe2
          clear hb18 Bwe2
          go_wp2_with fail
          refine (impl_BlendPrice _ _ _ _ _ _ zs K X Y 0 _ HX.out HY.out HSC.out (by omega) (own_cap P_18.out) (by omega) Hnz.out rfl (show Row Clay.enc 5 u18 (some ⟨g, 0, none⟩) zs from P_18.out.row (fun _ => rfl)) (show Row encI 1 u18 A2 K from V_18.out.row (fun _ => rfl)) NM).mono ?_
          rintro e u19 ⟨rfl, hb19⟩
          have e19 : u18.heap.size ≤ u19.heap.size := hb19.size
          have B19 := hide (B18.out.trans (hb19.mono B18.out.size))
          replace f3_0 := (hb19.cell (p := ⟨u2.heap.size, 0, none⟩) (show u2.heap.size < u18.heap.size from by omega)).trans f3_0
          replace f3_1 := (hb19.cell (p := ⟨u2.heap.size, 1, none⟩) (show u2.heap.size < u18.heap.size from by omega)).trans f3_1
          replace f3_2 := (hb19.cell (p := ⟨u2.heap.size, 2, none⟩) (show u2.heap.size < u18.heap.size from by omega)).trans f3_2
          replace f3_3 := (hb19.cell (p := ⟨u2.heap.size, 3, none⟩) (show u2.heap.size < u18.heap.size from by omega)).trans f3_3
          have P_19 := hide (P_18.out.below hb19)
          clear P_18
          have V_19 := hide (V_18.out.below hb19)
          clear V_18
          clear hb19 B18
          obtain ⟨u20, hu20⟩ : ∃ u, u19.alloc (.cells #[.int .i64 X, .int .i64 Y] 46) = u := ⟨_, rfl⟩
          have hb20 : Below u19.heap.size u19 u20 := by rw [← hu20]; exact (Below.refl _ _).alloc (Nat.le_refl _) _
          have e20 : u19.heap.size < u20.heap.size := by rw [← hu20]; simp
          have B20 := hide (B19.out.trans (hb20.mono B19.out.size))
          replace f3_0 := (hb20.cell (p := ⟨u2.heap.size, 0, none⟩) (show u2.heap.size < u19.heap.size from by omega)).trans f3_0
          replace f3_1 := (hb20.cell (p := ⟨u2.heap.size, 1, none⟩) (show u2.heap.size < u19.heap.size from by omega)).trans f3_1
          replace f3_2 := (hb20.cell (p := ⟨u2.heap.size, 2, none⟩) (show u2.heap.size < u19.heap.size from by omega)).trans f3_2
          replace f3_3 := (hb20.cell (p := ⟨u2.heap.size, 3, none⟩) (show u2.heap.size < u19.heap.size from by omega)).trans f3_3
          have f20_0 : u20.cell? ⟨u19.heap.size, 0, none⟩ = some (.int .i64 X) := by rw [← hu20]; simp [go_sem]
          have f20_1 : u20.cell? ⟨u19.heap.size, 1, none⟩ = some (.int .i64 Y) := by rw [← hu20]; simp [go_sem]
          have f3_0o := f3_0
          rw [← hu20] at f3_0o
          have f3_1o := f3_1
          rw [← hu20] at f3_1o
          have f3_2o := f3_2
          rw [← hu20] at f3_2o
          have f3_3o := f3_3
          rw [← hu20] at f3_3o
          have f20_0o := f20_0
          rw [← hu20] at f20_0o
          have f20_1o := f20_1
          rw [← hu20] at f20_1o
          have P_20 := hide (P_19.out.below hb20)
          clear P_19
          have V_20 := hide (V_19.out.below hb20)
          clear V_19
          clear hb20 B19
          have HU20 := hide hu20
          clear hu20
          have hkn := HKL.out
          go_wp2_with fail
          rw [HU20.out]

          refine (f6sum_is _ nz _ K _ (by omega) HKL.out (show Row encI 1 u20 A2 K from V_20.out.row (fun _ => rfl)) HBD.out).mono ?_
          rintro e u21 ⟨rfl, hb21⟩
          have e21 : u20.heap.size ≤ u21.heap.size := hb21.size
          clear f3_0o f3_1o f3_2o f3_3o f20_0o f20_1o
          have B21 := hide (B20.out.trans (hb21.mono B20.out.size))
          replace f3_0 := (hb21.cell (p := ⟨u2.heap.size, 0, none⟩) (show u2.heap.size < u20.heap.size from by omega)).trans f3_0
          replace f3_1 := (hb21.cell (p := ⟨u2.heap.size, 1, none⟩) (show u2.heap.size < u20.heap.size from by omega)).trans f3_1
          replace f3_2 := (hb21.cell (p := ⟨u2.heap.size, 2, none⟩) (show u2.heap.size < u20.heap.size from by omega)).trans f3_2
          replace f3_3 := (hb21.cell (p := ⟨u2.heap.size, 3, none⟩) (show u2.heap.size < u20.heap.size from by omega)).trans f3_3
          replace f20_0 := (hb21.cell (p := ⟨u19.heap.size, 0, none⟩) (show u19.heap.size < u20.heap.size from by omega)).trans f20_0
          replace f20_1 := (hb21.cell (p := ⟨u19.heap.size, 1, none⟩) (show u19.heap.size < u20.heap.size from by omega)).trans f20_1
          have P_21 := hide (P_20.out.below hb21)
          clear P_20
          have V_21 := hide (V_20.out.below hb21)
          clear V_20
          clear hb21 B20
          rw [HSUM.out]
          have Mf3_0 := hide (show ∀ w', Below u21.heap.size u21 w' → w'.cell? ⟨u2.heap.size, 0, none⟩ = _ from fun w' hb => (hb.cell (p := ⟨u2.heap.size, 0, none⟩) (show u2.heap.size < u21.heap.size from by omega)).trans f3_0)
          have Mf3_1 := hide (show ∀ w', Below u21.heap.size u21 w' → w'.cell? ⟨u2.heap.size, 1, none⟩ = _ from fun w' hb => (hb.cell (p := ⟨u2.heap.size, 1, none⟩) (show u2.heap.size < u21.heap.size from by omega)).trans f3_1)
          have Mf3_2 := hide (show ∀ w', Below u21.heap.size u21 w' → w'.cell? ⟨u2.heap.size, 2, none⟩ = _ from fun w' hb => (hb.cell (p := ⟨u2.heap.size, 2, none⟩) (show u2.heap.size < u21.heap.size from by omega)).trans f3_2)
          have Mf3_3 := hide (show ∀ w', Below u21.heap.size u21 w' → w'.cell? ⟨u2.heap.size, 3, none⟩ = _ from fun w' hb => (hb.cell (p := ⟨u2.heap.size, 3, none⟩) (show u2.heap.size < u21.heap.size from by omega)).trans f3_3)
          have Mf20_0 := hide (show ∀ w', Below u21.heap.size u21 w' → w'.cell? ⟨u19.heap.size, 0, none⟩ = _ from fun w' hb => (hb.cell (p := ⟨u19.heap.size, 0, none⟩) (show u19.heap.size < u21.heap.size from by omega)).trans f20_0)
          have Mf20_1 := hide (show ∀ w', Below u21.heap.size u21 w' → w'.cell? ⟨u19.heap.size, 1, none⟩ = _ from fun w' hb => (hb.cell (p := ⟨u19.heap.size, 1, none⟩) (show u19.heap.size < u21.heap.size from by omega)).trans f20_1)
          obtain ⟨i0, hi, hy0', hy1, hy2⟩ := info_parts info_I64
          have HI := hide hi
          have HY0 := hide hy0'
          have HY1 := hide hy1
          have HY2 := hide hy2
          clear hi hy0' hy1 hy2 hkn
          go_wp2
          go_loopw [34] (fun iv wr => ∃ k : Nat, k ≤ nz ∧ iv = .int .i64 (k : Int) ∧ Hid (Below u21.heap.size u21 wr)) (fun iv _ => nz - (intOf iv).toNat)
          case atStart => exact ⟨0, by omega, rfl, hide (Below.refl _ _)⟩
          case round =>
            obtain ⟨k, hk, rfl, HW⟩ := hrel
            by_cases hlt : k < nz
            · have hkn : (k : Int) < (nz : Int) := by omega
              have hUS := HW.out.size
              go_wp2_with (at_make; go_loud (refine wpList_make_full _ rfl _ _ _ rfl u21.heap.size 2 i0 _ 1 Try.underlying29 HI.out HY0.out HY1.out .i64 .i64 _ _ nz rfl rfl rfl rfl (by rw [HY2.out]; omega) (by unfold maxLen; omega) hUS ?_; intro r2 hown2 hg2; rw [made_ints] at hown2; obtain ⟨v0, e0, f0⟩ := own_at_1 (i := k) hown2 hlt; obtain ⟨hP6, hg6⟩ := own_int_set (i := k) t hown2 hlt; have HP6 := hide hP6; have hB6 := (HW.out.grown hg2 hUS (by simp)).grown hg6 (Nat.le_trans hUS hg2.size) (fun j hj => by injection hj with hj; have := (own_lt hown2).1; omega); have nf3_0 := Mf3_0.out _ hB6; have nf3_1 := Mf3_1.out _ hB6; have nf3_2 := Mf3_2.out _ hB6; have nf3_3 := Mf3_3.out _ hB6; have HW6 := hide hB6; clear hP6 hg6 hown2 hg2 hB6))
              clear v0 e0 f0
              obtain ⟨⟨z0', z1', z2', z3', z4'⟩, hz⟩ : ∃ z, zs[k]? = some z := ⟨zs[k]'(by have := Hnz.out; omega), List.getElem?_eq_getElem (by have := Hnz.out; omega)⟩
              obtain ⟨hc9, hlaw⟩ := LAW.out k _ hz
              obtain ⟨K9, hK9⟩ : ∃ r, bfS zs (single nz k t) l h m s = r := ⟨_, rfl⟩
              rw [hK9] at hlaw
              have HK9 := hide hK9
              have HC9 := hide hc9
              refine (impl_bf' K9 0 _ _ _ _ _ _ zs (single nz k t) l h m s _ (by omega) (own_cap P_21.out) (by omega) Hnz.out (single_length ..) ((show Row Clay.enc 5 u21 (some ⟨g, 0, none⟩) zs from P_21.out.row (fun _ => rfl)).below HW6.out) (Row.of_own (fun _ => rfl) (single_length ..) HP6.out) NM HK9.out HC9.out).mono ?_
              rintro e y1 ⟨rfl, hb⟩
              have HW7 := hide (HW6.out.trans (hb.mono HW6.out.size))
              obtain ⟨-, -, -, -, pz0, pz1⟩ : True ∧ True ∧ True ∧ True ∧ 0 ≤ z4' ∧ z4' ≤ 10000 := by
                have := clay_in HQ1.out hz
                exact ⟨trivial, trivial, trivial, trivial, this.2.2.2.2.1, this.2.2.2.2.2⟩
              clear hc9 hK9 hb HP6 HW6 nf3_0 nf3_1 nf3_2 nf3_3
              obtain ⟨b9, hb9⟩ : ∃ b, (K9.toList == [110, 111, 110, 101]) = b := ⟨_, rfl⟩
              cases b9
              · go_wp2
                go_quiet (fail)
                go_wp2
                go_roundw
                case rel => exact ⟨k + 1, by omega, by go_num, hide (below_drewN HW7.out _)⟩
                case measure => simp [intOf]; omega
              · have hle := hlaw (by
                  have h1 : K9.toList = [110, 111, 110, 101] := by simpa using hb9
                  rw [Lib.toList_data] at h1
                  apply ByteArray.ext
                  apply Array.toList_inj.1
                  rw [h1]
                  rfl)
                have hle : X ≤ z4' * Y := hle
                have hmb := mul_bd z4' Y 10000 12 pz0 pz1 y00 y09 (by omega)
                have v1 := Go.IntWalk.i64_in (z4' * Y) ⟨by omega, by omega⟩
                have d1 : ¬ (z4' * Y < X) := by omega
                obtain ⟨bq, oq, hqe, hbq, g0, g1, g2, g3, g4⟩ := row_at_5 ((show Row Clay.enc 5 u21 (some ⟨g, 0, none⟩) zs from P_21.out.row (fun _ => rfl)).below HW7.out) hz rfl
                obtain ⟨rfl, rfl⟩ : g = bq ∧ 0 = oq := by injection hqe with h1; injection h1 with h1 h2; exact ⟨h1, h2⟩
                rw [Nat.zero_add] at g4
                have fx := Mf20_0.out _ HW7.out
                have fy := Mf20_1.out _ HW7.out
                clear g0 g1 g2 g3 hqe hmb hz hlaw hle
                go_wp2
                go_quiet (fail)
                go_wp2
                go_roundw
                case rel => exact ⟨k + 1, by omega, by go_num, hide (below_drewN HW7.out _)⟩
                case measure => simp [intOf]; omega
            · obtain rfl : k = nz := by omega
              go_wp2
              go_ret
              exact ⟨rfl, B21.out.trans (HW.out.mono B21.out.size)⟩
end Go.Proofs.Ytgobpleckeeheaa
