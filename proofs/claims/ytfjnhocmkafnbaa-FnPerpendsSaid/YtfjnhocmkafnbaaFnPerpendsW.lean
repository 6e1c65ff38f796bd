/-
  What is proved: the law FnPerpends returns true and changes nothing that was there, for every input. No conditions beyond the arguments' own ranges.
-/
import Derived.Test.YtfjnhocmkafnbaaApart
import Derived.Test.YtfjnhocmkafnbaaA2B
import Derived.Test.YtfjnhocmkafnbaaPerps
namespace Go.Proofs.Ytfjnhocmkafnbaa
open Go.RowKit
set_option linter.unusedVariables false

theorem bond_small {s : ByteArray} {zs : List Course} (h : bondOk s zs = true) : s.size ≤ maxLen ∧ zs.length ≤ 8 ∧ Texts zs := by
  refine ⟨?_, (bond_len h).2, fun k z hz => ?_⟩
  · have : nameB s = true := by
      unfold bondOk at h
      rw [Bool.and_eq_true] at h
      exact h.1
    have := (of_decide_eq_true this).2.1
    unfold maxLen
    omega
  · obtain ⟨x, y⟩ := z
    obtain ⟨h3, -, h4, -⟩ := course_split (bond_course h hz)
    unfold maxLen
    constructor <;> simp <;> omega
set_option maxRecDepth 100000 in
set_option maxHeartbeats 4000000 in
theorem fnPerpendsWalk (a0 : Option Addr) (n0 c0 : Nat) (z0 : List Int) (a1 : Option Addr) (n1 c1 : Nat) (z1 : List Int) (w : World) (w0 : ArgInts .u8 w a0 n0 c0 z0) (w1 : ArgInts .u8 w a1 n1 c1 z1) :
    Calls Try.prog 6 #[.slice a0 n0 c0, .slice a1 n1 c1] w fun e w' => e = .returned (.bool true) ∧ Below w.heap.size w w' := by
  have W0 := hide w0
  have W1 := hide w1
  clear w0 w1
  by_cases hlong : 3000 < n0
  · go_enter Try.func6, Try.ntmps6
    go_wp2_with fail
    refine (a2Long_yes _ _ _ _ _ _ _ hlong).mono ?_
    rintro e w1 ⟨rfl, rfl⟩
    go_wp2
    go_ret
    exact ⟨rfl, Below.refl _ _⟩
  have hshort : n0 ≤ 3000 := by omega
  clear hlong
  by_cases hlong : 3000 < n1
  · go_enter Try.func6, Try.ntmps6
    go_wp2_with fail
    refine (a2Long_two _ _ _ _ _ _ _ hshort hlong).mono ?_
    rintro e w1 ⟨rfl, rfl⟩
    go_wp2
    go_ret
    exact ⟨rfl, Below.refl _ _⟩
  have hshort2 : n1 ≤ 3000 := by omega
  clear hlong
  go_enter Try.func6, Try.ntmps6
  have B0 := hide (Below.refl w.heap.size w)
  go_wp2_with fail
  refine (a2Long_no _ _ _ _ _ _ _ hshort hshort2).mono ?_
  rintro e u1 ⟨rfl, rfl⟩
  go_wp2_with fail
  refine (a2Bond _ _ _ _ z0 W0.out).mono ?_
  rintro e u2 ⟨s, zs, B, d, hbo, rfl, ho, hb2⟩
  have e2 : w.heap.size ≤ u2.heap.size := hb2.size
  have B2 := hide (B0.out.trans (hb2.mono B0.out.size))
  clear hb2 B0
  have hss := bond_small hbo
  have TS := hide hss.2.2
  have hnz0 := hss.2.1
  have hnz1 := (bond_len hbo).1
  have hss := hss.1
  have HBO := hide hbo
  clear hbo
  obtain ⟨nz, hnz⟩ : ∃ r, zs.length = r := ⟨_, rfl⟩
  rw [hnz] at ho hnz0 hnz1 ⊢
  have HL := hide hnz
  clear hnz
  have U_9 := hide ho
  clear ho
  obtain ⟨u3, hu3⟩ : ∃ u, u2.alloc (.cells #[.string s, .slice B nz d] 62) = u := ⟨_, rfl⟩
  have hb3 : Below u2.heap.size u2 u3 := by rw [← hu3]; exact (Below.refl _ _).alloc (Nat.le_refl _) _
  have e3 : u2.heap.size < u3.heap.size := by rw [← hu3]; simp
  have B3 := hide (B2.out.trans (hb3.mono B2.out.size))
  have f3_0 : u3.cell? ⟨u2.heap.size, 0, none⟩ = some (.string s) := by rw [← hu3]; simp [go_sem]
  have f3_1 : u3.cell? ⟨u2.heap.size, 1, none⟩ = some (.slice B nz d) := by rw [← hu3]; simp [go_sem]
  have f3_0o := f3_0
  rw [← hu3] at f3_0o
  have f3_1o := f3_1
  rw [← hu3] at f3_1o
  have U_3 := hide (U_9.out.below hb3)
  clear U_9
  clear hb3 B2
  have HU3 := hide hu3
  clear hu3
  go_wp2_with fail
  rw [HU3.out]
  refine (a2At_int _ _ _ _ z1 0 9 (by omega) (by omega) (by omega) (by omega) (W1.out.below B3.out)).mono ?_
  rintro e v9 ⟨v, hv0, hv1, rfl, rfl⟩
  obtain ⟨k, rfl⟩ := Int.eq_ofNat_of_zero_le hv0
  have hk8 : k ≤ 8 := by omega
  clear hv0 hv1
  go_wp2_with fail
  refine (a2Length _ _ _ _ z1 (W1.out.below B3.out)).mono ?_
  rintro e u5 ⟨u, hu0, hu1, rfl, hb5⟩
  have e5 : u3.heap.size ≤ u5.heap.size := hb5.size
  clear f3_0o f3_1o
  have B5 := hide (B3.out.trans (hb5.mono B3.out.size))
  replace f3_0 := (hb5.cell (p := ⟨u2.heap.size, 0, none⟩) (show u2.heap.size < u3.heap.size from by omega)).trans f3_0
  replace f3_1 := (hb5.cell (p := ⟨u2.heap.size, 1, none⟩) (show u2.heap.size < u3.heap.size from by omega)).trans f3_1
  have U_5 := hide (U_3.out.below hb5)
  clear U_3
  clear hb5 B3
  obtain ⟨x, y, hz⟩ := course_get (zs := zs) k (by have := HL.out; omega)
  have hok : Course.ok ⟨x, y⟩ = true := bond_course HBO.out hz
  obtain ⟨x2, y2, hz2⟩ := course_get (zs := zs) (k + 1) (by have := HL.out; omega)
  have hok2 : Course.ok ⟨x2, y2⟩ = true := bond_course HBO.out hz2
  have bc : ∀ j : Nat, j ≤ 1000 → bcode s zs [(j : Int)] u = 0 := fun j hj => bcode_ok HBO.out ⟨all_one.2 ⟨by omega, by omega⟩, hu0, by omega⟩
  have c1' := courseAt_is hz
  have c2' := courseAt_is hz2
  have c3' : courseAt zs ((k : Int) + (nz : Int)) = ⟨x, y⟩ := by
    have := courseAt_turn HBO.out k
    rw [HL.out] at this
    rw [this]
    exact c1'
  rw [show ((k + 1 : Nat) : Int) = (k : Int) + 1 from by omega] at c2'
  obtain ⟨K, hK⟩ : ∃ K, perps x y u = K := ⟨_, rfl⟩
  obtain ⟨K2, hK2⟩ : ∃ K, perps x2 y2 u = K := ⟨_, rfl⟩
  have b1 : bcode s zs [(k : Int)] u = 0 := bc k (by omega)
  have b2 : bcode s zs [(k : Int) + (nz : Int)] u = 0 := by
    have := bc (k + nz) (by omega)
    rwa [show ((k + nz : Nat) : Int) = (k : Int) + (nz : Int) from by omega] at this
  have b3 : bcode s zs [(k : Int) + 1] u = 0 := bc (k + 1) (by omega)
  have P1 := hide (show perpsL s zs (k : Int) u = K from by unfold perpsL; rw [if_pos b1, c1']; exact hK)
  have P2 := hide (show perpsL s zs ((k : Int) + (nz : Int)) u = K from by unfold perpsL; rw [if_pos b2, c3']; exact hK)
  have P3 := hide (show perpsL s zs ((k : Int) + 1) u = K2 from by unfold perpsL; rw [if_pos b3, c2']; exact hK2)
  have hh := heads_fit hok hu0
  obtain ⟨H, hH⟩ : ∃ H, heads x y u = H := ⟨_, rfl⟩
  have PH := hide (show headsN s zs (k : Int) u = H from by unfold headsN; rw [if_pos b1, c1']; exact hH)
  rw [hH] at hh
  obtain ⟨hh0, hh1⟩ := hh
  obtain ⟨lp, hlp⟩ : ∃ l, lapL K K2 = l := ⟨_, rfl⟩
  have PB := hide (show lapB zs (k : Int) ((k : Int) + 1) u = lp from by unfold lapB; rw [c1', c2']; show lapL (perps x y u) (perps x2 y2 u) = lp; rw [hK, hK2]; exact hlp)
  have PB2 := hide (show lapB zs ((k : Int) + 1) (k : Int) u = lp from by unfold lapB; rw [c1', c2']; show lapL (perps x2 y2 u) (perps x y u) = lp; rw [hK, hK2, lapL_flip]; exact hlp)
  have B12 := hide (show bcode s zs [(k : Int), (k : Int) + 1] u = 0 from by rw [bcode_two, if_pos b1]; exact b3)
  have B21 := hide (show bcode s zs [(k : Int) + 1, (k : Int)] u = 0 from by rw [bcode_two, if_pos b3]; exact b1)
  have KI := hide (show ∀ v ∈ K, 0 ≤ v ∧ v ≤ 1000 from fun v hv => perps_in hok hu0 (by omega) v (by rw [hK]; exact hv))
  have KI2 := hide (show ∀ v ∈ K2, 0 ≤ v ∧ v ≤ 1000 from fun v hv => perps_in hok2 hu0 (by omega) v (by rw [hK2]; exact hv))
  have kf : K.length ≤ 1000 := by rw [← hK]; exact perps_few hok hu0 (by omega)
  have kf2 : K2.length ≤ 1000 := by rw [← hK2]; exact perps_few hok2 hu0 (by omega)
  have STEP := hide (show ∀ (i : Nat) (v : Int), K[i]? = some v → v = lastQ x y (i + 1) ∧ 1 ≤ v - lastQ x y i ∧ v - lastQ x y i ≤ 4 ∧ v < u ∧ 0 ≤ lastQ x y i from fun i v hv => perp_step hok hu0 (by rw [hK]; exact hv))
  have END := perp_end hok hu0
  rw [hK] at END
  obtain ⟨nk, hnk⟩ : ∃ r, K.length = r := ⟨_, rfl⟩
  obtain ⟨nk2, hnk2⟩ : ∃ r, K2.length = r := ⟨_, rfl⟩
  rw [hnk] at END kf
  rw [hnk2] at kf2
  have END := hide END
  have HNK := hide hnk
  have HNK2 := hide hnk2
  have HLP := hide hlp
  have HB1' := hide b1
  have HB2' := hide b2
  have HB3' := hide b3
  clear hz hz2 bc c1' c2' c3' hK hK2 hH hlp hnk hnk2 b1 b2 b3
  go_wp2_with fail
  refine (impl_perpendsOf' s _ _ _ zs (k : Int) u K 0 _ P1.out HB1'.out hss (by omega) HL.out (U_5.out.row (fun _ => rfl)) TS.out).mono ?_
  rintro e u6 ⟨A1, C1, rfl, ho, hb6⟩
  have e6 : u5.heap.size ≤ u6.heap.size := hb6.size
  have B6 := hide (B5.out.trans (hb6.mono B5.out.size))
  replace f3_0 := (hb6.cell (p := ⟨u2.heap.size, 0, none⟩) (show u2.heap.size < u5.heap.size from by omega)).trans f3_0
  replace f3_1 := (hb6.cell (p := ⟨u2.heap.size, 1, none⟩) (show u2.heap.size < u5.heap.size from by omega)).trans f3_1
  have U_6 := hide (U_5.out.below hb6)
  clear U_5
  clear hb6 B5
  have P_6 := hide ho
  clear ho
  rw [HNK.out] at P_6 ⊢
  go_wp2_with fail
  refine (impl_perpendsOf' s _ _ _ zs ((k : Int) + (nz : Int)) u K 0 _ P2.out HB2'.out hss (by omega) HL.out (U_6.out.row (fun _ => rfl)) TS.out).mono ?_
  rintro e u7 ⟨A2, C2, rfl, ho, hb7⟩
  have e7 : u6.heap.size ≤ u7.heap.size := hb7.size
  have B7 := hide (B6.out.trans (hb7.mono B6.out.size))
  replace f3_0 := (hb7.cell (p := ⟨u2.heap.size, 0, none⟩) (show u2.heap.size < u6.heap.size from by omega)).trans f3_0
  replace f3_1 := (hb7.cell (p := ⟨u2.heap.size, 1, none⟩) (show u2.heap.size < u6.heap.size from by omega)).trans f3_1
  have U_7 := hide (U_6.out.below hb7)
  clear U_6
  have P_7 := hide (P_6.out.below hb7)
  clear P_6
  clear hb7 B6
  have Q_7 := hide ho
  clear ho
  rw [HNK.out] at Q_7 ⊢
  go_wp2_with fail
  refine (impl_headersIn s _ _ _ zs (k : Int) u _ hss (by omega) HL.out (U_7.out.row (fun _ => rfl)) TS.out).mono ?_
  rintro e u8 ⟨rfl, hb8⟩
  have e8 : u7.heap.size ≤ u8.heap.size := hb8.size
  have B8 := hide (B7.out.trans (hb8.mono B7.out.size))
  replace f3_0 := (hb8.cell (p := ⟨u2.heap.size, 0, none⟩) (show u2.heap.size < u7.heap.size from by omega)).trans f3_0
  replace f3_1 := (hb8.cell (p := ⟨u2.heap.size, 1, none⟩) (show u2.heap.size < u7.heap.size from by omega)).trans f3_1
  have U_8 := hide (U_7.out.below hb8)
  clear U_7
  have P_8 := hide (P_7.out.below hb8)
  clear P_7
  have Q_8 := hide (Q_7.out.below hb8)
  clear Q_7
  clear hb8 B7
  rw [PH.out, HB1'.out]
  go_wp2_with fail
  refine (a2Same_yes _ _ _ _ _ K _ (by omega) HNK.out (P_8.out.row (fun _ => rfl)) (Q_8.out.row (fun _ => rfl))).mono ?_
  rintro e u9 ⟨rfl, hb9⟩
  have e9 : u8.heap.size ≤ u9.heap.size := hb9.size
  have B9 := hide (B8.out.trans (hb9.mono B8.out.size))
  replace f3_0 := (hb9.cell (p := ⟨u2.heap.size, 0, none⟩) (show u2.heap.size < u8.heap.size from by omega)).trans f3_0
  replace f3_1 := (hb9.cell (p := ⟨u2.heap.size, 1, none⟩) (show u2.heap.size < u8.heap.size from by omega)).trans f3_1
  have U_9 := hide (U_8.out.below hb9)
  clear U_8
  have P_9 := hide (P_8.out.below hb9)
  clear P_8
  have Q_9 := hide (Q_8.out.below hb9)
  clear Q_8
  clear hb9 B8
  go_wp2
  go_loopw [14, 15] (fun v i wr => ∃ j : Nat, j ≤ nk ∧ v = .int .i64 (lastQ x y j) ∧ i = .int .i64 j ∧ wr = u9) (fun _ i _ => nk - (intOf i).toNat)
  case atStart => exact ⟨0, by omega, rfl, rfl, rfl⟩
  case round =>
    obtain ⟨j, hj, rfl, rfl, rfl⟩ := hrel
    by_cases hlt : j < nk
    · obtain ⟨v, hv⟩ : ∃ z, K[j]? = some z := ⟨K[j]'(by have := HNK.out; omega), List.getElem?_eq_getElem (by have := HNK.out; omega)⟩
      obtain ⟨hs1, hs2, hs3, hs4, hs5⟩ := STEP.out j v hv
      obtain ⟨ba, offa, rfl, hba, g0⟩ := row_at_1 (P_9.out.row (fun _ => rfl)) hv rfl
      have hji : (j : Int) < (nk : Int) := by omega
      have HQ := hide hs1
      obtain ⟨la, hla⟩ : ∃ r, lastQ x y j = r := ⟨_, rfl⟩
      rw [hla] at hs2 hs3 hs5
      rw [hla]
      have v1 := Go.IntWalk.i64_in (v - la) ⟨by omega, by omega⟩
      have d1 : ¬ (v - la < 1) := by omega
      have d2 : ¬ (4 < v - la) := by omega
      have d3 : ¬ (u ≤ v) := by omega
      clear hv hs1 hla
      go_wp2
      go_roundw
      case rel => exact ⟨j + 1, by omega, by rw [← HQ.out], by go_num, trivial⟩
      case measure => simp [intOf]; omega
    · obtain rfl : j = nk := by omega
      obtain ⟨en1, en2, en3⟩ := END.out
      obtain ⟨la, hla⟩ : ∃ r, lastQ x y j = r := ⟨_, rfl⟩
      rw [hla] at en1 en2 en3
      rw [hla]
      have v1 := Go.IntWalk.i64_in (u - la) ⟨by omega, by omega⟩
      have d1 : ¬ (4 < u - la) := by omega
      clear hla
      have v7 := Go.IntWalk.i64_in ((k : Int) + 1) ⟨by omega, by omega⟩
      go_wp2_with fail
      refine (spec_perpendsOf' s _ _ _ zs ((k : Int) + 1) u K2 0 _ P3.out HB3'.out hss (by omega) HL.out (U_9.out.row (fun _ => rfl)) TS.out).mono ?_
      rintro e u10 ⟨A3, C3, rfl, ho, hb10⟩
      have e10 : wr.heap.size ≤ u10.heap.size := hb10.size
      have B10 := hide (B9.out.trans (hb10.mono B9.out.size))
      replace f3_0 := (hb10.cell (p := ⟨u2.heap.size, 0, none⟩) (show u2.heap.size < wr.heap.size from by omega)).trans f3_0
      replace f3_1 := (hb10.cell (p := ⟨u2.heap.size, 1, none⟩) (show u2.heap.size < wr.heap.size from by omega)).trans f3_1
      have U_10 := hide (U_9.out.below hb10)
      clear U_9
      have P_10 := hide (P_9.out.below hb10)
      clear P_9
      have Q_10 := hide (Q_9.out.below hb10)
      clear Q_9
      clear hb10 B9
      have R_10 := hide ho
      clear ho
      rw [HNK2.out] at R_10 ⊢
      go_wp2_with fail
      refine (impl_lapBetween s _ _ _ zs (k : Int) ((k : Int) + 1) u _ hss (by omega) HL.out (U_10.out.row (fun _ => rfl)) TS.out).mono ?_
      rintro e u11 ⟨rfl, hb11⟩
      have e11 : u10.heap.size ≤ u11.heap.size := hb11.size
      have B11 := hide (B10.out.trans (hb11.mono B10.out.size))
      replace f3_0 := (hb11.cell (p := ⟨u2.heap.size, 0, none⟩) (show u2.heap.size < u10.heap.size from by omega)).trans f3_0
      replace f3_1 := (hb11.cell (p := ⟨u2.heap.size, 1, none⟩) (show u2.heap.size < u10.heap.size from by omega)).trans f3_1
      have U_11 := hide (U_10.out.below hb11)
      clear U_10
      have P_11 := hide (P_10.out.below hb11)
      clear P_10
      have Q_11 := hide (Q_10.out.below hb11)
      clear Q_10
      have R_11 := hide (R_10.out.below hb11)
      clear R_10
      clear hb11 B10
      rw [PB.out, B12.out]
      go_wp2_with fail
      refine (impl_lapBetween s _ _ _ zs ((k : Int) + 1) (k : Int) u _ hss (by omega) HL.out (U_11.out.row (fun _ => rfl)) TS.out).mono ?_
      rintro e u12 ⟨rfl, hb12⟩
      have e12 : u11.heap.size ≤ u12.heap.size := hb12.size
      have B12 := hide (B11.out.trans (hb12.mono B11.out.size))
      replace f3_0 := (hb12.cell (p := ⟨u2.heap.size, 0, none⟩) (show u2.heap.size < u11.heap.size from by omega)).trans f3_0
      replace f3_1 := (hb12.cell (p := ⟨u2.heap.size, 1, none⟩) (show u2.heap.size < u11.heap.size from by omega)).trans f3_1
      have U_12 := hide (U_11.out.below hb12)
      clear U_11
      have P_12 := hide (P_11.out.below hb12)
      clear P_11
      have Q_12 := hide (Q_11.out.below hb12)
      clear Q_11
      have R_12 := hide (R_11.out.below hb12)
      clear R_11
      clear hb12 B11
      rw [PB2.out, B21.out]
      by_cases hE : j = 0 ∨ nk2 = 0
      · have hl1 : lp = -1 := by
          rw [← HLP.out]
          refine lapL_none ?_
          rcases hE with h | h
          · exact .inl (List.length_eq_zero_iff.1 (by rw [HNK.out]; exact h))
          · exact .inr (List.length_eq_zero_iff.1 (by rw [HNK2.out]; exact h))
        rw [hl1, show lbN 0 (-1) = 0 from rfl, show lbC 0 (-1) = 3 from rfl]
        have BE := B12
        by_cases h0 : j = 0
        · subst h0
          go_wp2
          go_ret
          exact ⟨rfl, BE.out⟩
        · obtain rfl : nk2 = 0 := by omega
          go_wp2
          go_ret
          exact ⟨rfl, BE.out⟩
      have h01 : ¬ j = 0 := by omega
      have h02 : ¬ nk2 = 0 := by omega
      have d01 : ((j : Int) == 0) = false := by simp; omega
      have d02 : ((nk2 : Int) == 0) = false := by simp; omega
      have hne1 : K ≠ [] := fun h => h01 (by rw [← HNK.out, h]; rfl)
      have hne2 : K2 ≠ [] := fun h => h02 (by rw [← HNK2.out, h]; rfl)
      have hap := apart_lap hne1 hne2
      have hmn := (lapL_min hne1 hne2).1
      have hlb := (lapL_bd (B := 1000) (by omega) KI.out KI2.out).2
      rw [HLP.out] at hap hmn hlb
      rw [show lbN 0 lp = lp from if_pos ⟨rfl, hmn⟩, show lbC 0 lp = 0 from by unfold lbC; rw [if_pos rfl, if_neg (by omega)]]
      have AP1 := hide hap.1
      have AP2 := hide hap.2
      have v8 := Go.IntWalk.i64_in (lp + 1) ⟨by omega, by omega⟩
      clear hap hne1 hne2
      go_wp2_with fail
      refine (a2Apart_is _ _ _ _ _ _ K K2 lp _ (by omega) (by omega) HNK.out HNK2.out (P_12.out.row (fun _ => rfl)) (R_12.out.row (fun _ => rfl)) KI.out KI2.out).mono ?_
      rintro e u13 ⟨rfl, hb13⟩
      have e13 : u12.heap.size ≤ u13.heap.size := hb13.size
      have B13 := hide (B12.out.trans (hb13.mono B12.out.size))
      replace f3_0 := (hb13.cell (p := ⟨u2.heap.size, 0, none⟩) (show u2.heap.size < u12.heap.size from by omega)).trans f3_0
      replace f3_1 := (hb13.cell (p := ⟨u2.heap.size, 1, none⟩) (show u2.heap.size < u12.heap.size from by omega)).trans f3_1
      have U_13 := hide (U_12.out.below hb13)
      clear U_12
      have P_13 := hide (P_12.out.below hb13)
      clear P_12
      have Q_13 := hide (Q_12.out.below hb13)
      clear Q_12
      have R_13 := hide (R_12.out.below hb13)
      clear R_12
      clear hb13 B12
      rw [AP1.out]
      go_wp2_with fail
      refine (a2Apart_is _ _ _ _ _ _ K K2 (lp + 1) _ (by omega) (by omega) HNK.out HNK2.out (P_13.out.row (fun _ => rfl)) (R_13.out.row (fun _ => rfl)) KI.out KI2.out).mono ?_
      rintro e u14 ⟨rfl, hb14⟩
      have e14 : u13.heap.size ≤ u14.heap.size := hb14.size
      have B14 := hide (B13.out.trans (hb14.mono B13.out.size))
      replace f3_0 := (hb14.cell (p := ⟨u2.heap.size, 0, none⟩) (show u2.heap.size < u13.heap.size from by omega)).trans f3_0
      replace f3_1 := (hb14.cell (p := ⟨u2.heap.size, 1, none⟩) (show u2.heap.size < u13.heap.size from by omega)).trans f3_1
      have U_14 := hide (U_13.out.below hb14)
      clear U_13
      have P_14 := hide (P_13.out.below hb14)
      clear P_13
      have Q_14 := hide (Q_13.out.below hb14)
      clear Q_13
      have R_14 := hide (R_13.out.below hb14)
      clear R_13
      clear hb14 B13
      rw [AP2.out]
      go_wp2
      go_ret
      exact ⟨rfl, B14.out⟩
end Go.Proofs.Ytfjnhocmkafnbaa
