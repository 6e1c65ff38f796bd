/-
  What is proved: the law FnBonds returns true and changes nothing that was there, for every input. No conditions beyond the arguments' own ranges.
-/
import Derived.Test.YtlokmkiicmpccaaDoorBondsP
import Derived.Test.YtlokmkiicmpccaaDoorCheckI
import Derived.Deep.RegionHeld3
namespace Go.Proofs.YtlokmkiicmpccaaDoor
open Go.RowKit
set_option linter.unusedVariables false

set_option maxRecDepth 100000 in
set_option maxHeartbeats 4000000 in
theorem fnBondsWalk (a0 : Option Addr) (n0 c0 : Nat) (z0 : List Int) (w : World) (w0 : ArgInts .u8 w a0 n0 c0 z0) (hT : MaxLenIs w ∧ LibTab w) :
    Calls Tryd.prog 7 #[.slice a0 n0 c0] w fun e w' => e = .returned (.bool true) ∧ Below w.heap.size w w' := by
  have hMz : 1 < w.heap.size := by obtain ⟨m, hm⟩ := hT.1; exact cell_lt hm
  have HM := hide hT.1
  have HT := hide hT.2
  have W0 := hide w0
  clear hT w0
  by_cases hlong : 3000 < n0
  · go_enter Tryd.func7, Tryd.ntmps7
    go_wp2_with fail
    refine (a2Long_yes _ _ _ _ _ _ _ hlong).mono ?_
    rintro e w1 ⟨rfl, rfl⟩
    go_wp2
    go_ret
    exact ⟨rfl, Below.refl _ _⟩
  have hshort : n0 ≤ 3000 := by omega
  clear hlong
  go_enter Tryd.func7, Tryd.ntmps7
  have B0 := hide (Below.refl w.heap.size w)
  go_wp2_with fail
  refine (a2Long_no _ _ _ _ _ _ _ hshort (by omega)).mono ?_
  rintro e u1 ⟨rfl, rfl⟩
  go_wp2_with fail
  refine (a2Bond _ _ _ _ z0 W0.out).mono ?_
  rintro e u2 ⟨s, zs, B, d, hbo, rfl, ho, hb2⟩
  have e2 : w.heap.size ≤ u2.heap.size := hb2.size
  have B2 := hide (B0.out.trans (hb2.mono B0.out.size))
  clear hb2 B0
  have hb3 := bond_texts hbo
  have TS := hb3.2.2
  have hss := hb3.1
  have hnz0 := hb3.2.1
  obtain ⟨T, hTT⟩ : ∃ T, textB s zs = T := ⟨_, rfl⟩
  have q1 := back_ok hbo
  have q2 := back_name hbo
  have q3 := back_courses hbo
  have q4 := back_bads hbo
  rw [hTT] at q1 q2 q3 q4
  obtain ⟨nz, hnz⟩ : ∃ r, zs.length = r := ⟨_, rfl⟩
  rw [hnz] at ho hnz0 ⊢
  have HL := hide hnz
  have HTT := hide hTT
  have Q1 := hide q1
  have Q2 := hide q2
  have Q3 := hide q3
  have Q4 := hide q4
  have HTS := hide TS
  have hT4 : T.size ≤ 400 := by omega
  clear hbo hb3 TS hnz hTT q1 q2 q3 q4
  have U_9 := hide ho
  clear ho
  obtain ⟨u3, hu3⟩ : ∃ u, u2.alloc (.cells #[.string s, .slice B nz d] 29) = u := ⟨_, rfl⟩
  have hb3 : Below u2.heap.size u2 u3 := by rw [← hu3]; exact (Below.refl _ _).alloc (Nat.le_refl _) _
  have e3 : u2.heap.size < u3.heap.size := by rw [← hu3]; simp
  have B3 := hide (B2.out.trans (hb3.mono B2.out.size))
  have f3_0 : u3.cell? ⟨u2.heap.size, 0, none⟩ = some (.string s) := by rw [← hu3]; simp [go_sem]
  have f3_1 : u3.cell? ⟨u2.heap.size, 1, none⟩ = some (.slice B nz d) := by rw [← hu3]; simp [go_sem]
  have f3_0o := f3_0
  rw [← hu3] at f3_0o
  have f3_1o := f3_1
  rw [← hu3] at f3_1o
  have U_3 := hide (U_9.out.below hb3)
  clear U_9
  clear hb3 B2
  have HU3 := hide hu3
  clear hu3
  go_wp2_with fail
  rw [HU3.out]

  refine (impl_bondText s _ _ _ zs _ hss (by omega) HL.out (U_3.out.row (fun _ => rfl)) HTS.out).mono ?_
  rintro e u4 ⟨rfl, hb4⟩
  have e4 : u3.heap.size ≤ u4.heap.size := hb4.size
  clear f3_0o f3_1o
  have B4 := hide (B3.out.trans (hb4.mono B3.out.size))
  replace f3_0 := (hb4.cell (p := ⟨u2.heap.size, 0, none⟩) (show u2.heap.size < u3.heap.size from by omega)).trans f3_0
  replace f3_1 := (hb4.cell (p := ⟨u2.heap.size, 1, none⟩) (show u2.heap.size < u3.heap.size from by omega)).trans f3_1
  have U_4 := hide (U_3.out.below hb4)
  clear U_3
  clear hb4 B3
  rw [HTT.out]
  go_wp2_with fail
  refine (impl_readBond T _ (by omega) (HM.out.below hMz B4.out)).mono ?_
  rintro e u5 ⟨B1, d1, rfl, ho, hb5⟩
  have e5 : u4.heap.size ≤ u5.heap.size := hb5.size
  have B5 := hide (B4.out.trans (hb5.mono B4.out.size))
  replace f3_0 := (hb5.cell (p := ⟨u2.heap.size, 0, none⟩) (show u2.heap.size < u4.heap.size from by omega)).trans f3_0
  replace f3_1 := (hb5.cell (p := ⟨u2.heap.size, 1, none⟩) (show u2.heap.size < u4.heap.size from by omega)).trans f3_1
  have U_5 := hide (U_4.out.below hb5)
  clear U_4
  clear hb5 B4
  rw [Q1.out, Q2.out, Q3.out, HL.out]
  rw [Q3.out, HL.out] at ho
  have G_1 := hide ho
  clear ho
  obtain ⟨u6, hu6⟩ : ∃ u, u5.alloc (.cells #[.string s, .slice B1 nz d1] 29) = u := ⟨_, rfl⟩
  have hb6 : Below u5.heap.size u5 u6 := by rw [← hu6]; exact (Below.refl _ _).alloc (Nat.le_refl _) _
  have e6 : u5.heap.size < u6.heap.size := by rw [← hu6]; simp
  have B6 := hide (B5.out.trans (hb6.mono B5.out.size))
  replace f3_0 := (hb6.cell (p := ⟨u2.heap.size, 0, none⟩) (show u2.heap.size < u5.heap.size from by omega)).trans f3_0
  replace f3_1 := (hb6.cell (p := ⟨u2.heap.size, 1, none⟩) (show u2.heap.size < u5.heap.size from by omega)).trans f3_1
  have f6_0 : u6.cell? ⟨u5.heap.size, 0, none⟩ = some (.string s) := by rw [← hu6]; simp [go_sem]
  have f6_1 : u6.cell? ⟨u5.heap.size, 1, none⟩ = some (.slice B1 nz d1) := by rw [← hu6]; simp [go_sem]
  have f3_0o := f3_0
  rw [← hu6] at f3_0o
  have f3_1o := f3_1
  rw [← hu6] at f3_1o
  have f6_0o := f6_0
  rw [← hu6] at f6_0o
  have f6_1o := f6_1
  rw [← hu6] at f6_1o
  have U_6 := hide (U_5.out.below hb6)
  clear U_5
  have G_6 := hide (G_1.out.below hb6)
  clear G_1
  clear hb6 B5
  have HU6 := hide hu6
  clear hu6
  go_wp2_with fail
  rw [HU6.out]

  refine (impl_checkBond T _ (by omega) (HM.out.below hMz B6.out)).mono ?_
  rintro e u7 ⟨M2, B2, d2, E2, D2, hl2, hh2, rfl, ho, hp, hb7⟩
  have e7 : u6.heap.size ≤ u7.heap.size := hb7.size
  clear f3_0o f3_1o f6_0o f6_1o
  have B7 := hide (B6.out.trans (hb7.mono B6.out.size))
  replace f3_0 := (hb7.cell (p := ⟨u2.heap.size, 0, none⟩) (show u2.heap.size < u6.heap.size from by omega)).trans f3_0
  replace f3_1 := (hb7.cell (p := ⟨u2.heap.size, 1, none⟩) (show u2.heap.size < u6.heap.size from by omega)).trans f3_1
  replace f6_0 := (hb7.cell (p := ⟨u5.heap.size, 0, none⟩) (show u5.heap.size < u6.heap.size from by omega)).trans f6_0
  replace f6_1 := (hb7.cell (p := ⟨u5.heap.size, 1, none⟩) (show u5.heap.size < u6.heap.size from by omega)).trans f6_1
  have U_7 := hide (U_6.out.below hb7)
  clear U_6
  have G_7 := hide (G_6.out.below hb7)
  clear G_6
  clear hb7 B6
  rw [Q2.out, Q3.out, Q4.out.1, HL.out, if_neg Q4.out.2]
  rw [Q3.out, HL.out] at ho
  have H_1 := hide ho
  clear ho hp
  rw [show ([] : List Prob).length = 0 from rfl]
  obtain ⟨u8, hu8⟩ : ∃ u, u7.alloc (.cells #[.string s, .slice B2 nz d2] 29) = u := ⟨_, rfl⟩
  have hb8 : Below u7.heap.size u7 u8 := by rw [← hu8]; exact (Below.refl _ _).alloc (Nat.le_refl _) _
  have e8 : u7.heap.size < u8.heap.size := by rw [← hu8]; simp
  have B8 := hide (B7.out.trans (hb8.mono B7.out.size))
  replace f3_0 := (hb8.cell (p := ⟨u2.heap.size, 0, none⟩) (show u2.heap.size < u7.heap.size from by omega)).trans f3_0
  replace f3_1 := (hb8.cell (p := ⟨u2.heap.size, 1, none⟩) (show u2.heap.size < u7.heap.size from by omega)).trans f3_1
  replace f6_0 := (hb8.cell (p := ⟨u5.heap.size, 0, none⟩) (show u5.heap.size < u7.heap.size from by omega)).trans f6_0
  replace f6_1 := (hb8.cell (p := ⟨u5.heap.size, 1, none⟩) (show u5.heap.size < u7.heap.size from by omega)).trans f6_1
  have f8_0 : u8.cell? ⟨u7.heap.size, 0, none⟩ = some (.string s) := by rw [← hu8]; simp [go_sem]
  have f8_1 : u8.cell? ⟨u7.heap.size, 1, none⟩ = some (.slice B2 nz d2) := by rw [← hu8]; simp [go_sem]
  have f3_0o := f3_0
  rw [← hu8] at f3_0o
  have f3_1o := f3_1
  rw [← hu8] at f3_1o
  have f6_0o := f6_0
  rw [← hu8] at f6_0o
  have f6_1o := f6_1
  rw [← hu8] at f6_1o
  have f8_0o := f8_0
  rw [← hu8] at f8_0o
  have f8_1o := f8_1
  rw [← hu8] at f8_1o
  have U_8 := hide (U_7.out.below hb8)
  clear U_7
  have G_8 := hide (G_7.out.below hb8)
  clear G_7
  have H_8 := hide (H_1.out.below hb8)
  clear H_1
  clear hb8 B7
  have HU8 := hide hu8
  clear hu8
  go_wp2_with fail
  rw [HU8.out]

  refine (spec_sameBond s s _ _ _ _ _ _ zs zs _ (by omega) (by omega) HL.out HL.out (G_8.out.row (fun _ => rfl)) (U_8.out.row (fun _ => rfl))).mono ?_
  rintro e u9 ⟨rfl, hb9⟩
  have e9 : u8.heap.size ≤ u9.heap.size := hb9.size
  clear f3_0o f3_1o f6_0o f6_1o f8_0o f8_1o
  have B9 := hide (B8.out.trans (hb9.mono B8.out.size))
  replace f3_0 := (hb9.cell (p := ⟨u2.heap.size, 0, none⟩) (show u2.heap.size < u8.heap.size from by omega)).trans f3_0
  replace f3_1 := (hb9.cell (p := ⟨u2.heap.size, 1, none⟩) (show u2.heap.size < u8.heap.size from by omega)).trans f3_1
  replace f6_0 := (hb9.cell (p := ⟨u5.heap.size, 0, none⟩) (show u5.heap.size < u8.heap.size from by omega)).trans f6_0
  replace f6_1 := (hb9.cell (p := ⟨u5.heap.size, 1, none⟩) (show u5.heap.size < u8.heap.size from by omega)).trans f6_1
  replace f8_0 := (hb9.cell (p := ⟨u7.heap.size, 0, none⟩) (show u7.heap.size < u8.heap.size from by omega)).trans f8_0
  replace f8_1 := (hb9.cell (p := ⟨u7.heap.size, 1, none⟩) (show u7.heap.size < u8.heap.size from by omega)).trans f8_1
  have U_9 := hide (U_8.out.below hb9)
  clear U_8
  have G_9 := hide (G_8.out.below hb9)
  clear G_8
  have H_9 := hide (H_8.out.below hb9)
  clear H_8
  clear hb9 B8
  rw [bond_self]
  go_wp2_with fail
  refine (spec_sameBond s s _ _ _ _ _ _ zs zs _ (by omega) (by omega) HL.out HL.out (H_9.out.row (fun _ => rfl)) (U_9.out.row (fun _ => rfl))).mono ?_
  rintro e u10 ⟨rfl, hb10⟩
  have e10 : u9.heap.size ≤ u10.heap.size := hb10.size
  have B10 := hide (B9.out.trans (hb10.mono B9.out.size))
  replace f3_0 := (hb10.cell (p := ⟨u2.heap.size, 0, none⟩) (show u2.heap.size < u9.heap.size from by omega)).trans f3_0
  replace f3_1 := (hb10.cell (p := ⟨u2.heap.size, 1, none⟩) (show u2.heap.size < u9.heap.size from by omega)).trans f3_1
  replace f6_0 := (hb10.cell (p := ⟨u5.heap.size, 0, none⟩) (show u5.heap.size < u9.heap.size from by omega)).trans f6_0
  replace f6_1 := (hb10.cell (p := ⟨u5.heap.size, 1, none⟩) (show u5.heap.size < u9.heap.size from by omega)).trans f6_1
  replace f8_0 := (hb10.cell (p := ⟨u7.heap.size, 0, none⟩) (show u7.heap.size < u9.heap.size from by omega)).trans f8_0
  replace f8_1 := (hb10.cell (p := ⟨u7.heap.size, 1, none⟩) (show u7.heap.size < u9.heap.size from by omega)).trans f8_1
  have U_10 := hide (U_9.out.below hb10)
  clear U_9
  have G_10 := hide (G_9.out.below hb10)
  clear G_9
  have H_10 := hide (H_9.out.below hb10)
  clear H_9
  clear hb10 B9
  rw [bond_self]
  go_wp2_with fail
  refine (impl_bondNames _ (HM.out.below hMz B10.out) (HT.out.below B10.out)).mono ?_
  rintro e u11 ⟨A9, C9, rfl, ho, hb11⟩
  have e11 : u10.heap.size ≤ u11.heap.size := hb11.size
  have B11 := hide (B10.out.trans (hb11.mono B10.out.size))
  replace f3_0 := (hb11.cell (p := ⟨u2.heap.size, 0, none⟩) (show u2.heap.size < u10.heap.size from by omega)).trans f3_0
  replace f3_1 := (hb11.cell (p := ⟨u2.heap.size, 1, none⟩) (show u2.heap.size < u10.heap.size from by omega)).trans f3_1
  replace f6_0 := (hb11.cell (p := ⟨u5.heap.size, 0, none⟩) (show u5.heap.size < u10.heap.size from by omega)).trans f6_0
  replace f6_1 := (hb11.cell (p := ⟨u5.heap.size, 1, none⟩) (show u5.heap.size < u10.heap.size from by omega)).trans f6_1
  replace f8_0 := (hb11.cell (p := ⟨u7.heap.size, 0, none⟩) (show u7.heap.size < u10.heap.size from by omega)).trans f8_0
  replace f8_1 := (hb11.cell (p := ⟨u7.heap.size, 1, none⟩) (show u7.heap.size < u10.heap.size from by omega)).trans f8_1
  have U_11 := hide (U_10.out.below hb11)
  clear U_10
  have G_11 := hide (G_10.out.below hb11)
  clear G_10
  have H_11 := hide (H_10.out.below hb11)
  clear H_10
  clear hb11 B10
  have N_11 := hide ho
  clear ho
  go_wp2
  go_loopw [11] (fun i wr => ∃ k : Nat, k ≤ 5 ∧ i = .int .i64 k ∧ Hid (Below u11.heap.size u11 wr)) (fun i _ => 5 - (intOf i).toNat)
  case atStart => exact ⟨0, by omega, rfl, hide (Below.refl _ _)⟩
  case round =>
    obtain ⟨k, hk, rfl, HW⟩ := hrel
    have HBr := hide (B11.out.trans (HW.out.mono B11.out.size))
    by_cases hlt : k < 5
    · obtain ⟨y, hy⟩ : ∃ y, namesB[k]? = some y := ⟨namesB[k]'(by show k < 5; omega), List.getElem?_eq_getElem _⟩
      obtain ⟨x, hx⟩ := name_found hy
      obtain ⟨f1, f2, f3⟩ := named_found hx
      have hyl := Nat.le_refl y.size
      obtain ⟨b, off, rfl, hb, a0⟩ := row_at_1 ((N_11.out.below HW.out).row (fun _ => rfl)) hy rfl
      obtain ⟨sn, hsn⟩ : ∃ r, nameN y = r := ⟨_, rfl⟩
      obtain ⟨rz, hrz⟩ : ∃ r, nameZ y = r := ⟨_, rfl⟩
      obtain ⟨nr, hnr⟩ : ∃ r, rz.length = r := ⟨_, rfl⟩
      rw [hsn] at f2 f3
      rw [hrz] at f3
      have g9 := bond_texts f3
      have gs := g9.1
      have gl := g9.2.1
      rw [hnr] at gl
      have GT := hide g9.2.2
      have F1 := hide f1
      have F3 := hide f3
      have F2 : (sn.toList == y.toList) = true := by rw [f2]; exact beq_self_eq_true _
      have HSN := hide hsn
      have HRZ := hide hrz
      have HNR := hide hnr
      clear hy hx f1 f2 f3 g9 hsn hrz hnr
      have hki : (k : Int) < 5 := by omega
      go_wp2_with fail
      refine (impl_bondNamed y _ (HM.out.below hMz HBr.out) (HT.out.below HBr.out)).mono ?_
      rintro e w2 ⟨A3, c3, rfl, ho, hb2⟩
      rw [HSN.out, HRZ.out, HNR.out, F1.out]
      rw [HRZ.out, HNR.out] at ho
      have r0 := (hb2.cell (p := ⟨b, off + k, none⟩) hb).trans a0
      have hbz : b < w2.heap.size := Nat.lt_of_lt_of_le hb hb2.size
      have HO := hide ho
      have HW2 := hide (HW.out.trans (hb2.mono HW.out.size))
      obtain ⟨wa, hwa⟩ : ∃ u, w2.alloc (.cells #[.string sn, .slice A3 nr c3] 29) = u := ⟨_, rfl⟩
      have hba : Below w2.heap.size w2 wa := by rw [← hwa]; exact (Below.refl _ _).alloc (Nat.le_refl _) _
      have s0 : wa.cell? ⟨w2.heap.size, 0, none⟩ = some (.string sn) := by rw [← hwa]; simp [go_sem]
      have s1 : wa.cell? ⟨w2.heap.size, 1, none⟩ = some (.slice A3 nr c3) := by rw [← hwa]; simp [go_sem]
      have s2 := (hba.cell (p := ⟨b, off + k, none⟩) hbz).trans r0
      have HR9 := hide (show Row Course.enc 2 wa A3 rz from (HO.out.below hba).row (fun _ => rfl))
      have HWa := hide (HW2.out.trans (hba.mono HW2.out.size))
      have s0' := s0
      have s1' := s1
      have s2' := s2
      rw [← hwa] at s0' s1' s2'
      have hwa' := hide hwa
      clear hb2 ho a0 r0 hba hwa
      clear s0' s1' s2'
      go_wp2
      rw [hwa'.out]
      go_region_held3 (fun w' => w'.cell? ⟨w2.heap.size, 0, none⟩ = some (.string sn) ∧ w'.cell? ⟨w2.heap.size, 1, none⟩ = some (.slice A3 nr c3) ∧ w'.cell? ⟨b, off + k, none⟩ = some (.string y))
        (first
          | go_keep
          | exact ⟨s0, s1, s2⟩)
        (first
          | (go_at_call 30
             refine (spec_validBond sn _ _ _ rz _ gs (by omega) HNR.out (by exact HR9.out) GT.out).mono ?_
             rintro e w4 ⟨rfl, hb4⟩
             rw [F3.out]
             replace s0 := (hb4.cell (p := ⟨w2.heap.size, 0, none⟩) (by have := HR9; exact cell_lt s0)).trans s0
             replace s1 := (hb4.cell (p := ⟨w2.heap.size, 1, none⟩) (by exact cell_lt s1)).trans s1
             replace s2 := (hb4.cell (p := ⟨b, off + k, none⟩) (by exact cell_lt s2)).trans s2
             have HW4 := hide (show Below u11.heap.size u11 w4 from HWa.out.drew.trans (hb4.mono HWa.out.size))
             clear hb4))
      go_wp2
      go_roundw
      case rel => exact ⟨k + 1, by omega, by go_num, HW4⟩
      case measure => simp [intOf]; omega
    · have HE := hide (B11.out.trans (HW.out.mono B11.out.size))
      obtain rfl : k = 5 := by omega
      go_wp2
      go_ret
      exact ⟨rfl, HE.out⟩
end Go.Proofs.YtlokmkiicmpccaaDoor
