/-
  What is proved: clays and parts as the reference draws them. Conditions: as for the source.
-/
import Derived.Test.YtfjdhjbfingofaaGreatDoorDrawC2
namespace Go.Proofs.YtfjdhjbfingofaaGreatDoor
open Go.RowKit
set_option linter.unusedVariables false

section
variable {α : Type} {t : TypeId} {k : Nat} {enc : α → List Value} {w w' : World} {lo hi : Nat} {A : Option Addr} {n c : Nat} {xs : List α}
theorem Own.onl {b : Nat} (h : Own t k enc w lo hi A n c xs) (ho : Only b w w') (hb : b < lo) : Own t k enc w' lo hi A n c xs := ⟨h.len, ow_only h.own ho hb, h.up, Nat.le_trans h.hi_le ho.size⟩
theorem Own.grw {g : Nat} (h : Own t k enc w lo hi A n c xs) (hg : w.grownBy w' (some g)) (hne : hi ≤ g) : Own t k enc w' lo hi A n c xs := h.touch (Touch.of_grown (lo := g) (hi := g + 1) hg (Nat.le_refl _) (Nat.lt_succ_self _)) (.inl hne)
theorem Own.alc (h : Own t k enc w lo hi A n c xs) (o : Obj) : Own t k enc (w.alloc o) lo hi A n c xs := h.below ((Below.refl _ _).alloc (Nat.le_refl _) o)
end
theorem info_I64 : (Tryz.prog.info? 2).map (fun i => (i.zero, i.size, i.bytes)) = some (some (.int .i64 0), 1, 8) := by kernel_rfl
theorem int_one {x : Int} : ∀ u ∈ [Value.int .i64 x], u.oneCell' = true := fun y hy => by
  simp at hy
  subst hy
  rfl
theorem flatI_snoc (xs : List Int) (x : Int) : flat encI xs ++ [Value.int .i64 x] = flat encI (xs ++ [x]) := flat_snoc xs x
/-- What drawn clays and parts leave. -/
def BDrawn (w0 w : World) (b : Nat) (A : Option Addr) (n c k : Nat) (e : Ending) (w' : World) : Prop :=
  ∃ (zs : List Clay) (ps : List Int) (g d g2 d2 k' : Nat), zs.length ≤ 7 ∧ ps.length ≤ 8 ∧ ShortNames zs ∧ e = .returned (.tuple #[.slice (some ⟨g, 0, none⟩) zs.length d, .slice (some ⟨g2, 0, none⟩) ps.length d2]) ∧ Own 35 5 Clay.enc w' w.heap.size w'.heap.size (some ⟨g, 0, none⟩) zs.length d zs ∧ Row encI 1 w' (some ⟨g2, 0, none⟩) ps ∧ w.heap.size ≤ g2 ∧ k' ≤ k + 200 ∧ Src w0 w' b A n c k' ∧ Only b w w'
set_option maxRecDepth 100000 in
set_option maxHeartbeats 8000000 in
theorem src_l03Both (w0 w : World) (b : Nat) (A : Option Addr) (n c k : Nat) (z : List Int) (hk : k < 1099511600000) (ha : ArgInts .u8 w0 A n c z) (hs : Src w0 w b A n c k) :
    Calls Tryz.prog 29 #[.pointer (some ⟨b, 0, none⟩)] w (BDrawn w0 w b A n c k) := by
  obtain ⟨i0, hi, hy0, hy1, hy2⟩ := info_parts info_I64
  have HI := hide hi
  have HY0 := hide hy0
  have HY1 := hide hy1
  have HY2 := hide hy2
  have HA := hide ha
  have hbl := hs.lt
  have hba := hs.base
  have hw0 : w0.heap.size ≤ w.heap.size := hs.2.1.size
  have HS := hide hs
  clear ha hs hi hy0 hy1 hy2
  go_enter Tryz.func29, Tryz.ntmps29
  go_wp2_with fail
  refine (src_l03Bent 5 (by omega) w0 _ b A n c k z (by omega) HA.out HS.out).mono ?_
  rintro e w1 ⟨zs, g, d, k1, hl1, hnm, rfl, hw1, hk1, hs1, ho1⟩
  obtain ⟨nz, hnz⟩ : ∃ r, zs.length = r := ⟨_, rfl⟩
  rw [hnz] at hw1 hl1 ⊢
  have HNZ := hide hnz
  have HS1 := hide (hs1.alloc (.cells #[] 2))
  have HO1 := hide (ho1.alloc (.cells #[] 2))
  have HW1 := hide (hw1.alc (.cells #[] 2))
  have HN := hide hnm
  have hz1 := ho1.size
  have HE := hide (own_empty w1 w1.heap.size 1 2 (Nat.le_refl _))
  clear hs1 ho1 hw1 hnz hnm HS
  go_wp2
  go_loopw [5, 6] (fun u5 u6 wr => ∃ (j k' : Nat) (ps : List Int) (g2 d2 : Nat), j ≤ nz ∧ ps.length = j ∧ u6 = .int .i64 (j : Int) ∧ u5 = .slice (some ⟨g2, 0, none⟩) j d2 ∧ k' ≤ k1 + 2 * j ∧ Hid (wr.ownsRow w1.heap.size 2 1 (.slice (some ⟨g2, 0, none⟩) j d2) j (flat encI ps)) ∧ Hid (Own 35 5 Clay.enc wr w.heap.size w1.heap.size (some ⟨g, 0, none⟩) nz d zs) ∧ Hid (Src w0 wr b A n c k') ∧ Hid (Only b w wr)) (fun _ i _ => nz - (intOf i).toNat)
  case atStart => exact ⟨0, k1, [], _, 0, by omega, rfl, rfl, rfl, by omega, HE, HW1, HS1, HO1⟩
  case round =>
    clear HW1 HS1 HO1 HE
    obtain ⟨j, k', ps, g2, d2, hj, hpl, rfl, rfl, hk', HP, HW, HSr, HOr⟩ := hrel
    have hzr := HOr.out.size
    have hg := own_lt HP.out
    have hgl := HW.out.hi_le
    by_cases hlt : j < nz
    · have hjn : (j : Int) < (nz : Int) := by omega
      have HPL := hide hpl
      clear hpl
      go_wp2_with fail
      refine (src_pick w0 _ b A n c k' z 7 (by omega) (by omega) (by omega) HA.out HSr.out).mono ?_
      rintro e w7 ⟨v, k7, hv0, hv1, rfl, hk7, hs7, ho7⟩
      have HP7 := hide (ow_only HP.out ho7 (by omega))
      have HW7 := hide (HW.out.onl ho7 hbl)
      have HS7 := hide hs7
      have HO7 := hide (HOr.out.trans ho7)
      have hz7 := HO7.out.size
      have hg7 := own_lt HP7.out
      clear hs7 ho7
      go_wp2_with (at_builtin; go_loud (refine wpList_append_lies _ rfl _ _ _ rfl w1.heap.size 2 i0 _ 1 8 Tryz.underlying25 HI.out HY0.out HY1.out HY2.out rfl (by omega) _ j (flat encI ps) rfl (HP7.out.alloc _) ⟨w7.heap.size, 0, none⟩ 1 1 [.int .i64 (2 * v)] rfl rfl (cell_one_new _ _ _) int_one (by omega) (by unfold maxLen; omega) (by omega) (by simp; omega) (w7.heap.size + 1) (by simp) ?_; intro g3 cap2 w8 hown8 hgrow hat hlt2))
      rw [flatI_snoc] at hown8
      have HP8 := hide hown8
      have HW8 := hide ((HW7.out.alc _).grw (g := g2) hgrow (by omega))
      have HS8 := hide ((HS7.out.alloc _).grw hgrow (fun q => by have := (HP7.out.lt b q.symm).1; omega) (fun i hi => by have := (HP7.out.lt i hi).1; omega))
      have HO8 := hide ((HO7.out.alloc _).grw hgrow (fun i hi => by have := (HP7.out.lt i hi).1; omega))
      clear hown8 hgrow hat hlt2
      go_wp2
      go_roundw
      case rel => exact ⟨j + 1, k7, ps ++ [2 * v], g3, cap2, by omega, by rw [List.length_append, HPL.out]; rfl, by go_num, rfl, by omega, HP8, HW8, HS8, HO8⟩
      case measure => simp [intOf]; omega
    · obtain rfl : j = nz := by omega
      have HPL := hide hpl
      clear hpl
      by_cases hp : 0 < j
      case neg =>
        obtain rfl : j = 0 := by omega
        go_wp2_with fail
        refine (src_one w0 _ b A n c _ z 12 (by omega) (by omega) (by omega) HA.out HSr.out).mono ?_
        rintro e r1 ⟨yes, p1, rfl, hp1, rs1, ro1⟩
        have RS1 := hide rs1
        have RO1 := hide (HOr.out.trans ro1)
        have RP1 := hide (ow_only HP.out ro1 (by omega))
        have RW1 := hide (HW.out.onl ro1 hbl)
        have rz1 := RW1.out.hi_le
        clear rs1 ro1
        cases yes
        · go_wp2_with fail
          refine (src_one w0 _ b A n c _ z 16 (by omega) (by omega) (by omega) HA.out RS1.out).mono ?_
          rintro e s1 ⟨yes, q1, rfl, hq1, ss1, so1⟩
          have SS1 := hide ss1
          have SO1 := hide (RO1.out.trans so1)
          have SP1 := hide (ow_only RP1.out so1 (by omega))
          have SW1 := hide (RW1.out.onl so1 hbl)
          have sg1 := own_lt SP1.out
          clear ss1 so1
          cases yes
          · go_wp2
            go_ret2
            exact ⟨zs, ps, g, d, _, _, q1, by rw [HNZ.out]; exact hl1, by rw [HPL.out]; omega, HN.out, by first | (rw [HNZ.out, HPL.out]; rfl) | (rw [HNZ.out]; rfl), by rw [HNZ.out]; exact own_entire HNZ.out SW1.out.own, Row.of_own (fun _ => rfl) HPL.out SP1.out, Nat.le_trans hz1 sg1.1, by omega, SS1.out, SO1.out⟩
          · go_wp2_with (at_builtin; go_loud (refine wpList_append_lies _ rfl _ _ _ rfl w1.heap.size 2 i0 _ 1 8 Tryz.underlying25 HI.out HY0.out HY1.out HY2.out rfl (by omega) _ 0 (flat encI (ps)) rfl (SP1.out.alloc _) ⟨s1.heap.size, 0, none⟩ 1 1 [.int .i64 1] rfl rfl (cell_one_new _ _ _) int_one (by omega) (by unfold maxLen; omega) (by omega) (by simp; omega) (s1.heap.size + 1) (by simp) ?_; intro g9 cap9 s2 hown8 hgrow hat hlt2))
            rw [flatI_snoc] at hown8
            have SPL := hide (show ((ps) ++ [(1 : Int)]).length = 0 + 1 from by rw [List.length_append, HPL.out]; rfl)
            have SP2 := hide hown8
            have SW2 := hide ((SW1.out.alc _).grw (g := g2) hgrow (by have := SW1.out.hi_le; omega))
            have SS2 := hide ((SS1.out.alloc _).grw hgrow (fun q => by have := (SP1.out.lt b q.symm).1; omega) (fun i hi => by have := (SP1.out.lt i hi).1; omega))
            have SO2 := hide ((SO1.out.alloc _).grw hgrow (fun i hi => by have := (SP1.out.lt i hi).1; omega))
            clear hown8 hgrow hat hlt2
            go_wp2
            go_ret2
            exact ⟨zs, (ps) ++ [1], g, d, _, _, q1, by rw [HNZ.out]; exact hl1, by rw [SPL.out]; omega, HN.out, by first | (rw [HNZ.out, SPL.out]; rfl) | (rw [HNZ.out]; rfl), by rw [HNZ.out]; exact own_entire HNZ.out SW2.out.own, Row.of_own (fun _ => rfl) SPL.out SP2.out, Nat.le_trans hz1 (own_lt SP2.out).1, by omega, SS2.out, SO2.out⟩
        · go_wp2_with (at_make; refine wpList_make_full _ rfl _ _ _ rfl w1.heap.size 2 i0 _ 1 Tryz.underlying25 HI.out HY0.out HY1.out .i64 .i64 _ _ 0 rfl rfl rfl rfl (by rw [HY2.out]; omega) (by unfold maxLen; omega) (by omega) ?_; intro r2 hown2 hg2)
          rw [made_ints] at hown2
          have RPL := hide (show (List.replicate 0 (0 : Int)).length = 0 from List.length_replicate)
          have RP2 := hide hown2
          have RS2 := hide (RS1.out.grw hg2 (by simp) (by simp))
          have RO2 := hide (RO1.out.grw hg2 (by simp))
          have RW2 := hide (RW1.out.below ((Below.refl _ _).grown hg2 (Nat.le_refl _) (by simp)))
          clear hown2 hg2
          go_wp2_with fail
          refine (src_one w0 _ b A n c _ z 16 (by omega) (by omega) (by omega) HA.out RS2.out).mono ?_
          rintro e s1 ⟨yes, q1, rfl, hq1, ss1, so1⟩
          have SS1 := hide ss1
          have SO1 := hide (RO2.out.trans so1)
          have SP1 := hide (ow_only RP2.out so1 (by omega))
          have SW1 := hide (RW2.out.onl so1 hbl)
          have sg1 := own_lt SP1.out
          clear ss1 so1
          cases yes
          · go_wp2
            go_ret2
            exact ⟨zs, List.replicate 0 (0 : Int), g, d, _, _, q1, by rw [HNZ.out]; exact hl1, by rw [RPL.out]; omega, HN.out, by first | (rw [HNZ.out, RPL.out]; rfl) | (rw [HNZ.out]; rfl), by rw [HNZ.out]; exact own_entire HNZ.out SW1.out.own, Row.of_own (fun _ => rfl) RPL.out SP1.out, Nat.le_trans hz1 sg1.1, by omega, SS1.out, SO1.out⟩
          · go_wp2_with (at_builtin; go_loud (refine wpList_append_lies _ rfl _ _ _ rfl w1.heap.size 2 i0 _ 1 8 Tryz.underlying25 HI.out HY0.out HY1.out HY2.out rfl (by omega) _ 0 (flat encI (List.replicate 0 (0 : Int))) rfl (SP1.out.alloc _) ⟨s1.heap.size, 0, none⟩ 1 1 [.int .i64 1] rfl rfl (cell_one_new _ _ _) int_one (by omega) (by unfold maxLen; omega) (by omega) (by simp; omega) (s1.heap.size + 1) (by simp) ?_; intro g9 cap9 s2 hown8 hgrow hat hlt2))
            rw [flatI_snoc] at hown8
            have SPL := hide (show ((List.replicate 0 (0 : Int)) ++ [(1 : Int)]).length = 0 + 1 from by rw [List.length_append, RPL.out]; rfl)
            have SP2 := hide hown8
            have SW2 := hide ((SW1.out.alc _).grw (g := r1.heap.size) hgrow (by have := SW1.out.hi_le; omega))
            have SS2 := hide ((SS1.out.alloc _).grw hgrow (fun q => by have := (SP1.out.lt b q.symm).1; omega) (fun i hi => by have := (SP1.out.lt i hi).1; omega))
            have SO2 := hide ((SO1.out.alloc _).grw hgrow (fun i hi => by have := (SP1.out.lt i hi).1; omega))
            clear hown8 hgrow hat hlt2
            go_wp2
            go_ret2
            exact ⟨zs, (List.replicate 0 (0 : Int)) ++ [1], g, d, _, _, q1, by rw [HNZ.out]; exact hl1, by rw [SPL.out]; omega, HN.out, by first | (rw [HNZ.out, SPL.out]; rfl) | (rw [HNZ.out]; rfl), by rw [HNZ.out]; exact own_entire HNZ.out SW2.out.own, Row.of_own (fun _ => rfl) SPL.out SP2.out, Nat.le_trans hz1 (own_lt SP2.out).1, by omega, SS2.out, SO2.out⟩
      go_wp2_with fail
      refine (src_one w0 _ b A n c k' z 12 (by omega) (by omega) (by omega) HA.out HSr.out).mono ?_
      rintro e w4 ⟨yes, k4, rfl, hk4, hs4, ho4⟩
      have HS4 := hide hs4
      have HO4 := hide (HOr.out.trans ho4)
      have HP4 := hide (ow_only HP.out ho4 (by omega))
      have HW4 := hide (HW.out.onl ho4 hbl)
      clear hs4 ho4
      cases yes
      · go_wp2_with fail
        refine (src_one w0 _ b A n c _ z 12 (by omega) (by omega) (by omega) HA.out HS4.out).mono ?_
        rintro e r1 ⟨yes, p1, rfl, hp1, rs1, ro1⟩
        have RS1 := hide rs1
        have RO1 := hide (HO4.out.trans ro1)
        have RP1 := hide (ow_only HP4.out ro1 (by omega))
        have RW1 := hide (HW4.out.onl ro1 hbl)
        have rz1 := RW1.out.hi_le
        clear rs1 ro1
        cases yes
        · go_wp2_with fail
          refine (src_one w0 _ b A n c _ z 16 (by omega) (by omega) (by omega) HA.out RS1.out).mono ?_
          rintro e s1 ⟨yes, q1, rfl, hq1, ss1, so1⟩
          have SS1 := hide ss1
          have SO1 := hide (RO1.out.trans so1)
          have SP1 := hide (ow_only RP1.out so1 (by omega))
          have SW1 := hide (RW1.out.onl so1 hbl)
          have sg1 := own_lt SP1.out
          clear ss1 so1
          cases yes
          · go_wp2
            go_ret2
            exact ⟨zs, ps, g, d, _, _, q1, by rw [HNZ.out]; exact hl1, by rw [HPL.out]; omega, HN.out, by first | (rw [HNZ.out, HPL.out]; rfl) | (rw [HNZ.out]; rfl), by rw [HNZ.out]; exact own_entire HNZ.out SW1.out.own, Row.of_own (fun _ => rfl) HPL.out SP1.out, Nat.le_trans hz1 sg1.1, by omega, SS1.out, SO1.out⟩
          · go_wp2_with (at_builtin; go_loud (refine wpList_append_lies _ rfl _ _ _ rfl w1.heap.size 2 i0 _ 1 8 Tryz.underlying25 HI.out HY0.out HY1.out HY2.out rfl (by omega) _ j (flat encI (ps)) rfl (SP1.out.alloc _) ⟨s1.heap.size, 0, none⟩ 1 1 [.int .i64 1] rfl rfl (cell_one_new _ _ _) int_one (by omega) (by unfold maxLen; omega) (by omega) (by simp; omega) (s1.heap.size + 1) (by simp) ?_; intro g9 cap9 s2 hown8 hgrow hat hlt2))
            rw [flatI_snoc] at hown8
            have SPL := hide (show ((ps) ++ [(1 : Int)]).length = j + 1 from by rw [List.length_append, HPL.out]; rfl)
            have SP2 := hide hown8
            have SW2 := hide ((SW1.out.alc _).grw (g := g2) hgrow (by have := SW1.out.hi_le; omega))
            have SS2 := hide ((SS1.out.alloc _).grw hgrow (fun q => by have := (SP1.out.lt b q.symm).1; omega) (fun i hi => by have := (SP1.out.lt i hi).1; omega))
            have SO2 := hide ((SO1.out.alloc _).grw hgrow (fun i hi => by have := (SP1.out.lt i hi).1; omega))
            clear hown8 hgrow hat hlt2
            go_wp2
            go_ret2
            exact ⟨zs, (ps) ++ [1], g, d, _, _, q1, by rw [HNZ.out]; exact hl1, by rw [SPL.out]; omega, HN.out, by first | (rw [HNZ.out, SPL.out]; rfl) | (rw [HNZ.out]; rfl), by rw [HNZ.out]; exact own_entire HNZ.out SW2.out.own, Row.of_own (fun _ => rfl) SPL.out SP2.out, Nat.le_trans hz1 (own_lt SP2.out).1, by omega, SS2.out, SO2.out⟩
        · go_wp2_with (at_make; refine wpList_make_full _ rfl _ _ _ rfl w1.heap.size 2 i0 _ 1 Tryz.underlying25 HI.out HY0.out HY1.out .i64 .i64 _ _ j rfl rfl rfl rfl (by rw [HY2.out]; omega) (by unfold maxLen; omega) (by omega) ?_; intro r2 hown2 hg2)
          rw [made_ints] at hown2
          have RPL := hide (show (List.replicate j (0 : Int)).length = j from List.length_replicate)
          have RP2 := hide hown2
          have RS2 := hide (RS1.out.grw hg2 (by simp) (by simp))
          have RO2 := hide (RO1.out.grw hg2 (by simp))
          have RW2 := hide (RW1.out.below ((Below.refl _ _).grown hg2 (Nat.le_refl _) (by simp)))
          clear hown2 hg2
          go_wp2_with fail
          refine (src_one w0 _ b A n c _ z 16 (by omega) (by omega) (by omega) HA.out RS2.out).mono ?_
          rintro e s1 ⟨yes, q1, rfl, hq1, ss1, so1⟩
          have SS1 := hide ss1
          have SO1 := hide (RO2.out.trans so1)
          have SP1 := hide (ow_only RP2.out so1 (by omega))
          have SW1 := hide (RW2.out.onl so1 hbl)
          have sg1 := own_lt SP1.out
          clear ss1 so1
          cases yes
          · go_wp2
            go_ret2
            exact ⟨zs, List.replicate j (0 : Int), g, d, _, _, q1, by rw [HNZ.out]; exact hl1, by rw [RPL.out]; omega, HN.out, by first | (rw [HNZ.out, RPL.out]; rfl) | (rw [HNZ.out]; rfl), by rw [HNZ.out]; exact own_entire HNZ.out SW1.out.own, Row.of_own (fun _ => rfl) RPL.out SP1.out, Nat.le_trans hz1 sg1.1, by omega, SS1.out, SO1.out⟩
          · go_wp2_with (at_builtin; go_loud (refine wpList_append_lies _ rfl _ _ _ rfl w1.heap.size 2 i0 _ 1 8 Tryz.underlying25 HI.out HY0.out HY1.out HY2.out rfl (by omega) _ j (flat encI (List.replicate j (0 : Int))) rfl (SP1.out.alloc _) ⟨s1.heap.size, 0, none⟩ 1 1 [.int .i64 1] rfl rfl (cell_one_new _ _ _) int_one (by omega) (by unfold maxLen; omega) (by omega) (by simp; omega) (s1.heap.size + 1) (by simp) ?_; intro g9 cap9 s2 hown8 hgrow hat hlt2))
            rw [flatI_snoc] at hown8
            have SPL := hide (show ((List.replicate j (0 : Int)) ++ [(1 : Int)]).length = j + 1 from by rw [List.length_append, RPL.out]; rfl)
            have SP2 := hide hown8
            have SW2 := hide ((SW1.out.alc _).grw (g := r1.heap.size) hgrow (by have := SW1.out.hi_le; omega))
            have SS2 := hide ((SS1.out.alloc _).grw hgrow (fun q => by have := (SP1.out.lt b q.symm).1; omega) (fun i hi => by have := (SP1.out.lt i hi).1; omega))
            have SO2 := hide ((SO1.out.alloc _).grw hgrow (fun i hi => by have := (SP1.out.lt i hi).1; omega))
            clear hown8 hgrow hat hlt2
            go_wp2
            go_ret2
            exact ⟨zs, (List.replicate j (0 : Int)) ++ [1], g, d, _, _, q1, by rw [HNZ.out]; exact hl1, by rw [SPL.out]; omega, HN.out, by first | (rw [HNZ.out, SPL.out]; rfl) | (rw [HNZ.out]; rfl), by rw [HNZ.out]; exact own_entire HNZ.out SW2.out.own, Row.of_own (fun _ => rfl) SPL.out SP2.out, Nat.le_trans hz1 (own_lt SP2.out).1, by omega, SS2.out, SO2.out⟩
      · go_wp2_with fail
        refine (src_amongL [-1, 0, 1000, 1001] _ _ rfl w0 _ b A n c k4 z 4 rfl (by omega) (by omega) (by omega) HA.out HS4.out _ _ rfl).mono ?_
        rintro e w5 ⟨v, k5, hv, rfl, hk5, hs5, ho5⟩
        have hP5 := ow_only HP4.out ho5 (by omega)
        obtain ⟨v0, c0, f0⟩ := own_at_1 (i := 0) hP5 hp
        obtain ⟨hP6, hg6⟩ := own_int_set (i := 0) v hP5 hp
        have HP6 := hide hP6
        have HW6 := hide ((HW4.out.onl ho5 hbl).grw hg6 (by omega))
        have HS6 := hide (hs5.set_ (p := ⟨g2, 0, none⟩) (by show g2 ≠ b; omega) (by show w0.heap.size ≤ g2; omega) (.int .i64 v))
        have HO6 := hide ((HO4.out.trans ho5).set_ (p := ⟨g2, 0, none⟩) (.inr (by show w.heap.size ≤ g2; omega)) (.int .i64 v))
        have HPL6 := hide (show (ps.set 0 v).length = j from by rw [List.length_set]; exact HPL.out)
        clear hP5 hP6 hg6 hs5 ho5 hv
        go_wp2_with fail
        refine (src_one w0 _ b A n c _ z 12 (by omega) (by omega) (by omega) HA.out HS6.out).mono ?_
        rintro e r1 ⟨yes, p1, rfl, hp1, rs1, ro1⟩
        have RS1 := hide rs1
        have RO1 := hide (HO6.out.trans ro1)
        have RP1 := hide (ow_only HP6.out ro1 (by omega))
        have RW1 := hide (HW6.out.onl ro1 hbl)
        have rz1 := RW1.out.hi_le
        clear rs1 ro1
        cases yes
        · go_wp2_with fail
          refine (src_one w0 _ b A n c _ z 16 (by omega) (by omega) (by omega) HA.out RS1.out).mono ?_
          rintro e s1 ⟨yes, q1, rfl, hq1, ss1, so1⟩
          have SS1 := hide ss1
          have SO1 := hide (RO1.out.trans so1)
          have SP1 := hide (ow_only RP1.out so1 (by omega))
          have SW1 := hide (RW1.out.onl so1 hbl)
          have sg1 := own_lt SP1.out
          clear ss1 so1
          cases yes
          · go_wp2
            go_ret2
            exact ⟨zs, ps.set 0 v, g, d, _, _, q1, by rw [HNZ.out]; exact hl1, by rw [HPL6.out]; omega, HN.out, by first | (rw [HNZ.out, HPL6.out]; rfl) | (rw [HNZ.out]; rfl), by rw [HNZ.out]; exact own_entire HNZ.out SW1.out.own, Row.of_own (fun _ => rfl) HPL6.out SP1.out, Nat.le_trans hz1 sg1.1, by omega, SS1.out, SO1.out⟩
          · go_wp2_with (at_builtin; go_loud (refine wpList_append_lies _ rfl _ _ _ rfl w1.heap.size 2 i0 _ 1 8 Tryz.underlying25 HI.out HY0.out HY1.out HY2.out rfl (by omega) _ j (flat encI (ps.set 0 v)) rfl (SP1.out.alloc _) ⟨s1.heap.size, 0, none⟩ 1 1 [.int .i64 1] rfl rfl (cell_one_new _ _ _) int_one (by omega) (by unfold maxLen; omega) (by omega) (by simp; omega) (s1.heap.size + 1) (by simp) ?_; intro g9 cap9 s2 hown8 hgrow hat hlt2))
            rw [flatI_snoc] at hown8
            have SPL := hide (show ((ps.set 0 v) ++ [(1 : Int)]).length = j + 1 from by rw [List.length_append, HPL6.out]; rfl)
            have SP2 := hide hown8
            have SW2 := hide ((SW1.out.alc _).grw (g := g2) hgrow (by have := SW1.out.hi_le; omega))
            have SS2 := hide ((SS1.out.alloc _).grw hgrow (fun q => by have := (SP1.out.lt b q.symm).1; omega) (fun i hi => by have := (SP1.out.lt i hi).1; omega))
            have SO2 := hide ((SO1.out.alloc _).grw hgrow (fun i hi => by have := (SP1.out.lt i hi).1; omega))
            clear hown8 hgrow hat hlt2
            go_wp2
            go_ret2
            exact ⟨zs, (ps.set 0 v) ++ [1], g, d, _, _, q1, by rw [HNZ.out]; exact hl1, by rw [SPL.out]; omega, HN.out, by first | (rw [HNZ.out, SPL.out]; rfl) | (rw [HNZ.out]; rfl), by rw [HNZ.out]; exact own_entire HNZ.out SW2.out.own, Row.of_own (fun _ => rfl) SPL.out SP2.out, Nat.le_trans hz1 (own_lt SP2.out).1, by omega, SS2.out, SO2.out⟩
        · go_wp2_with (at_make; refine wpList_make_full _ rfl _ _ _ rfl w1.heap.size 2 i0 _ 1 Tryz.underlying25 HI.out HY0.out HY1.out .i64 .i64 _ _ j rfl rfl rfl rfl (by rw [HY2.out]; omega) (by unfold maxLen; omega) (by omega) ?_; intro r2 hown2 hg2)
          rw [made_ints] at hown2
          have RPL := hide (show (List.replicate j (0 : Int)).length = j from List.length_replicate)
          have RP2 := hide hown2
          have RS2 := hide (RS1.out.grw hg2 (by simp) (by simp))
          have RO2 := hide (RO1.out.grw hg2 (by simp))
          have RW2 := hide (RW1.out.below ((Below.refl _ _).grown hg2 (Nat.le_refl _) (by simp)))
          clear hown2 hg2
          go_wp2_with fail
          refine (src_one w0 _ b A n c _ z 16 (by omega) (by omega) (by omega) HA.out RS2.out).mono ?_
          rintro e s1 ⟨yes, q1, rfl, hq1, ss1, so1⟩
          have SS1 := hide ss1
          have SO1 := hide (RO2.out.trans so1)
          have SP1 := hide (ow_only RP2.out so1 (by omega))
          have SW1 := hide (RW2.out.onl so1 hbl)
          have sg1 := own_lt SP1.out
          clear ss1 so1
          cases yes
          · go_wp2
            go_ret2
            exact ⟨zs, List.replicate j (0 : Int), g, d, _, _, q1, by rw [HNZ.out]; exact hl1, by rw [RPL.out]; omega, HN.out, by first | (rw [HNZ.out, RPL.out]; rfl) | (rw [HNZ.out]; rfl), by rw [HNZ.out]; exact own_entire HNZ.out SW1.out.own, Row.of_own (fun _ => rfl) RPL.out SP1.out, Nat.le_trans hz1 sg1.1, by omega, SS1.out, SO1.out⟩
          · go_wp2_with (at_builtin; go_loud (refine wpList_append_lies _ rfl _ _ _ rfl w1.heap.size 2 i0 _ 1 8 Tryz.underlying25 HI.out HY0.out HY1.out HY2.out rfl (by omega) _ j (flat encI (List.replicate j (0 : Int))) rfl (SP1.out.alloc _) ⟨s1.heap.size, 0, none⟩ 1 1 [.int .i64 1] rfl rfl (cell_one_new _ _ _) int_one (by omega) (by unfold maxLen; omega) (by omega) (by simp; omega) (s1.heap.size + 1) (by simp) ?_; intro g9 cap9 s2 hown8 hgrow hat hlt2))
            rw [flatI_snoc] at hown8
            have SPL := hide (show ((List.replicate j (0 : Int)) ++ [(1 : Int)]).length = j + 1 from by rw [List.length_append, RPL.out]; rfl)
            have SP2 := hide hown8
            have SW2 := hide ((SW1.out.alc _).grw (g := r1.heap.size) hgrow (by have := SW1.out.hi_le; omega))
            have SS2 := hide ((SS1.out.alloc _).grw hgrow (fun q => by have := (SP1.out.lt b q.symm).1; omega) (fun i hi => by have := (SP1.out.lt i hi).1; omega))
            have SO2 := hide ((SO1.out.alloc _).grw hgrow (fun i hi => by have := (SP1.out.lt i hi).1; omega))
            clear hown8 hgrow hat hlt2
            go_wp2
            go_ret2
            exact ⟨zs, (List.replicate j (0 : Int)) ++ [1], g, d, _, _, q1, by rw [HNZ.out]; exact hl1, by rw [SPL.out]; omega, HN.out, by first | (rw [HNZ.out, SPL.out]; rfl) | (rw [HNZ.out]; rfl), by rw [HNZ.out]; exact own_entire HNZ.out SW2.out.own, Row.of_own (fun _ => rfl) SPL.out SP2.out, Nat.le_trans hz1 (own_lt SP2.out).1, by omega, SS2.out, SO2.out⟩
end Go.Proofs.YtfjdhjbfingofaaGreatDoor
