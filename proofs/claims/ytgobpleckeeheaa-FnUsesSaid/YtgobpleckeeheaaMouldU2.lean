/-
  What is proved: how often each mould is used, of the program and of the reference, in every case. Conditions: lengths that fit.
-/
import Derived.Test.YtgobpleckeeheaaMouldU
namespace Go.Proofs.Ytgobpleckeeheaa
open Go.RowKit
set_option linter.unusedVariables false

theorem spec_share_bad (A : Option Addr) (n c : Nat) (zs : List Mould) (m : Int) (w : World) (hn : n ≤ 16777216) (hl : zs.length = n) (h : Row Mould.enc 4 w A zs) (hv : mouldsOk zs = false) :
    Calls Try.prog 22 #[.slice A n c, .int .i64 m] w fun e w' => ∃ A' c', e = .returned (.tuple #[.slice A' ([] : List Int).length c', .int .i64 1]) ∧ Own 2 1 encI w' w.heap.size w'.heap.size A' ([] : List Int).length c' ([] : List Int) ∧ Below w.heap.size w w' := by
  have HA := hide h
  have HL := hide hl
  have hnm : n ≤ 9223372036854775807 := by omega
  clear h
  go_enter Try.func22, Try.ntmps22
  go_wp2_with fail
  refine (spec_l05Ok _ _ _ zs _ hn HL.out HA.out).mono ?_
  rintro e u1 ⟨rfl, rfl⟩
  rw [hv]
  go_wp2
  go_ret2
  exact ⟨none, 0, rfl, Own.nil (Nat.le_refl _), Below.refl _ _⟩
theorem spec_share_range (A : Option Addr) (n c : Nat) (zs : List Mould) (m : Int) (w : World) (hn : n ≤ 16777216) (hl : zs.length = n) (h : Row Mould.enc 4 w A zs) (hv : mouldsOk zs = true) (hr : ¬ (0 ≤ m ∧ m ≤ 2000)) :
    Calls Try.prog 22 #[.slice A n c, .int .i64 m] w fun e w' => ∃ A' c', e = .returned (.tuple #[.slice A' ([] : List Int).length c', .int .i64 2]) ∧ Own 2 1 encI w' w.heap.size w'.heap.size A' ([] : List Int).length c' ([] : List Int) ∧ Below w.heap.size w w' := by
  have HA := hide h
  have HL := hide hl
  have hnm : n ≤ 9223372036854775807 := by omega
  clear h
  go_enter Try.func22, Try.ntmps22
  go_wp2_with fail
  refine (spec_l05Ok _ _ _ zs _ hn HL.out HA.out).mono ?_
  rintro e u1 ⟨rfl, rfl⟩
  rw [hv]
  go_wp2_with fail
  refine (spec_in_no _ _ _ _ hr).mono ?_
  rintro e u2 ⟨rfl, rfl⟩
  go_wp2
  go_ret2
  exact ⟨none, 0, rfl, Own.nil (Nat.le_refl _), Below.refl _ _⟩
theorem spec_share_none (A : Option Addr) (n c : Nat) (zs : List Mould) (m : Int) (w : World) (hn : n ≤ 16777216) (hl : zs.length = n) (h : Row Mould.enc 4 w A zs) (hv : mouldsOk zs = true) (h0 : 0 ≤ m) (h1 : m ≤ 2000) (hp : n = 0) :
    Calls Try.prog 22 #[.slice A n c, .int .i64 m] w fun e w' => ∃ A' c', e = .returned (.tuple #[.slice A' ([] : List Int).length c', .int .i64 3]) ∧ Own 2 1 encI w' w.heap.size w'.heap.size A' ([] : List Int).length c' ([] : List Int) ∧ Below w.heap.size w w' := by
  subst hp
  have HA := hide h
  have HL := hide hl
  clear h
  go_enter Try.func22, Try.ntmps22
  go_wp2_with fail
  refine (spec_l05Ok _ _ _ zs _ hn HL.out HA.out).mono ?_
  rintro e u1 ⟨rfl, rfl⟩
  rw [hv]
  go_wp2_with fail
  refine (spec_in_yes _ _ _ _ h0 h1).mono ?_
  rintro e u2 ⟨rfl, rfl⟩
  go_wp2
  go_ret2
  exact ⟨none, 0, rfl, Own.nil (Nat.le_refl _), Below.refl _ _⟩
theorem spec_share (A : Option Addr) (n c : Nat) (zs : List Mould) (m : Int) (w : World) (hn : n ≤ 16777216) (hl : zs.length = n) (h : Row Mould.enc 4 w A zs) :
    Calls Try.prog 22 #[.slice A n c, .int .i64 m] w fun e w' => ∃ A' c', e = .returned (.tuple #[.slice A' (shareL zs m).length c', .int .i64 (shareC zs m)]) ∧ Own 2 1 encI w' w.heap.size w'.heap.size A' (shareL zs m).length c' (shareL zs m) ∧ Below w.heap.size w w' := by
  unfold shareL shareC
  by_cases hv : mouldsOk zs = true
  · by_cases hr : 0 ≤ m ∧ m ≤ 2000
    · by_cases hp : 0 < zs.length
      · rw [if_pos ⟨hv, hr, hp⟩, if_pos hv, if_pos hr, if_pos hp, hl]
        exact spec_share_yes A n c zs m w hn hl h hv hr.1 hr.2 (by omega)
      · rw [if_neg (fun q => hp q.2.2), if_pos hv, if_pos hr, if_neg hp]
        exact spec_share_none A n c zs m w hn hl h hv hr.1 hr.2 (by omega)
    · rw [if_neg (fun q => hr q.2.1), if_pos hv, if_neg hr]
      exact spec_share_range A n c zs m w hn hl h hv hr
  · rw [if_neg (fun q => hv q.1), if_neg hv]
    exact spec_share_bad A n c zs m w hn hl h (by simpa using hv)
theorem spec_share' (A : Option Addr) (n c : Nat) (zs : List Mould) (m : Int) (K : List Int) (cc : Int) (w : World) (hK : shareL zs m = K) (hC : shareC zs m = cc) (hn : n ≤ 16777216) (hl : zs.length = n) (h : Row Mould.enc 4 w A zs) :
    Calls Try.prog 22 #[.slice A n c, .int .i64 m] w fun e w' => ∃ A' c', e = .returned (.tuple #[.slice A' K.length c', .int .i64 cc]) ∧ Own 2 1 encI w' w.heap.size w'.heap.size A' K.length c' K ∧ Below w.heap.size w w' := by
  subst hK hC
  exact spec_share A n c zs m w hn hl h
theorem impl_share_bad (A : Option Addr) (n c : Nat) (zs : List Mould) (m : Int) (w : World) (hn : n ≤ 16777216) (hl : zs.length = n) (h : Row Mould.enc 4 w A zs) (hv : mouldsOk zs = false) :
    Calls Try.prog 21 #[.slice A n c, .int .i64 m] w fun e w' => ∃ A' c', e = .returned (.tuple #[.slice A' ([] : List Int).length c', .int .i64 1]) ∧ Own 2 1 encI w' w.heap.size w'.heap.size A' ([] : List Int).length c' ([] : List Int) ∧ Below w.heap.size w w' := by
  have HA := hide h
  have HL := hide hl
  have hnm : n ≤ 9223372036854775807 := by omega
  clear h
  go_enter Try.func21, Try.ntmps21
  go_wp2_with fail
  refine (impl_validMoulds _ _ _ zs _ hn HL.out HA.out).mono ?_
  rintro e u1 ⟨rfl, hb1⟩
  have HB1 := hide hb1
  have hs1 := hb1.size
  clear hb1
  rw [hv]
  go_wp2
  go_ret2
  exact ⟨none, 0, rfl, Own.nil (Nat.le_refl _), HB1.out⟩
theorem impl_share_range (A : Option Addr) (n c : Nat) (zs : List Mould) (m : Int) (w : World) (hn : n ≤ 16777216) (hl : zs.length = n) (h : Row Mould.enc 4 w A zs) (hv : mouldsOk zs = true) (hr : ¬ (0 ≤ m ∧ m ≤ 2000)) :
    Calls Try.prog 21 #[.slice A n c, .int .i64 m] w fun e w' => ∃ A' c', e = .returned (.tuple #[.slice A' ([] : List Int).length c', .int .i64 2]) ∧ Own 2 1 encI w' w.heap.size w'.heap.size A' ([] : List Int).length c' ([] : List Int) ∧ Below w.heap.size w w' := by
  have HA := hide h
  have HL := hide hl
  have hnm : n ≤ 9223372036854775807 := by omega
  clear h
  go_enter Try.func21, Try.ntmps21
  go_wp2_with fail
  refine (impl_validMoulds _ _ _ zs _ hn HL.out HA.out).mono ?_
  rintro e u1 ⟨rfl, hb1⟩
  have HB1 := hide hb1
  have hs1 := hb1.size
  clear hb1
  rw [hv]
  go_wp2_with fail
  refine (impl_in_no _ _ _ _ hr).mono ?_
  rintro e u2 ⟨rfl, rfl⟩
  go_wp2
  go_ret2
  exact ⟨none, 0, rfl, Own.nil (Nat.le_refl _), HB1.out⟩
theorem impl_share_none (A : Option Addr) (n c : Nat) (zs : List Mould) (m : Int) (w : World) (hn : n ≤ 16777216) (hl : zs.length = n) (h : Row Mould.enc 4 w A zs) (hv : mouldsOk zs = true) (h0 : 0 ≤ m) (h1 : m ≤ 2000) (hp : n = 0) :
    Calls Try.prog 21 #[.slice A n c, .int .i64 m] w fun e w' => ∃ A' c', e = .returned (.tuple #[.slice A' ([] : List Int).length c', .int .i64 3]) ∧ Own 2 1 encI w' w.heap.size w'.heap.size A' ([] : List Int).length c' ([] : List Int) ∧ Below w.heap.size w w' := by
  subst hp
  have HA := hide h
  have HL := hide hl
  clear h
  go_enter Try.func21, Try.ntmps21
  go_wp2_with fail
  refine (impl_validMoulds _ _ _ zs _ hn HL.out HA.out).mono ?_
  rintro e u1 ⟨rfl, hb1⟩
  have HB1 := hide hb1
  have hs1 := hb1.size
  clear hb1
  rw [hv]
  go_wp2_with fail
  refine (impl_in_yes _ _ _ _ h0 h1).mono ?_
  rintro e u2 ⟨rfl, rfl⟩
  go_wp2
  go_ret2
  exact ⟨none, 0, rfl, Own.nil (Nat.le_refl _), HB1.out⟩
set_option maxHeartbeats 1000000 in
theorem impl_share_yes (A : Option Addr) (n c : Nat) (zs : List Mould) (m : Int) (w : World) (hn : n ≤ 16777216) (hl : zs.length = n) (h : Row Mould.enc 4 w A zs) (hv : mouldsOk zs = true) (h0 : 0 ≤ m) (h1 : m ≤ 2000) (hp : 0 < n) :
    Calls Try.prog 21 #[.slice A n c, .int .i64 m] w fun e w' => ∃ A' c', e = .returned (.tuple #[.slice A' (share zs n m.toNat).length c', .int .i64 0]) ∧ Own 2 1 encI w' w.heap.size w'.heap.size A' (share zs n m.toNat).length c' (share zs n m.toNat) ∧ Below w.heap.size w w' := by
  obtain ⟨i0, hi, hz0, hz1, hz2⟩ := info_parts (show (Try.prog.info? 2).map (fun i => (i.zero, i.size, i.bytes)) = some (some (.int .i64 0), 1, 8) from by kernel_rfl)
  have HA := hide h
  have HL := hide hl
  have hnm : n ≤ 9223372036854775807 := by omega
  have dn : ((n : Int) == 0) = false := by simp; omega
  clear h hl
  go_enter Try.func21, Try.ntmps21
  go_wp2_with fail
  refine (impl_validMoulds _ _ _ zs _ hn HL.out HA.out).mono ?_
  rintro e u1 ⟨rfl, hb1⟩
  have HB1 := hide hb1
  have hs1 := hb1.size
  clear hb1
  rw [hv]
  go_wp2_with fail
  refine (impl_in_yes _ _ _ _ h0 h1).mono ?_
  rintro e w1 ⟨rfl, rfl⟩
  go_wp2_with (at_make; refine wpList_make_full _ rfl _ _ _ rfl w.heap.size 2 i0 _ 1 Try.underlying29 hi hz0 hz1 .i64 .i64 _ _ n rfl rfl rfl rfl (by rw [hz2]; omega) (by unfold maxLen; omega) hs1 ?_; intro w1 hown1 hg1)
  clear hi hz0 hz1 hz2
  have HO1 := hide hown1
  have HG1 := hide hg1
  clear hown1 hg1
  go_loopw [26] (fun t wr => ∃ k : Nat, (k : Int) ≤ m ∧ t = .int .i64 k ∧ Hid (wr.ownsRow w.heap.size 2 1 (.slice (some ⟨u1.heap.size, 0, none⟩) n n) n (flat encI (share zs n k))) ∧ Hid (Below w.heap.size w wr)) (fun t _ => m.toNat - (intOf t).toNat)
  case atStart => exact ⟨0, by omega, rfl, hide (by have hown1 := HO1.out; rw [made_ints] at hown1; exact hown1), hide (HB1.out.grown HG1.out hs1 (by simp))⟩
  case round =>
    obtain ⟨k, hk, rfl, HO, HB⟩ := hrel
    by_cases hlt : (k : Int) < m
    · go_wp2
      have hm0 := share_at zs n k
      go_loopw [7, 30] (fun b i wi => ∃ j : Nat, j ≤ n ∧ i = .int .i64 j ∧ b = .int .i64 (bestK zs (share zs n k) j) ∧ Hid (wi.ownsRow w.heap.size 2 1 (.slice (some ⟨u1.heap.size, 0, none⟩) n n) n (flat encI (share zs n k))) ∧ Hid (Below w.heap.size w wi)) (fun _ i _ => n - (intOf i).toNat)
      case atStart => exact ⟨0, by omega, rfl, by simp [bestK], HO, HB⟩
      case round =>
        clear HO HB
        obtain ⟨j, hj, rfl, rfl, HO, HB⟩ := hrel
        by_cases hltj : j < n
        · obtain ⟨⟨x0, x1, x2, x3⟩, hzk⟩ : ∃ z, zs[j]? = some z := ⟨zs[j]'(by have := HL.out; omega), List.getElem?_eq_getElem (by have := HL.out; omega)⟩
          have hbl := bestK_lt zs (share zs n k) j n (by omega) hp
          generalize hbj : bestK zs (share zs n k) j = bj at hbl ⊢
          obtain ⟨⟨y0, y1, y2, y3⟩, hyk⟩ : ∃ z, zs[bj]? = some z := ⟨zs[bj]'(by have := HL.out; omega), List.getElem?_eq_getElem (by have := HL.out; omega)⟩
          obtain ⟨b, off, rfl, hb, a0, a1, a2, a3⟩ := row_at_4 (HA.out.below HB.out) hzk rfl
          obtain ⟨b', off', heq, hb', c0, c1, c2, c3⟩ := row_at_4 (HA.out.below HB.out) hyk rfl
          cases heq
          have sj : (share zs n k)[j]? = some ((share zs n k).getD j 0) := by
            rw [List.getD_eq_getElem?_getD, List.getElem?_eq_getElem (by rw [share_len]; omega)]; rfl
          have sb : (share zs n k)[bj]? = some ((share zs n k).getD bj 0) := by
            rw [List.getD_eq_getElem?_getD, List.getElem?_eq_getElem (by rw [share_len]; omega)]; rfl
          have oj := (own_int_at HO.out sj).1
          have ob := (own_int_at HO.out sb).1
          have hg := (own_lt HO.out).2
          have rj := hm0 j
          have rb := hm0 bj
          have vx := moulds_uses hv hzk
          have vy := moulds_uses hv hyk
          have hji : (j : Int) < (n : Int) := by omega
          have hstep : bestK zs (share zs n k) (j + 1) = if x3 + (share zs n k).getD j 0 < y3 + (share zs n k).getD bj 0 then j else bj := by
            rw [bestK, hbj, usesAt_is hzk, usesAt_is hyk]
          have HS := hide hstep
          have HO1 := hide (HO.out.alloc (.cells #[.int .i64 x0, .int .i64 x1, .int .i64 x2, .int .i64 x3] 68))
          have HBe := hide (HB.out.alloc HB.out.size (.cells #[.int .i64 x0, .int .i64 x1, .int .i64 x2, .int .i64 x3] 68))
          clear hstep hbj hzk hyk sj sb hm0
          generalize (share zs n k).getD j 0 = sj at *
          generalize (share zs n k).getD bj 0 = sb at *
          by_cases hc : x3 + sj < y3 + sb
          · have HC := hide (HS.out.trans (if_pos hc))
            go_wp2
            go_quiet (fail)
            go_wp2
            go_roundw
            case rel => exact ⟨j + 1, by omega, by go_num, by rw [HC.out], HO1, hide (below_drewN HBe.out _)⟩
            case measure => simp [intOf]; omega
          · have HC := hide (HS.out.trans (if_neg hc))
            go_wp2
            go_quiet (fail)
            go_wp2
            go_roundw
            case rel => exact ⟨j + 1, by omega, by go_num, by rw [HC.out], HO1, hide (below_drewN HBe.out _)⟩
            case measure => simp [intOf]; omega
        · obtain rfl : j = n := by omega
          have hbl := bestK_lt zs (share zs j k) j j (Nat.le_refl _) hp
          have rb := hm0 (bestK zs (share zs j k) j)
          have HS := hide (show share zs j (k + 1) = (share zs j k).set (bestK zs (share zs j k) j) ((share zs j k).getD (bestK zs (share zs j k) j) 0 + 1) from rfl)
          have sb : (share zs j k)[bestK zs (share zs j k) j]? = some ((share zs j k).getD (bestK zs (share zs j k) j) 0) := by
            rw [List.getD_eq_getElem?_getD, List.getElem?_eq_getElem (by rw [share_len]; omega)]; rfl
          obtain ⟨ob, fb⟩ := own_int_at HO.out sb
          have hgg := own_lt HO.out
          clear sb hm0
          generalize (share zs j k).getD (bestK zs (share zs j k) j) 0 = vb at *
          generalize bestK zs (share zs j k) j = bj at *
          go_wp2
          go_roundw
          case rel =>
            have h1 := own_int_set (vb + 1) HO.out hbl
            refine ⟨k + 1, by omega, by go_num, hide (by rw [HS.out]; exact h1.1), hide (HB.out.trans (grown_below h1.2 hgg.1 HB.out.size))⟩
          case measure => simp [intOf]; omega
    · obtain rfl : m = (k : Int) := by omega
      go_wp2
      go_ret2
      exact ⟨some ⟨u1.heap.size, 0, none⟩, n, by rw [share_len]; rfl, ⟨rfl, by rw [share_len]; exact HO.out, fun a ha => by
        obtain rfl := Option.some.inj ha
        exact (own_lt HO.out).2, Nat.le_refl _⟩, HB.out⟩
theorem impl_share (A : Option Addr) (n c : Nat) (zs : List Mould) (m : Int) (w : World) (hn : n ≤ 16777216) (hl : zs.length = n) (h : Row Mould.enc 4 w A zs) :
    Calls Try.prog 21 #[.slice A n c, .int .i64 m] w fun e w' => ∃ A' c', e = .returned (.tuple #[.slice A' (shareL zs m).length c', .int .i64 (shareC zs m)]) ∧ Own 2 1 encI w' w.heap.size w'.heap.size A' (shareL zs m).length c' (shareL zs m) ∧ Below w.heap.size w w' := by
  unfold shareL shareC
  by_cases hv : mouldsOk zs = true
  · by_cases hr : 0 ≤ m ∧ m ≤ 2000
    · by_cases hp : 0 < zs.length
      · rw [if_pos ⟨hv, hr, hp⟩, if_pos hv, if_pos hr, if_pos hp, hl]
        exact impl_share_yes A n c zs m w hn hl h hv hr.1 hr.2 (by omega)
      · rw [if_neg (fun q => hp q.2.2), if_pos hv, if_pos hr, if_neg hp]
        exact impl_share_none A n c zs m w hn hl h hv hr.1 hr.2 (by omega)
    · rw [if_neg (fun q => hr q.2.1), if_pos hv, if_neg hr]
      exact impl_share_range A n c zs m w hn hl h hv hr
  · rw [if_neg (fun q => hv q.1), if_neg hv]
    exact impl_share_bad A n c zs m w hn hl h (by simpa using hv)
theorem impl_share' (A : Option Addr) (n c : Nat) (zs : List Mould) (m : Int) (K : List Int) (cc : Int) (w : World) (hK : shareL zs m = K) (hC : shareC zs m = cc) (hn : n ≤ 16777216) (hl : zs.length = n) (h : Row Mould.enc 4 w A zs) :
    Calls Try.prog 21 #[.slice A n c, .int .i64 m] w fun e w' => ∃ A' c', e = .returned (.tuple #[.slice A' K.length c', .int .i64 cc]) ∧ Own 2 1 encI w' w.heap.size w'.heap.size A' K.length c' K ∧ Below w.heap.size w w' := by
  subst hK hC
  exact impl_share A n c zs m w hn hl h
theorem shareL_len (zs : List Mould) (m : Int) : (shareL zs m).length ≤ zs.length := by
  unfold shareL
  split
  · rw [share_len]; exact Nat.le_refl _
  · exact Nat.zero_le _
end Go.Proofs.Ytgobpleckeeheaa
