/-
  What is proved: the parts in least terms: one contract each, of the program and of the reference. Conditions: lengths that fit.
-/
import Derived.Test.YtfjdhjbfingofaaGreatDoorLeast
namespace Go.Proofs.YtfjdhjbfingofaaGreatDoor
open Go.RowKit
set_option linter.unusedVariables false

def leastL (zs : List Clay) (ps : List Int) : List Int := if scode zs ps = 0 then leastP ps ps.length else []
theorem leastL_len (zs : List Clay) (ps : List Int) : (leastL zs ps).length ≤ ps.length := by
  unfold leastL
  split
  · rw [leastP_len _ _ (Nat.le_refl _)]; exact Nat.le_refl _
  · exact Nat.zero_le _
theorem impl_least_no (A B : Option Addr) (n c m d : Nat) (zs : List Clay) (ps : List Int) (w : World) (hn : n ≤ 16777216) (hnc : n ≤ c) (hm : m ≤ 16777216) (hl : zs.length = n) (hl2 : ps.length = m) (ha : Row Clay.enc 5 w A zs) (hb : Row encI 1 w B ps) (hM : Names zs) (hc : pcode zs ps ≠ 0) :
    Calls Tryz.prog 12 #[.slice A n c, .slice B m d] w fun e w' => ∃ A' c', e = .returned (.tuple #[.slice A' ([] : List Int).length c', .int .i64 (pcode zs ps)]) ∧ Own 2 1 encI w' w.heap.size w'.heap.size A' ([] : List Int).length c' ([] : List Int) ∧ Below w.heap.size w w' := by
  have HA := hide ha
  have HB := hide hb
  have HL := hide hl
  have HL2 := hide hl2
  have HM := hide hM
  clear ha hb hl hl2 hM
  have dc : (pcode zs ps != 0) = true := by simpa using hc
  obtain ⟨k, hk⟩ : ∃ k, pcode zs ps = k := ⟨_, rfl⟩
  rw [hk] at dc ⊢
  have HK := hide hk
  clear hc hk
  go_enter Tryz.func12, Tryz.ntmps12
  go_wp2_with fail
  refine (impl_partsCode _ _ _ _ _ _ zs ps _ hn hnc hm HL.out HL2.out HA.out HB.out HM.out).mono ?_
  rintro e w1 ⟨rfl, hb1⟩
  rw [HK.out]
  have HB1 := hide hb1
  clear hb1
  go_wp2
  go_ret2
  exact ⟨none, 0, rfl, Own.nil (Nat.le_refl _), HB1.out⟩
set_option maxRecDepth 100000 in
set_option maxHeartbeats 1000000 in
theorem impl_least_zero (A B : Option Addr) (n c m d : Nat) (zs : List Clay) (ps : List Int) (w : World) (hn : n ≤ 16777216) (hnc : n ≤ c) (hm : m ≤ 16777216) (hl : zs.length = n) (hl2 : ps.length = m) (ha : Row Clay.enc 5 w A zs) (hb : Row encI 1 w B ps) (hM : Names zs) (h1 : claysOk zs = true) (h2 : ps.length = zs.length) (h3 : partsIn ps = true) (h4 : sumK ps ps.length = 0) :
    Calls Tryz.prog 12 #[.slice A n c, .slice B m d] w fun e w' => ∃ A' c', e = .returned (.tuple #[.slice A' ([] : List Int).length c', .int .i64 6]) ∧ Own 2 1 encI w' w.heap.size w'.heap.size A' ([] : List Int).length c' ([] : List Int) ∧ Below w.heap.size w w' := by
  have hp := pcode_yes h1 h2 h3
  have hmm : m ≤ 9223372036854775807 := by omega
  have H4 := hide (show gcdK ps m = 0 from (gcdK_zero h3 m).2 (by rw [← hl2]; exact h4))
  clear h4
  have HA := hide ha
  have HB := hide hb
  have HL := hide hl
  have HL2 := hide hl2
  have HM := hide hM
  clear ha hb hl hl2 hM
  go_enter Tryz.func12, Tryz.ntmps12
  go_wp2_with fail
  refine (impl_partsCode _ _ _ _ _ _ zs ps _ hn hnc hm HL.out HL2.out HA.out HB.out HM.out).mono ?_
  rintro e w1 ⟨rfl, hb1⟩
  rw [hp]
  have HB1 := hide hb1
  have hs1 := hb1.size
  clear hb1
  go_wp2
  have hg0 := gcdK_le h3
  go_loopw [7, 22] (fun g i wr => ∃ k : Nat, k ≤ m ∧ i = .int .i64 k ∧ g = .int .i64 (gcdK ps k) ∧ ∃ q, wr = (w1.alloc (.cells #[] 2)).drewN q) (fun _ i _ => m - (intOf i).toNat)
  case atStart => exact ⟨0, by omega, rfl, rfl, 0, rfl⟩
  case round =>
    obtain ⟨k, hk, rfl, rfl, q, rfl⟩ := hrel
    by_cases hlt : k < m
    · obtain ⟨x, hzk⟩ : ∃ z, ps[k]? = some z := ⟨ps[k]'(by have := HL2.out; omega), List.getElem?_eq_getElem (by have := HL2.out; omega)⟩
      obtain ⟨b, off, rfl, hb, a0⟩ := row_at_1 (HB.out.below (HB1.out.alloc hs1 (.cells #[] 2))) hzk rfl
      have HK := hide (show gcdK ps (k + 1) = Int.gcd (gcdK ps k) x from by rw [gcdK_succ, getD_is hzk])
      have hx := part_in h3 k
      have hgk := hg0 k
      rw [getD_is hzk] at hx
      clear hzk
      have hki : (k : Int) < (m : Int) := by omega
      go_wp2_with fail
      refine (impl_gcd (gcdK ps k) x _ (by omega) (by omega) (by omega) (by omega)).mono ?_
      rintro e w2 ⟨rfl, q2, rfl⟩
      rw [← HK.out]
      go_wp2
      go_roundw
      case rel => exact ⟨k + 1, by omega, by go_num, rfl, _, rfl⟩
      case measure => simp [intOf]; omega
    · obtain rfl : k = m := by omega
      rw [H4.out]
      go_wp2
      go_ret2
      exact ⟨none, 0, rfl, Own.nil (Nat.le_refl _), below_drewN (HB1.out.alloc hs1 _) _⟩
theorem impl_leastParts (A B : Option Addr) (n c m d : Nat) (zs : List Clay) (ps : List Int) (w : World) (hn : n ≤ 16777216) (hnc : n ≤ c) (hm : m ≤ 16777216) (hl : zs.length = n) (hl2 : ps.length = m) (ha : Row Clay.enc 5 w A zs) (hb : Row encI 1 w B ps) (hM : Names zs) :
    Calls Tryz.prog 12 #[.slice A n c, .slice B m d] w fun e w' => ∃ A' c', e = .returned (.tuple #[.slice A' (leastL zs ps).length c', .int .i64 (scode zs ps)]) ∧ Own 2 1 encI w' w.heap.size w'.heap.size A' (leastL zs ps).length c' (leastL zs ps) ∧ Below w.heap.size w w' := by
  unfold leastL
  rcases codes zs ps with ⟨h1, h2, h3, h5⟩ | ⟨h1, h2⟩
  · by_cases h4 : sumK ps ps.length = 0
    · rw [scode_zero h1 h2 h3 h4, if_neg (by decide)]
      exact impl_least_zero A B n c m d zs ps w hn hnc hm hl hl2 ha hb hM h1 h2 h3 h4
    · rw [scode_yes h1 h2 h3 h4, if_pos rfl, leastP_len _ _ (Nat.le_refl _), hl2]
      exact impl_least_yes A B n c m d zs ps w hn hnc hm hl hl2 ha hb hM h1 h2 h3 h4
  · have h3 : scode zs ps ≠ 0 := by rw [h2]; exact h1
    rw [if_neg h3, h2]
    exact impl_least_no A B n c m d zs ps w hn hnc hm hl hl2 ha hb hM h1
theorem impl_leastParts' (K : List Int) (cc : Int) (A B : Option Addr) (n c m d : Nat) (zs : List Clay) (ps : List Int) (w : World) (hn : n ≤ 16777216) (hnc : n ≤ c) (hm : m ≤ 16777216) (hl : zs.length = n) (hl2 : ps.length = m) (ha : Row Clay.enc 5 w A zs) (hb : Row encI 1 w B ps) (hM : Names zs) (hK : leastL zs ps = K) (hC : scode zs ps = cc) :
    Calls Tryz.prog 12 #[.slice A n c, .slice B m d] w fun e w' => ∃ A' c', e = .returned (.tuple #[.slice A' K.length c', .int .i64 cc]) ∧ Own 2 1 encI w' w.heap.size w'.heap.size A' K.length c' K ∧ Below w.heap.size w w' := by
  subst hK hC
  exact impl_leastParts A B n c m d zs ps w hn hnc hm hl hl2 ha hb hM
theorem spec_least_no (A B : Option Addr) (n c m d : Nat) (zs : List Clay) (ps : List Int) (w : World) (hn : n ≤ 16777216) (hm : m ≤ 16777216) (hl : zs.length = n) (hl2 : ps.length = m) (ha : Row Clay.enc 5 w A zs) (hb : Row encI 1 w B ps) (hM : Names zs) (hc : scode zs ps ≠ 0) :
    Calls Tryz.prog 13 #[.slice A n c, .slice B m d] w fun e w' => ∃ A' c', e = .returned (.tuple #[.slice A' ([] : List Int).length c', .int .i64 (scode zs ps)]) ∧ Own 2 1 encI w' w.heap.size w'.heap.size A' ([] : List Int).length c' ([] : List Int) ∧ Below w.heap.size w w' := by
  have HA := hide ha
  have HB := hide hb
  have HL := hide hl
  have HL2 := hide hl2
  have HM := hide hM
  clear ha hb hl hl2 hM
  have dc : (scode zs ps != 0) = true := by simpa using hc
  obtain ⟨k, hk⟩ : ∃ k, scode zs ps = k := ⟨_, rfl⟩
  rw [hk] at dc ⊢
  have HK := hide hk
  clear hc hk
  go_enter Tryz.func13, Tryz.ntmps13
  go_wp2_with fail
  refine (spec_l03Code _ _ _ _ _ _ zs ps _ hn hm HL.out HL2.out HA.out HB.out HM.out).mono ?_
  rintro e w1 ⟨rfl, hb1⟩
  rw [HK.out]
  have HB1 := hide hb1
  clear hb1
  go_wp2
  go_ret2
  exact ⟨none, 0, rfl, Own.nil (Nat.le_refl _), HB1.out⟩
theorem spec_leastParts (A B : Option Addr) (n c m d : Nat) (zs : List Clay) (ps : List Int) (w : World) (hn : n ≤ 16777216) (hm : m ≤ 16777216) (hl : zs.length = n) (hl2 : ps.length = m) (ha : Row Clay.enc 5 w A zs) (hb : Row encI 1 w B ps) (hM : Names zs) :
    Calls Tryz.prog 13 #[.slice A n c, .slice B m d] w fun e w' => ∃ A' c', e = .returned (.tuple #[.slice A' (leastL zs ps).length c', .int .i64 (scode zs ps)]) ∧ Own 2 1 encI w' w.heap.size w'.heap.size A' (leastL zs ps).length c' (leastL zs ps) ∧ Below w.heap.size w w' := by
  unfold leastL
  rcases codes zs ps with ⟨h1, h2, h3, h5⟩ | ⟨h1, h2⟩
  · by_cases h4 : sumK ps ps.length = 0
    · rw [scode_zero h1 h2 h3 h4, if_neg (by decide)]
      rw [← scode_zero h1 h2 h3 h4]
      exact spec_least_no A B n c m d zs ps w hn hm hl hl2 ha hb hM (by rw [scode_zero h1 h2 h3 h4]; decide)
    · rw [scode_yes h1 h2 h3 h4, if_pos rfl, leastP_len _ _ (Nat.le_refl _), hl2]
      exact spec_least_yes A B n c m d zs ps w hn hm hl hl2 ha hb hM h1 h2 h3 h4
  · have h3 : scode zs ps ≠ 0 := by rw [h2]; exact h1
    rw [if_neg h3]
    exact spec_least_no A B n c m d zs ps w hn hm hl hl2 ha hb hM h3
theorem spec_leastParts' (K : List Int) (cc : Int) (A B : Option Addr) (n c m d : Nat) (zs : List Clay) (ps : List Int) (w : World) (hn : n ≤ 16777216) (hm : m ≤ 16777216) (hl : zs.length = n) (hl2 : ps.length = m) (ha : Row Clay.enc 5 w A zs) (hb : Row encI 1 w B ps) (hM : Names zs) (hK : leastL zs ps = K) (hC : scode zs ps = cc) :
    Calls Tryz.prog 13 #[.slice A n c, .slice B m d] w fun e w' => ∃ A' c', e = .returned (.tuple #[.slice A' K.length c', .int .i64 cc]) ∧ Own 2 1 encI w' w.heap.size w'.heap.size A' K.length c' K ∧ Below w.heap.size w w' := by
  subst hK hC
  exact spec_leastParts A B n c m d zs ps w hn hm hl hl2 ha hb hM
end Go.Proofs.YtfjdhjbfingofaaGreatDoor
