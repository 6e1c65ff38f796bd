/-
  What is proved: the sum of parts, the code of clays and parts, of the program and of the reference. Conditions: lengths that fit.
-/
import Derived.Test.YtfjdhjbfingofaaGreatDoorParts
namespace Go.Proofs.YtfjdhjbfingofaaGreatDoor
open Go.RowKit
set_option linter.unusedVariables false

def partsIn (ps : List Int) : Bool := ps.all (inP 0 1000)
def sumK (ps : List Int) : Nat → Int
  | 0 => 0
  | k + 1 => sumK ps k + ps.getD k 0
theorem sumK_succ (ps : List Int) (k : Nat) : sumK ps (k + 1) = sumK ps k + ps.getD k 0 := rfl
theorem part_in {ps : List Int} (h : partsIn ps = true) (k : Nat) : 0 ≤ ps.getD k 0 ∧ ps.getD k 0 ≤ 1000 := by
  rw [List.getD_eq_getElem?_getD]
  rcases Nat.lt_or_ge k ps.length with h1 | h1
  · rw [List.getElem?_eq_getElem h1]
    have := List.all_eq_true.1 h _ (List.getElem_mem h1)
    exact of_decide_eq_true this
  · rw [List.getElem?_eq_none h1]
    exact ⟨Int.le_refl _, by decide⟩
theorem sumK_in {ps : List Int} (h : partsIn ps = true) (k : Nat) : 0 ≤ sumK ps k ∧ sumK ps k ≤ 1000 * k := by
  induction k with
  | zero => exact ⟨Int.le_refl _, Int.le_refl _⟩
  | succ k ih =>
    have := part_in h k
    rw [sumK_succ]
    omega
theorem getD_is {ps : List Int} {k : Nat} {x : Int} (h : ps[k]? = some x) : ps.getD k 0 = x := by rw [List.getD_eq_getElem?_getD, h]; rfl
def pcode (zs : List Clay) (ps : List Int) : Int := if claysOk zs = true then (if ps.length = zs.length ∧ partsIn ps = true then 0 else 2) else 1
def scode (zs : List Clay) (ps : List Int) : Int := if claysOk zs = true then (if ps.length = zs.length ∧ partsIn ps = true then (if sumK ps ps.length = 0 then 6 else 0) else 2) else 1
def lsum (ps : List Int) (m : Nat) : Int := if partsIn ps = true then sumK ps m else -1
theorem lsum_yes {ps : List Int} (m : Nat) (h : partsIn ps = true) : lsum ps m = sumK ps m := if_pos h
theorem lsum_no {ps : List Int} (m : Nat) (h : partsIn ps = false) : lsum ps m = -1 := if_neg (by rw [h]; decide)
set_option maxHeartbeats 1000000 in
theorem impl_partsCode (A B : Option Addr) (n c m d : Nat) (zs : List Clay) (ps : List Int) (w : World) (hn : n ≤ 16777216) (hnc : n ≤ c) (hm : m ≤ 16777216) (hl : zs.length = n) (hl2 : ps.length = m) (ha : Row Clay.enc 5 w A zs) (hb : Row encI 1 w B ps) (hM : Names zs) :
    Calls Tryz.prog 36 #[.slice A n c, .slice B m d] w fun e w' => e = .returned (.int .i64 (pcode zs ps)) ∧ Below w.heap.size w w' := by
  have HA := hide ha
  have HB := hide hb
  have HL := hide hl
  have HL2 := hide hl2
  have HM := hide hM
  clear ha hb hl hl2 hM
  unfold pcode
  by_cases hv : claysOk zs = true
  · rw [if_pos hv]
    by_cases hq : m = n
    · obtain rfl : m = n := hq
      have dq : ((m : Int) != (m : Int)) = false := by simp
      by_cases hp : partsIn ps = true
      · rw [if_pos ⟨by rw [HL.out, HL2.out], hp⟩]
        have hp' : ps.all (inP 0 1000) = true := hp
        go_enter Tryz.func36, Tryz.ntmps36
        go_wp2_with fail
        refine (impl_validClays _ _ _ zs _ hn hnc HL.out HA.out HM.out).mono ?_
        rintro e w1 ⟨rfl, hb1⟩
        rw [hv]
        have HB1 := hide hb1
        clear hb1
        go_wp2_with fail
        refine (impl_outside _ _ _ ps _ _ _ hm HL2.out (HB.out.below HB1.out)).mono ?_
        rintro e w2 ⟨rfl, hb2⟩
        rw [hp']
        have HB2 := hide (HB1.out.trans (hb2.mono HB1.out.size))
        clear hb2
        go_wp2
        go_ret
        exact ⟨rfl, HB2.out⟩
      · rw [if_neg (fun q => hp q.2)]
        have hp' : ps.all (inP 0 1000) = false := by simpa [partsIn] using hp
        clear hp
        go_enter Tryz.func36, Tryz.ntmps36
        go_wp2_with fail
        refine (impl_validClays _ _ _ zs _ hn hnc HL.out HA.out HM.out).mono ?_
        rintro e w1 ⟨rfl, hb1⟩
        rw [hv]
        have HB1 := hide hb1
        clear hb1
        go_wp2_with fail
        refine (impl_outside _ _ _ ps _ _ _ hm HL2.out (HB.out.below HB1.out)).mono ?_
        rintro e w2 ⟨rfl, hb2⟩
        rw [hp']
        have HB2 := hide (HB1.out.trans (hb2.mono HB1.out.size))
        clear hb2
        go_wp2
        go_ret
        exact ⟨rfl, HB2.out⟩
    · rw [if_neg (fun q => hq (by rw [← HL.out, ← HL2.out]; exact q.1))]
      have dq : ((m : Int) != (n : Int)) = true := by simp; omega
      go_enter Tryz.func36, Tryz.ntmps36
      go_wp2_with fail
      refine (impl_validClays _ _ _ zs _ hn hnc HL.out HA.out HM.out).mono ?_
      rintro e w1 ⟨rfl, hb1⟩
      rw [hv]
      have HB1 := hide hb1
      clear hb1
      go_wp2
      go_ret
      exact ⟨rfl, HB1.out⟩
  · rw [if_neg hv]
    have hv' : claysOk zs = false := by simpa using hv
    go_enter Tryz.func36, Tryz.ntmps36
    go_wp2_with fail
    refine (impl_validClays _ _ _ zs _ hn hnc HL.out HA.out HM.out).mono ?_
    rintro e w1 ⟨rfl, hb1⟩
    rw [hv']
    have HB1 := hide hb1
    clear hb1
    go_wp2
    go_ret
    exact ⟨rfl, HB1.out⟩
set_option maxHeartbeats 1000000 in
theorem spec_l03Sum (B : Option Addr) (m d : Nat) (ps : List Int) (w : World) (hm : m ≤ 16777216) (hl2 : ps.length = m) (hb : Row encI 1 w B ps) :
    Calls Tryz.prog 66 #[.slice B m d] w fun e w' => e = .returned (.int .i64 (lsum ps m)) ∧ w = w' := by
  have HB := hide hb
  have HL := hide hl2
  have hnm : m ≤ 9223372036854775807 := by omega
  clear hb hl2
  go_enter Tryz.func66, Tryz.ntmps66
  go_wp2
  go_loop [3, 4] (fun s i => ∃ k : Nat, k ≤ m ∧ i = .int .i64 k ∧ s = .int .i64 (sumK ps k) ∧ 0 ≤ sumK ps k ∧ sumK ps k ≤ 1000 * k ∧ Hid (∀ (j : Nat) (x : Int), j < k → ps[j]? = some x → inP 0 1000 x = true)) (fun _ i => m - (intOf i).toNat)
  case atStart => exact ⟨0, by omega, rfl, rfl, Int.le_refl _, Int.le_refl _, hide (fun j x hj => absurd hj (by omega))⟩
  case round =>
    obtain ⟨k, hk, rfl, rfl, s0, s1, HS⟩ := hrel
    by_cases hlt : k < m
    · obtain ⟨x, hzk⟩ : ∃ z, ps[k]? = some z := ⟨ps[k]'(by have := HL.out; omega), List.getElem?_eq_getElem (by have := HL.out; omega)⟩
      obtain ⟨b, off, rfl, hb, a0⟩ := row_at_1 HB.out hzk rfl
      have HZ := hide hzk
      have HK := hide (show sumK ps (k + 1) = sumK ps k + x from by rw [sumK_succ, getD_is hzk])
      clear hzk
      have hki : (k : Int) < (m : Int) := by omega
      by_cases hx : 0 ≤ x ∧ x ≤ 1000
      · have HS' := hide (all_more HS.out HZ.out (show inP 0 1000 x = true from decide_eq_true hx))
        generalize sumK ps k = S at *
        have hw := Go.IntWalk.i64_in (S + x) ⟨by omega, by omega⟩
        go_wp2_with fail
        refine (spec_in_yes _ _ _ _ hx.1 hx.2).mono ?_
        rintro e w1 ⟨rfl, rfl⟩
        go_wp2
        go_round
        case rel => exact ⟨k + 1, by omega, by go_num, by rw [HK.out], by rw [HK.out]; omega, by rw [HK.out]; omega, HS'⟩
        case measure => simp [intOf]; omega
      · have HN := hide (all_not (f := inP 0 1000) HZ.out (show inP 0 1000 x = false from decide_eq_false hx))
        go_wp2_with fail
        refine (spec_in_no _ _ _ _ hx).mono ?_
        rintro e w1 ⟨rfl, rfl⟩
        go_wp2
        all_goals go_ret
        all_goals exact ⟨by rw [lsum_no _ HN.out]; rfl, rfl⟩
    · obtain rfl : k = m := by omega
      have HN := hide (all_yes (f := inP 0 1000) (zs := ps) (fun j x hx => HS.out j x (by have := (List.getElem?_eq_some_iff.1 hx).1; have := HL.out; omega) hx))
      go_wp2
      go_ret
      exact ⟨by rw [lsum_yes _ HN.out]; rfl, rfl⟩
set_option maxHeartbeats 1000000 in
theorem spec_l03Code (A B : Option Addr) (n c m d : Nat) (zs : List Clay) (ps : List Int) (w : World) (hn : n ≤ 16777216) (hm : m ≤ 16777216) (hl : zs.length = n) (hl2 : ps.length = m) (ha : Row Clay.enc 5 w A zs) (hb : Row encI 1 w B ps) (hM : Names zs) :
    Calls Tryz.prog 38 #[.slice A n c, .slice B m d] w fun e w' => e = .returned (.int .i64 (scode zs ps)) ∧ Below w.heap.size w w' := by
  have HA := hide ha
  have HB := hide hb
  have HL := hide hl
  have HL2 := hide hl2
  have HM := hide hM
  clear ha hb hl hl2 hM
  unfold scode
  by_cases hv : claysOk zs = true
  · rw [if_pos hv]
    by_cases hq : m = n
    · obtain rfl : m = n := hq
      have dq : ((m : Int) != (m : Int)) = false := by simp
      by_cases hp : partsIn ps = true
      · rw [if_pos ⟨by rw [HL.out, HL2.out], hp⟩, HL2.out]
        have hs := sumK_in hp m
        by_cases h0 : sumK ps m = 0
        · have hif : (lsum ps m) = 0 := (lsum_yes m hp).trans h0
          rw [if_pos h0]
          go_enter Tryz.func38, Tryz.ntmps38
          go_wp2_with fail
          refine (spec_l03Ok _ _ _ zs _ hn HL.out HA.out HM.out).mono ?_
          rintro e w1 ⟨rfl, hb1⟩
          rw [hv]
          have HB1 := hide hb1
          clear hb1
          go_wp2_with fail
          refine (spec_l03Sum _ _ _ ps _ hm HL2.out (HB.out.below HB1.out)).mono ?_
          rintro e w2 ⟨rfl, rfl⟩
          rw [hif]
          go_wp2_with fail
          refine (spec_l03Sum _ _ _ ps _ hm HL2.out (HB.out.below HB1.out)).mono ?_
          rintro e w2 ⟨rfl, rfl⟩
          rw [hif]
          go_wp2
          go_ret
          exact ⟨rfl, HB1.out⟩
        · have hif : (lsum ps m) = sumK ps m := lsum_yes m hp
          rw [if_neg h0]
          have e0 : (sumK ps m == 0) = false := by simp [h0]
          have e1 : decide (sumK ps m < 0) = false := by simp; omega
          go_enter Tryz.func38, Tryz.ntmps38
          go_wp2_with fail
          refine (spec_l03Ok _ _ _ zs _ hn HL.out HA.out HM.out).mono ?_
          rintro e w1 ⟨rfl, hb1⟩
          rw [hv]
          have HB1 := hide hb1
          clear hb1
          go_wp2_with fail
          refine (spec_l03Sum _ _ _ ps _ hm HL2.out (HB.out.below HB1.out)).mono ?_
          rintro e w2 ⟨rfl, rfl⟩
          rw [hif]
          go_wp2_with fail
          refine (spec_l03Sum _ _ _ ps _ hm HL2.out (HB.out.below HB1.out)).mono ?_
          rintro e w2 ⟨rfl, rfl⟩
          rw [hif]
          go_wp2
          go_ret
          exact ⟨rfl, HB1.out⟩
      · rw [if_neg (fun q => hp q.2)]
        have hif : (lsum ps m) = -1 := lsum_no _ (by simpa using hp)
        go_enter Tryz.func38, Tryz.ntmps38
        go_wp2_with fail
        refine (spec_l03Ok _ _ _ zs _ hn HL.out HA.out HM.out).mono ?_
        rintro e w1 ⟨rfl, hb1⟩
        rw [hv]
        have HB1 := hide hb1
        clear hb1
        go_wp2_with fail
        refine (spec_l03Sum _ _ _ ps _ hm HL2.out (HB.out.below HB1.out)).mono ?_
        rintro e w2 ⟨rfl, rfl⟩
        rw [hif]
        go_wp2
        go_ret
        exact ⟨rfl, HB1.out⟩
    · rw [if_neg (fun q => hq (by rw [← HL.out, ← HL2.out]; exact q.1))]
      have dq : ((m : Int) != (n : Int)) = true := by simp; omega
      go_enter Tryz.func38, Tryz.ntmps38
      go_wp2_with fail
      refine (spec_l03Ok _ _ _ zs _ hn HL.out HA.out HM.out).mono ?_
      rintro e w1 ⟨rfl, hb1⟩
      rw [hv]
      have HB1 := hide hb1
      clear hb1
      go_wp2
      go_ret
      exact ⟨rfl, HB1.out⟩
  · rw [if_neg hv]
    have hv' : claysOk zs = false := by simpa using hv
    go_enter Tryz.func38, Tryz.ntmps38
    go_wp2_with fail
    refine (spec_l03Ok _ _ _ zs _ hn HL.out HA.out HM.out).mono ?_
    rintro e w1 ⟨rfl, hb1⟩
    rw [hv']
    have HB1 := hide hb1
    clear hb1
    go_wp2
    go_ret
    exact ⟨rfl, HB1.out⟩
set_option maxHeartbeats 1000000 in
theorem impl_sumOf (B : Option Addr) (m d : Nat) (ps : List Int) (w : World) (hm : m ≤ 16777216) (hl2 : ps.length = m) (hb : Row encI 1 w B ps) (hp : partsIn ps = true) :
    Calls Tryz.prog 61 #[.slice B m d] w fun e w' => e = .returned (.int .i64 (sumK ps m)) ∧ w = w' := by
  have HB := hide hb
  have HL := hide hl2
  have hnm : m ≤ 9223372036854775807 := by omega
  clear hb hl2
  go_enter Tryz.func61, Tryz.ntmps61
  go_wp2
  go_loop [3, 8] (fun s i => ∃ k : Nat, k ≤ m ∧ i = .int .i64 k ∧ s = .int .i64 (sumK ps k)) (fun _ i => m - (intOf i).toNat)
  case atStart => exact ⟨0, by omega, rfl, rfl⟩
  case round =>
    obtain ⟨k, hk, rfl, rfl⟩ := hrel
    by_cases hlt : k < m
    · obtain ⟨x, hzk⟩ : ∃ z, ps[k]? = some z := ⟨ps[k]'(by have := HL.out; omega), List.getElem?_eq_getElem (by have := HL.out; omega)⟩
      obtain ⟨b, off, rfl, hb, a0⟩ := row_at_1 HB.out hzk rfl
      have HK := hide (show sumK ps (k + 1) = sumK ps k + x from by rw [sumK_succ, getD_is hzk])
      have hs := sumK_in hp k
      have hx := part_in hp k
      rw [getD_is hzk] at hx
      clear hzk
      have hki : (k : Int) < (m : Int) := by omega
      generalize sumK ps k = S at *
      have hw := Go.IntWalk.i64_in (S + x) ⟨by omega, by omega⟩
      go_wp2
      go_round
      case rel => exact ⟨k + 1, by omega, by go_num, by rw [HK.out]⟩
      case measure => simp [intOf]; omega
    · obtain rfl : k = m := by omega
      go_wp2
      go_ret
      exact ⟨rfl, rfl⟩
end Go.Proofs.YtfjdhjbfingofaaGreatDoor
