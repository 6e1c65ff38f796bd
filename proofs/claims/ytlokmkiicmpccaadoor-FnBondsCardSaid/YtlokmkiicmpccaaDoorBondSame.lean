/-
  What is proved: two bonds are the same, of the program and of the reference. Conditions: lengths that fit.
-/
import Derived.Test.YtlokmkiicmpccaaDoorBond
namespace Go.Proofs.YtlokmkiicmpccaaDoor
open Go.RowKit
set_option linter.unusedVariables false

def bondSame (s t : ByteArray) (xs ys : List Course) : Bool := s.toList == t.toList && sameL Course.same xs ys
set_option maxRecDepth 100000 in
set_option maxHeartbeats 1000000 in
theorem spec_sameBond (s t : ByteArray) (A B : Option Addr) (n c m d : Nat) (xs ys : List Course) (w : World) (hn : n ≤ 16777216) (hm : m ≤ 16777216) (hl : xs.length = n) (hl2 : ys.length = m) (ha : Row Course.enc 2 w A xs) (hb : Row Course.enc 2 w B ys) :
    Calls Tryd.prog 29 #[.agg #[.string s, .slice A n c], .agg #[.string t, .slice B m d]] w fun e w' => e = .returned (.bool (bondSame s t xs ys)) ∧ Below w.heap.size w w' := by
  have HA := hide ha
  have HB := hide hb
  have HL := hide hl
  have HL2 := hide hl2
  have hnm : n ≤ 9223372036854775807 := by omega
  have hnm2 : m ≤ 9223372036854775807 := by omega
  clear ha hb hl hl2
  have HB0 := hide (((Below.refl w.heap.size w).alloc (Nat.le_refl _) (.cells #[.string s, .slice A n c] 29)).alloc (by simp) (.cells #[.string t, .slice B m d] 29))
  unfold bondSame
  by_cases hs : (s.toList == t.toList) = true
  case neg =>
    have hs' : (s.toList == t.toList) = false := by simpa using hs
    rw [hs', Bool.false_and]
    clear hs
    go_enter Tryd.func29, Tryd.ntmps29
    go_wp2
    go_ret
    exact ⟨rfl, HB0.out⟩
  rw [hs, Bool.true_and]
  by_cases hnm' : n = m
  case neg =>
    have d1 : ((n : Int) != (m : Int)) = true := by simp; omega
    have HSS := hide (sameL_len (f := Course.same) (xs := xs) (ys := ys) (by rw [HL.out, HL2.out]; exact hnm'))
    clear hnm'
    go_enter Tryd.func29, Tryd.ntmps29
    go_wp2
    go_ret
    exact ⟨by rw [HSS.out]; rfl, HB0.out⟩
  obtain rfl : n = m := hnm'
  have d1 : ((n : Int) != (n : Int)) = false := by simp
  go_enter Tryd.func29, Tryd.ntmps29
  go_wp2
  go_loopw [5] (fun i wr => ∃ k : Nat, k ≤ n ∧ i = .int .i64 k ∧ Hid (∀ j x y, j < k → xs[j]? = some x → ys[j]? = some y → Course.same x y = true) ∧ ∃ q, wr = ((w.alloc (.cells #[.string s, .slice A n c] 29)).alloc (.cells #[.string t, .slice B n d] 29)).drewN q) (fun i _ => n - (intOf i).toNat)
  case atStart => exact ⟨0, by omega, rfl, hide (fun j x y hj => absurd hj (by omega)), 0, rfl⟩
  case round =>
    obtain ⟨k, hk, rfl, HS, q, rfl⟩ := hrel
    by_cases hlt : k < n
    · obtain ⟨⟨x0, x1⟩, hxk⟩ : ∃ z, xs[k]? = some z := ⟨xs[k]'(by have := HL.out; omega), List.getElem?_eq_getElem (by have := HL.out; omega)⟩
      obtain ⟨⟨y0, y1⟩, hyk⟩ : ∃ z, ys[k]? = some z := ⟨ys[k]'(by have := HL2.out; omega), List.getElem?_eq_getElem (by have := HL2.out; omega)⟩
      obtain ⟨ba, offa, rfl, hba, a0, a1⟩ := row_at_2 (HA.out.below HB0.out) hxk rfl
      obtain ⟨bb, offb, rfl, hbb, b0, b1⟩ := row_at_2 (HB.out.below HB0.out) hyk rfl
      have HX := hide hxk
      have HY := hide hyk
      clear hxk hyk
      have hki : (k : Int) < (n : Int) := by omega
      have hg := guardCourse
      have hq := neqCourse x0 y0 x1 y1
      by_cases hc : Course.same ⟨x0, x1⟩ ⟨y0, y1⟩ = true
      · have HSS := hide hc
        go_wp2
        go_quiet (fail)
        go_wp2
        go_roundw
        case rel => exact ⟨k + 1, by omega, by go_num, hide (same_more HS.out HX.out HY.out HSS.out), _, rfl⟩
        case measure => simp [intOf]; omega
      · have hc' : Course.same ⟨x0, x1⟩ ⟨y0, y1⟩ = false := by simpa using hc
        have HSS := hide (sameL_not (f := Course.same) HX.out HY.out hc')
        clear hc
        go_wp2
        go_quiet (fail)
        go_wp2
        go_ret
        exact ⟨by rw [HSS.out]; rfl, below_drewN (below_drewN HB0.out _) _⟩
    · have HSS := hide (sameL_all (f := Course.same) (by rw [HL.out, HL2.out]) (fun j x y hx hy => HS.out j x y (by have := (List.getElem?_eq_some_iff.1 hx).1; have := HL.out; omega) hx hy))
      go_wp2
      go_ret
      exact ⟨by rw [HSS.out]; rfl, below_drewN HB0.out _⟩
end Go.Proofs.YtlokmkiicmpccaaDoor
