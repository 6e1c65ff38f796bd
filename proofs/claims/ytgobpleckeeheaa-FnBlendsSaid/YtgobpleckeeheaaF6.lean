/-
  What is proved: contracts of the laws' own helps f6big, f6ints and f6sum. Conditions: lengths and sums as named in each.
-/
import Derived.Test.YtgobpleckeeheaaIntS
namespace Go.Proofs.Ytgobpleckeeheaa
open Go.RowKit
set_option linter.unusedVariables false

theorem f6big_no (w : World) (A : Option Addr) (n c : Nat) (h1 : n ≤ 4096) :
    Calls Try.prog 5 #[.slice A n c] w fun e w' => e = .returned (.bool false) ∧ w = w' := by
  have d1 : decide (4096 < (n : Int)) = false := by simp; omega
  clear h1
  go_enter Try.func5, Try.ntmps5
  go_wp2
  go_ret
  exact ⟨rfl, rfl⟩
theorem f6big_yes (w : World) (A : Option Addr) (n c : Nat) (h1 : 4096 < n) :
    Calls Try.prog 5 #[.slice A n c] w fun e w' => e = .returned (.bool true) ∧ w = w' := by
  have d1 : decide (4096 < (n : Int)) = true := by simp; omega
  clear h1
  go_enter Try.func5, Try.ntmps5
  go_wp2
  go_ret
  exact ⟨rfl, rfl⟩
set_option maxHeartbeats 1000000 in
theorem f6ints_same (A B : Option Addr) (n c d : Nat) (zs : List Int) (w : World) (hn : n ≤ 16777216) (hl : zs.length = n) (ha : Row encI 1 w A zs) (hb : Row encI 1 w B zs) :
    Calls Try.prog 17 #[.slice A n c, .slice B n d] w fun e w' => e = .returned (.bool true) ∧ ∃ q, w' = w.drewN q := by
  have HA := hide ha
  have HB := hide hb
  have HL := hide hl
  have hnm : n ≤ 9223372036854775807 := by omega
  clear ha hb hl
  go_enter Try.func17, Try.ntmps17
  go_wp2
  go_loopw [5] (fun i wr => ∃ k : Nat, k ≤ n ∧ i = .int .i64 k ∧ ∃ q, wr = w.drewN q) (fun i _ => n - (intOf i).toNat)
  case atStart => exact ⟨0, by omega, rfl, 0, rfl⟩
  case round =>
    obtain ⟨k, hk, rfl, q, rfl⟩ := hrel
    by_cases hlt : k < n
    · obtain ⟨x, hzk⟩ : ∃ z, zs[k]? = some z := ⟨zs[k]'(by have := HL.out; omega), List.getElem?_eq_getElem (by have := HL.out; omega)⟩
      obtain ⟨ba, offa, rfl, hba, a0⟩ := row_at_1 HA.out hzk rfl
      obtain ⟨bb, offb, rfl, hbb, b0⟩ := row_at_1 HB.out hzk rfl
      clear hzk
      have hki : (k : Int) < (n : Int) := by omega
      go_wp2
      go_quiet (fail)
      go_wp2
      go_roundw
      case rel => exact ⟨k + 1, by omega, by go_num, _, rfl⟩
      case measure => simp [intOf]; omega
    · go_wp2
      go_ret
      exact ⟨rfl, _, rfl⟩
/-- The sum of the first k numbers. -/
def sumT (ps : List Int) : Nat → Int
  | 0 => 0
  | k + 1 => sumT ps k + ps.getD k 0
theorem sumT_step {ps : List Int} {k : Nat} {x : Int} (h : ps[k]? = some x) : sumT ps (k + 1) = sumT ps k + x := by
  show sumT ps k + ps.getD k 0 = _
  rw [List.getD_eq_getElem?_getD, h]
  rfl
set_option maxHeartbeats 1000000 in
theorem f6sum_is (A : Option Addr) (n c : Nat) (zs : List Int) (w : World) (hn : n ≤ 16777216) (hl : zs.length = n) (ha : Row encI 1 w A zs) (hb : ∀ k, k ≤ n → -9000000000000000000 ≤ sumT zs k ∧ sumT zs k ≤ 9000000000000000000) :
    Calls Try.prog 19 #[.slice A n c] w fun e w' => e = .returned (.int .i64 (sumT zs n)) ∧ Below w.heap.size w w' := by
  have HA := hide ha
  have HL := hide hl
  have HB := hide hb
  have hnm : n ≤ 9223372036854775807 := by omega
  clear ha hl hb
  go_enter Try.func19, Try.ntmps19
  go_wp2
  go_loopw [3, 4] (fun s i wr => ∃ k : Nat, k ≤ n ∧ i = .int .i64 k ∧ s = .int .i64 (sumT zs k) ∧ Hid (Below w.heap.size w wr)) (fun _ i _ => n - (intOf i).toNat)
  case atStart => exact ⟨0, by omega, rfl, rfl, hide (Below.refl _ _)⟩
  case round =>
    obtain ⟨k, hk, rfl, rfl, HW⟩ := hrel
    by_cases hlt : k < n
    · obtain ⟨x, hzk⟩ : ∃ z, zs[k]? = some z := ⟨zs[k]'(by have := HL.out; omega), List.getElem?_eq_getElem (by have := HL.out; omega)⟩
      obtain ⟨ba, offa, rfl, hba, a0⟩ := row_at_1 (HA.out.below HW.out) hzk rfl
      have h1 := HB.out (k + 1) (by omega)
      rw [sumT_step hzk] at h1
      have HQ := hide (sumT_step hzk)
      clear hzk
      have hki : (k : Int) < (n : Int) := by omega
      obtain ⟨S, hS⟩ : ∃ S, sumT zs k = S := ⟨_, rfl⟩
      rw [hS] at h1 HQ
      rw [hS]
      clear hS
      have v1 := Go.IntWalk.i64_in (S + x) ⟨by omega, by omega⟩
      go_wp2
      go_roundw
      case rel => exact ⟨k + 1, by omega, by go_num, by rw [HQ.out], HW⟩
      case measure => simp [intOf]; omega
    · obtain rfl : k = n := by omega
      go_wp2
      go_ret
      exact ⟨rfl, HW.out⟩
end Go.Proofs.Ytgobpleckeeheaa
