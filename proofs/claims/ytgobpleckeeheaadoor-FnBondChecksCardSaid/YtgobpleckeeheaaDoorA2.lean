/-
  What is proved: contracts of A2Format, a2At and a2Long. Conditions: as named in each.
-/
import Derived.Test.YtgobpleckeeheaaDoorDrawF
namespace Go.Proofs.YtgobpleckeeheaaDoor
open Go.RowKit
set_option linter.unusedVariables false


theorem a2Long_no (w : World) (A B : Option Addr) (n c m d : Nat) (h1 : n ≤ 3000) (h2 : m ≤ 3000) :
    Calls Tryd.prog 4 #[.slice A n c, .slice B m d] w fun e w' => e = .returned (.bool false) ∧ w = w' := by
  have d1 : decide (3000 < (n : Int)) = false := by simp; omega
  have d2 : decide (3000 < (m : Int)) = false := by simp; omega
  clear h1 h2
  go_enter Tryd.func4, Tryd.ntmps4
  go_wp2
  go_ret
  exact ⟨rfl, rfl⟩
theorem a2Long_yes (w : World) (A B : Option Addr) (n c m d : Nat) (h1 : 3000 < n) :
    Calls Tryd.prog 4 #[.slice A n c, .slice B m d] w fun e w' => e = .returned (.bool true) ∧ w = w' := by
  have d1 : decide (3000 < (n : Int)) = true := by simp; omega
  clear h1
  go_enter Tryd.func4, Tryd.ntmps4
  go_wp2
  go_ret
  exact ⟨rfl, rfl⟩

/-- A number from 0 to m - 1. -/
def AtMost (m : Int) (w : World) (e : Ending) (w' : World) : Prop := ∃ v : Int, 0 ≤ v ∧ v < m ∧ e = .returned (.int .i64 v) ∧ w = w'
set_option maxHeartbeats 400000 in
theorem a2At_any (w : World) (A : Option Addr) (n c : Nat) (z : List Int) (i : Nat) (m : Int) (hm : 1 ≤ m) (hm2 : m ≤ 65536) (hi : i < 65536) (ha : ArgInts .u8 w A n c z) :
    Calls Tryd.prog 6 #[.slice A n c, .int .i64 (i : Int), .int .i64 m] w (AtMost m w) := by
  obtain ⟨hz, hnc, hcm, hwz, hat⟩ := ha
  unfold maxLen at hcm
  have d2 : decide (m < 1) = false := by simp; omega
  have gz : (m == 0) = false := by simp; omega
  by_cases hlt : i < n
  · obtain ⟨cb, off, rfl, hcb, hcell⟩ := hat (by omega)
    have hck := hcell i hlt
    have hb := bounds_u8 (hwz (z.getD i 0) (by
      rw [List.getD, List.getElem?_eq_getElem (by omega)]
      exact List.getElem_mem _))
    generalize z.getD i 0 = x at *
    have d1 : decide ((n : Int) ≤ (i : Int)) = false := by simp; omega
    have q0 : 0 ≤ x % m := Int.emod_nonneg _ (by omega)
    have q1 : x % m < m := Int.emod_lt_of_pos _ (by omega)
    have hki : (i : Int) < (n : Int) := by omega
    clear hcell hwz hz hat
    go_enter Tryd.func6, Tryd.ntmps6
    go_wp2
    go_ret
    exact ⟨_, q0, q1, rfl, rfl⟩
  · have d1 : decide ((n : Int) ≤ (i : Int)) = true := by simp; omega
    clear hwz hz hat
    go_enter Tryd.func6, Tryd.ntmps6
    go_wp2
    go_ret
    exact ⟨0, by omega, by omega, rfl, rfl⟩
theorem a2At_int (w : World) (A : Option Addr) (n c : Nat) (z : List Int) (i m : Int) (hm : 1 ≤ m) (hm2 : m ≤ 65536) (h0 : 0 ≤ i) (hi : i < 65536) (ha : ArgInts .u8 w A n c z) :
    Calls Tryd.prog 6 #[.slice A n c, .int .i64 i, .int .i64 m] w (AtMost m w) := by
  obtain ⟨k, rfl⟩ := Int.eq_ofNat_of_zero_le h0
  exact a2At_any w A n c z k m hm hm2 (by omega) ha
end Go.Proofs.YtgobpleckeeheaaDoor
