/-
  What is proved: the program's IsName and the reference's IsName say of every string the same: whether it is a name. Condition: the string's length fits.
-/
import Derived.Test.YtgobpleckeeheaaProg
import Derived.Test.YtgobpleckeeheaaPlain
import Derived.Handy
import Derived.PlainAid
import Derived.Lib.Hide
import Derived.BigQuiet
import Derived.Deep.QuietTactic
namespace Go.Proofs.Ytgobpleckeeheaa
open Go.RowKit Go.PlainAid
set_option linter.unusedVariables false

def nmCh (c : Int) : Bool := decide ((97 ≤ c ∧ c ≤ 122) ∨ (48 ≤ c ∧ c ≤ 57) ∨ c = 45)
def nameB (s : ByteArray) : Bool := decide (1 ≤ s.size ∧ s.size ≤ 12 ∧ 97 ≤ bt s 0 ∧ bt s 0 ≤ 122 ∧ ∀ j, j < s.size → nmCh (bt s j) = true)

theorem name_more {s : ByteArray} {k : Nat} (h : ∀ j, j < k → nmCh (bt s j) = true) (hk : nmCh (bt s k) = true) : ∀ j, j < k + 1 → nmCh (bt s j) = true := by
  intro j hj
  by_cases e : j = k
  · rw [e]; exact hk
  · exact h j (by omega)
theorem name_not {s : ByteArray} {k : Nat} (hs : k < s.size) (hk : ¬ ((97 ≤ bt s k ∧ bt s k ≤ 122) ∨ (48 ≤ bt s k ∧ bt s k ≤ 57) ∨ bt s k = 45)) : false = nameB s := by
  refine (decide_eq_false ?_).symm
  rintro ⟨_, _, _, _, h⟩
  exact hk (of_decide_eq_true (h k hs))
theorem name_yes {s : ByteArray} {k : Nat} (h : ∀ j, j < k → nmCh (bt s j) = true) (hk : s.size ≤ k) (h1 : 1 ≤ s.size) (h2 : s.size ≤ 12) (h3 : 97 ≤ bt s 0) (h4 : bt s 0 ≤ 122) : true = nameB s :=
  (decide_eq_true ⟨h1, h2, h3, h4, fun j hj => h j (by omega)⟩).symm

set_option maxHeartbeats 1000000 in
theorem impl_isName (s : ByteArray) (w : World) (hs : s.size ≤ maxLen) :
    Calls Try.prog 104 #[.string s] w fun e w' => e = .returned (.bool (nameB s)) ∧ w = w' := by
  unfold maxLen at hs
  by_cases h0 : s.size < 1
  · have d1 : decide ((s.size : Int) < 1) = true := by simp; omega
    have en : nameB s = false := decide_eq_false (by omega)
    rw [en]
    clear en
    go_enter Try.func104, Try.ntmps104
    go_wp2
    go_ret
    exact ⟨rfl, rfl⟩
  by_cases h12 : 12 < s.size
  · have d1 : decide ((s.size : Int) < 1) = false := by simp; omega
    have d2 : decide (12 < (s.size : Int)) = true := by simp; omega
    have en : nameB s = false := decide_eq_false (by omega)
    rw [en]
    clear en
    go_enter Try.func104, Try.ntmps104
    go_wp2
    go_ret
    exact ⟨rfl, rfl⟩
  have d1 : decide ((s.size : Int) < 1) = false := by simp; omega
  have d2 : decide (12 < (s.size : Int)) = false := by simp; omega
  have hp : 0 < s.size := by omega
  have hb := get_bt s
  by_cases c1 : bt s 0 < 97
  · have e1 : decide (bt s 0 < 97) = true := by simpa using c1
    have en : nameB s = false := decide_eq_false (by omega)
    rw [en]
    clear en c1
    go_enter Try.func104, Try.ntmps104
    go_wp2
    go_ret
    exact ⟨rfl, rfl⟩
  by_cases c2 : 122 < bt s 0
  · have e1 : decide (bt s 0 < 97) = false := by simpa using c1
    have e2 : decide (122 < bt s 0) = true := by simpa using c2
    have en : nameB s = false := decide_eq_false (by omega)
    rw [en]
    clear en c1 c2
    go_enter Try.func104, Try.ntmps104
    go_wp2
    go_ret
    exact ⟨rfl, rfl⟩
  have e1 : decide (bt s 0 < 97) = false := by simpa using c1
  have e2 : decide (122 < bt s 0) = false := by simpa using c2
  have h1 : 97 ≤ bt s 0 := by omega
  have h2 : bt s 0 ≤ 122 := by omega
  have h3 : s.size ≤ 12 := by omega
  clear c1 c2 h0 h12
  go_enter Try.func104, Try.ntmps104
  go_wp2
  go_loop [3] (fun i => ∃ k : Nat, 1 ≤ k ∧ k ≤ s.size ∧ i = .int .i64 k ∧ Hid (∀ j, j < k → nmCh (bt s j) = true)) (fun i => s.size - (intOf i).toNat)
  case atStart => exact ⟨1, by omega, by omega, rfl, hide (fun j hj => decide_eq_true (by rw [show j = 0 from by omega]; omega))⟩
  case round =>
    obtain ⟨k, hk1, hk, rfl, hall⟩ := hrel
    by_cases hlt : k < s.size
    · -- the byte's class
      by_cases hA : 97 ≤ bt s k ∧ bt s k ≤ 122
      · have f0 : decide (bt s k < 97) = false := by simp; omega
        have f1 : decide (122 < bt s k) = false := by simp; omega
        have hn : nmCh (bt s k) = true := decide_eq_true (by omega)
        have Hn := hide hn
        clear hn hA
        go_wp2
        go_round
        case rel => exact ⟨k + 1, by omega, by omega, by go_num, hide (name_more hall.out Hn.out)⟩
        case measure => simp [intOf]; omega
      by_cases hB : 48 ≤ bt s k ∧ bt s k ≤ 57
      · have f0 : decide (bt s k < 97) = true := by simp; omega
        have f1 : decide (bt s k < 48) = false := by simp; omega
        have f2 : decide (57 < bt s k) = false := by simp; omega
        have hn : nmCh (bt s k) = true := decide_eq_true (by omega)
        have Hn := hide hn
        clear hn hA hB
        go_wp2
        go_round
        case rel => exact ⟨k + 1, by omega, by omega, by go_num, hide (name_more hall.out Hn.out)⟩
        case measure => simp [intOf]; omega
      by_cases hC : bt s k = 45
      · have f0 : decide (bt s k < 97) = true := by simp; omega
        have f1 : decide (bt s k < 48) = true := by simp; omega
        have fd : (bt s k != 45) = false := by simp; omega
        have hn : nmCh (bt s k) = true := decide_eq_true (by omega)
        have Hn := hide hn
        clear hn hA hB hC
        go_wp2
        go_round
        case rel => exact ⟨k + 1, by omega, by omega, by go_num, hide (name_more hall.out Hn.out)⟩
        case measure => simp [intOf]; omega
      by_cases hD : bt s k < 48
      · have f0 : decide (bt s k < 97) = true := by simp; omega
        have f1 : decide (bt s k < 48) = true := by simp; omega
        have fd : (bt s k != 45) = true := by simp; omega
        have hn : ¬ ((97 ≤ bt s k ∧ bt s k ≤ 122) ∨ (48 ≤ bt s k ∧ bt s k ≤ 57) ∨ bt s k = 45) := by omega
        have Hn := hide hn
        clear hn hA hB hC hD
        go_wp2
        go_ret
        exact ⟨ret_bool (name_not hlt Hn.out), rfl⟩
      by_cases hE : bt s k < 97
      · have f0 : decide (bt s k < 97) = true := by simp; omega
        have f1 : decide (bt s k < 48) = false := by simp; omega
        have f2 : decide (57 < bt s k) = true := by simp; omega
        have fd : (bt s k != 45) = true := by simp; omega
        have hn : ¬ ((97 ≤ bt s k ∧ bt s k ≤ 122) ∨ (48 ≤ bt s k ∧ bt s k ≤ 57) ∨ bt s k = 45) := by omega
        have Hn := hide hn
        clear hn hA hB hC hD hE
        go_wp2
        go_ret
        exact ⟨ret_bool (name_not hlt Hn.out), rfl⟩
      have f0 : decide (bt s k < 97) = false := by simp; omega
      have f1 : decide (122 < bt s k) = true := by simp; omega
      have f2 : decide (bt s k < 48) = false := by simp; omega
      have f3 : decide (57 < bt s k) = true := by simp; omega
      have fd : (bt s k != 45) = true := by simp; omega
      have hn : ¬ ((97 ≤ bt s k ∧ bt s k ≤ 122) ∨ (48 ≤ bt s k ∧ bt s k ≤ 57) ∨ bt s k = 45) := by omega
      have Hn := hide hn
      clear hn hA hB hC hD hE
      go_wp2
      go_ret
      exact ⟨ret_bool (name_not hlt Hn.out), rfl⟩
    · go_wp2
      go_ret
      exact ⟨ret_bool (name_yes hall.out (by omega) (by omega) h3 h1 h2), rfl⟩

theorem spec_l01Small (c : Int) (w : World) (h1 : 0 ≤ c) (h2 : c ≤ 255) : Calls Try.prog 120 #[.int .u8 c] w fun e w' => e = .returned (.bool (decide (97 ≤ c ∧ c ≤ 122))) ∧ w = w' := by
  by_cases c1 : 97 ≤ c
  · have d1 : decide (97 ≤ c) = true := by simpa using c1
    go_enter Try.func120, Try.ntmps120
    go_wp2
    go_ret
    exact ⟨ret_bool (decide_eq_decide.2 (by omega)), rfl⟩
  · have d1 : decide (97 ≤ c) = false := by simpa using c1
    have d2 : decide (97 ≤ c ∧ c ≤ 122) = false := by simp; omega
    rw [d2]
    go_enter Try.func120, Try.ntmps120
    go_wp2
    go_ret
    exact ⟨rfl, rfl⟩

theorem spec_l01Digit (c : Int) (w : World) (h1 : 0 ≤ c) (h2 : c ≤ 255) : Calls Try.prog 121 #[.int .u8 c] w fun e w' => e = .returned (.bool (decide (48 ≤ c ∧ c ≤ 57))) ∧ w = w' := by
  by_cases c1 : 48 ≤ c
  · have d1 : decide (48 ≤ c) = true := by simpa using c1
    go_enter Try.func121, Try.ntmps121
    go_wp2
    go_ret
    exact ⟨ret_bool (decide_eq_decide.2 (by omega)), rfl⟩
  · have d1 : decide (48 ≤ c) = false := by simpa using c1
    have d2 : decide (48 ≤ c ∧ c ≤ 57) = false := by simp; omega
    rw [d2]
    go_enter Try.func121, Try.ntmps121
    go_wp2
    go_ret
    exact ⟨rfl, rfl⟩

set_option maxHeartbeats 1000000 in
theorem spec_isName (s : ByteArray) (w : World) (hs : s.size ≤ maxLen) :
    Calls Try.prog 105 #[.string s] w fun e w' => e = .returned (.bool (nameB s)) ∧ w = w' := by
  unfold maxLen at hs
  by_cases h0 : s.size < 1
  · have en : nameB s = false := decide_eq_false (by omega)
    rw [en]
    clear en
    have hem : s = ByteArray.empty := by
      apply ByteArray.ext
      apply Array.eq_empty_of_size_eq_zero
      exact (by omega : s.size = 0)
    subst hem
    clear hs h0
    go_enter Try.func105, Try.ntmps105
    go_wp2
    go_ret
    exact ⟨rfl, rfl⟩
  have em : s.toList.isEmpty = false := by
    rw [← decide_eq_emptyBytes]
    refine decide_eq_false ?_
    intro h
    rw [h] at h0
    exact h0 (by decide)
  have em2 : (!s.toList.isEmpty) = true := by rw [em]; rfl
  by_cases h12 : 12 < s.size
  · have d2 : decide (12 < (s.size : Int)) = true := by simp; omega
    have en : nameB s = false := decide_eq_false (by omega)
    rw [en]
    clear en
    go_enter Try.func105, Try.ntmps105
    go_wp2
    go_ret
    exact ⟨rfl, rfl⟩
  have d2 : decide (12 < (s.size : Int)) = false := by simp; omega
  have hp : 0 < s.size := by omega
  have hb := get_bt s
  have c0 := bt_nonneg s 0
  have c9 := bt_le s 0
  by_cases c1 : 97 ≤ bt s 0 ∧ bt s 0 ≤ 122
  · have e1 : decide (97 ≤ bt s 0 ∧ bt s 0 ≤ 122) = true := by simp; omega
    obtain ⟨h1, h2⟩ := c1
    have h3 : s.size ≤ 12 := by omega
    clear h0 h12
    go_enter Try.func105, Try.ntmps105
    go_wp2_with fail
    refine (spec_l01Small _ _ (by omega) (by omega)).mono ?_
    rintro e w1 ⟨rfl, rfl⟩
    go_wp2_with fail
    go_loop [3] (fun i => ∃ k : Nat, k ≤ s.size ∧ i = .int .i64 k ∧ Hid (∀ j, j < k → nmCh (bt s j) = true)) (fun i => s.size - (intOf i).toNat)
    case atStart => exact ⟨0, by omega, rfl, hide (fun j hj => absurd hj (by omega))⟩
    case round =>
      obtain ⟨k, hk, rfl, hall⟩ := hrel
      clear c0 c9
      by_cases hlt : k < s.size
      · -- the byte's class
        by_cases hA : 97 ≤ bt s k ∧ bt s k ≤ 122
        · have f1 : decide (97 ≤ bt s k ∧ bt s k ≤ 122) = true := by simp; omega
          have hn : nmCh (bt s k) = true := decide_eq_true (by omega)
          have Hn := hide hn
          clear hn hA
          have c0 := bt_nonneg s k
          have c1 := bt_le s k
          go_wp2_with fail
          refine (spec_l01Small _ _ (by omega) (by omega)).mono ?_
          rintro e w1 ⟨rfl, rfl⟩
          go_wp2
          go_round
          case rel => exact ⟨k + 1, by omega, by go_num, hide (name_more hall.out Hn.out)⟩
          case measure => simp [intOf]; omega
        by_cases hB : 48 ≤ bt s k ∧ bt s k ≤ 57
        · have f1 : decide (97 ≤ bt s k ∧ bt s k ≤ 122) = false := by simp; omega
          have f2 : decide (48 ≤ bt s k ∧ bt s k ≤ 57) = true := by simp; omega
          have hn : nmCh (bt s k) = true := decide_eq_true (by omega)
          have Hn := hide hn
          clear hn hA hB
          have c0 := bt_nonneg s k
          have c1 := bt_le s k
          go_wp2_with fail
          refine (spec_l01Small _ _ (by omega) (by omega)).mono ?_
          rintro e w1 ⟨rfl, rfl⟩
          go_wp2_with fail
          refine (spec_l01Digit _ _ (by omega) (by omega)).mono ?_
          rintro e w1 ⟨rfl, rfl⟩
          go_wp2
          go_round
          case rel => exact ⟨k + 1, by omega, by go_num, hide (name_more hall.out Hn.out)⟩
          case measure => simp [intOf]; omega
        by_cases hC : bt s k = 45
        · have f1 : decide (97 ≤ bt s k ∧ bt s k ≤ 122) = false := by simp; omega
          have f2 : decide (48 ≤ bt s k ∧ bt s k ≤ 57) = false := by simp; omega
          have fd : (bt s k != 45) = false := by simp; omega
          have hn : nmCh (bt s k) = true := decide_eq_true (by omega)
          have Hn := hide hn
          clear hn hA hB hC
          have c0 := bt_nonneg s k
          have c1 := bt_le s k
          go_wp2_with fail
          refine (spec_l01Small _ _ (by omega) (by omega)).mono ?_
          rintro e w1 ⟨rfl, rfl⟩
          go_wp2_with fail
          refine (spec_l01Digit _ _ (by omega) (by omega)).mono ?_
          rintro e w1 ⟨rfl, rfl⟩
          go_wp2
          go_round
          case rel => exact ⟨k + 1, by omega, by go_num, hide (name_more hall.out Hn.out)⟩
          case measure => simp [intOf]; omega
        by_cases hD : bt s k < 48
        · have f1 : decide (97 ≤ bt s k ∧ bt s k ≤ 122) = false := by simp; omega
          have f2 : decide (48 ≤ bt s k ∧ bt s k ≤ 57) = false := by simp; omega
          have fd : (bt s k != 45) = true := by simp; omega
          have hn : ¬ ((97 ≤ bt s k ∧ bt s k ≤ 122) ∨ (48 ≤ bt s k ∧ bt s k ≤ 57) ∨ bt s k = 45) := by omega
          have Hn := hide hn
          clear hn hA hB hC hD
          have c0 := bt_nonneg s k
          have c1 := bt_le s k
          go_wp2_with fail
          refine (spec_l01Small _ _ (by omega) (by omega)).mono ?_
          rintro e w1 ⟨rfl, rfl⟩
          go_wp2_with fail
          refine (spec_l01Digit _ _ (by omega) (by omega)).mono ?_
          rintro e w1 ⟨rfl, rfl⟩
          go_wp2
          go_ret
          exact ⟨ret_bool (name_not hlt Hn.out), rfl⟩
        by_cases hE : bt s k < 97
        · have f1 : decide (97 ≤ bt s k ∧ bt s k ≤ 122) = false := by simp; omega
          have f2 : decide (48 ≤ bt s k ∧ bt s k ≤ 57) = false := by simp; omega
          have fd : (bt s k != 45) = true := by simp; omega
          have hn : ¬ ((97 ≤ bt s k ∧ bt s k ≤ 122) ∨ (48 ≤ bt s k ∧ bt s k ≤ 57) ∨ bt s k = 45) := by omega
          have Hn := hide hn
          clear hn hA hB hC hD hE
          have c0 := bt_nonneg s k
          have c1 := bt_le s k
          go_wp2_with fail
          refine (spec_l01Small _ _ (by omega) (by omega)).mono ?_
          rintro e w1 ⟨rfl, rfl⟩
          go_wp2_with fail
          refine (spec_l01Digit _ _ (by omega) (by omega)).mono ?_
          rintro e w1 ⟨rfl, rfl⟩
          go_wp2
          go_ret
          exact ⟨ret_bool (name_not hlt Hn.out), rfl⟩
        have f1 : decide (97 ≤ bt s k ∧ bt s k ≤ 122) = false := by simp; omega
        have f2 : decide (48 ≤ bt s k ∧ bt s k ≤ 57) = false := by simp; omega
        have fd : (bt s k != 45) = true := by simp; omega
        have hn : ¬ ((97 ≤ bt s k ∧ bt s k ≤ 122) ∨ (48 ≤ bt s k ∧ bt s k ≤ 57) ∨ bt s k = 45) := by omega
        have Hn := hide hn
        clear hn hA hB hC hD hE
        have c0 := bt_nonneg s k
        have c1 := bt_le s k
        go_wp2_with fail
        refine (spec_l01Small _ _ (by omega) (by omega)).mono ?_
        rintro e w1 ⟨rfl, rfl⟩
        go_wp2_with fail
        refine (spec_l01Digit _ _ (by omega) (by omega)).mono ?_
        rintro e w1 ⟨rfl, rfl⟩
        go_wp2
        go_ret
        exact ⟨ret_bool (name_not hlt Hn.out), rfl⟩
      · go_wp2
        go_ret
        exact ⟨ret_bool (name_yes hall.out (by omega) (by omega) h3 h1 h2), rfl⟩
  · have e1 : decide (97 ≤ bt s 0 ∧ bt s 0 ≤ 122) = false := by simp; omega
    have en : nameB s = false := decide_eq_false (by omega)
    rw [en]
    clear en
    go_enter Try.func105, Try.ntmps105
    go_wp2_with fail
    refine (spec_l01Small _ _ (by omega) (by omega)).mono ?_
    rintro e w1 ⟨rfl, rfl⟩
    go_wp2
    go_ret
    exact ⟨rfl, rfl⟩
end Go.Proofs.Ytgobpleckeeheaa
