/-
  What is proved: contracts of fired, rounded, ShrinkBy and of the least size of MouldFor, of the program and of the reference. Conditions: the ranges named in each.
-/
import Derived.Test.YtekejjieclmcfaaProg
import Derived.Test.YtekejjieclmcfaaPlainM
import Derived.Handy
import Derived.Lib.Hide
namespace Go.Proofs.Ytekejjieclmcfaa
open Go.RowKit
set_option linter.unusedVariables false

theorem impl_in_yes (n lo hi : Int) (w : World) (h1 : lo ≤ n) (h2 : n ≤ hi) :
    Calls Try.prog 52 #[.int .i64 n, .int .i64 lo, .int .i64 hi] w fun e w' => e = .returned (.bool true) ∧ w = w' := by
  have d1 : decide (lo ≤ n) = true := by simpa using h1
  have d2 : decide (n ≤ hi) = true := by simpa using h2
  clear h1 h2
  go_enter Try.func52, Try.ntmps52
  go_wp2
  go_ret
  exact ⟨rfl, rfl⟩
theorem impl_in_no (n lo hi : Int) (w : World) (h : ¬ (lo ≤ n ∧ n ≤ hi)) :
    Calls Try.prog 52 #[.int .i64 n, .int .i64 lo, .int .i64 hi] w fun e w' => e = .returned (.bool false) ∧ w = w' := by
  by_cases h1 : lo ≤ n
  · have d1 : decide (lo ≤ n) = true := by simpa using h1
    have d2 : decide (n ≤ hi) = false := by simp; omega
    clear h h1
    go_enter Try.func52, Try.ntmps52
    go_wp2
    go_ret
    exact ⟨rfl, rfl⟩
  · have d1 : decide (lo ≤ n) = false := by simpa using h1
    clear h h1
    go_enter Try.func52, Try.ntmps52
    go_wp2
    go_ret
    exact ⟨rfl, rfl⟩
theorem impl_in (n lo hi : Int) (w : World) :
    Calls Try.prog 52 #[.int .i64 n, .int .i64 lo, .int .i64 hi] w fun e w' => e = .returned (.bool (decide (lo ≤ n ∧ n ≤ hi))) ∧ w = w' := by
  by_cases h : lo ≤ n ∧ n ≤ hi
  · rw [decide_eq_true h]
    exact impl_in_yes n lo hi w h.1 h.2
  · rw [decide_eq_false h]
    exact impl_in_no n lo hi w h
theorem spec_in_yes (n lo hi : Int) (w : World) (h1 : lo ≤ n) (h2 : n ≤ hi) :
    Calls Try.prog 51 #[.int .i64 n, .int .i64 lo, .int .i64 hi] w fun e w' => e = .returned (.bool true) ∧ w = w' := by
  have d1 : decide (lo ≤ n) = true := by simpa using h1
  have d2 : decide (n ≤ hi) = true := by simpa using h2
  clear h1 h2
  go_enter Try.func51, Try.ntmps51
  go_wp2
  go_ret
  exact ⟨rfl, rfl⟩
theorem spec_in_no (n lo hi : Int) (w : World) (h : ¬ (lo ≤ n ∧ n ≤ hi)) :
    Calls Try.prog 51 #[.int .i64 n, .int .i64 lo, .int .i64 hi] w fun e w' => e = .returned (.bool false) ∧ w = w' := by
  by_cases h1 : lo ≤ n
  · have d1 : decide (lo ≤ n) = true := by simpa using h1
    have d2 : decide (n ≤ hi) = false := by simp; omega
    clear h h1
    go_enter Try.func51, Try.ntmps51
    go_wp2
    go_ret
    exact ⟨rfl, rfl⟩
  · have d1 : decide (lo ≤ n) = false := by simpa using h1
    clear h h1
    go_enter Try.func51, Try.ntmps51
    go_wp2
    go_ret
    exact ⟨rfl, rfl⟩
theorem spec_in (n lo hi : Int) (w : World) :
    Calls Try.prog 51 #[.int .i64 n, .int .i64 lo, .int .i64 hi] w fun e w' => e = .returned (.bool (decide (lo ≤ n ∧ n ≤ hi))) ∧ w = w' := by
  by_cases h : lo ≤ n ∧ n ≤ hi
  · rw [decide_eq_true h]
    exact spec_in_yes n lo hi w h.1 h.2
  · rw [decide_eq_false h]
    exact spec_in_no n lo hi w h
theorem impl_fired (n s : Int) (w : World) (h0 : 0 ≤ n) (h1 : n ≤ 100000) (h2 : 0 ≤ s) (h3 : s ≤ 1000) :
    Calls Try.prog 57 #[.int .i64 n, .int .i64 s] w fun e w' => e = .returned (.int .i64 (firedI n s)) ∧ w = w' := by
  have m := fired_mul n s h0 h1 h2 h3
  unfold firedI
  go_enter Try.func57, Try.ntmps57
  go_wp2
  go_ret
  exact ⟨rfl, rfl⟩
theorem spec_l05Fired (n s : Int) (w : World) (h0 : 0 ≤ n) (h1 : n ≤ 100000) (h2 : 0 ≤ s) (h3 : s ≤ 1000) :
    Calls Try.prog 56 #[.int .i64 n, .int .i64 s] w fun e w' => e = .returned (.int .i64 (firedI n s)) ∧ w = w' := by
  have m := fired_mul n s h0 h1 h2 h3
  have e : 2 * n * (1000 - s) = 2 * (n * (1000 - s)) := Int.mul_assoc _ _ _
  have m1 : 0 ≤ 2 * n * (1000 - s) ∧ 2 * n * (1000 - s) ≤ 200000000 := by omega
  have e2 : firedI n s = (2 * n * (1000 - s) + 1000) / 2000 := by unfold firedI; rw [e]
  rw [e2]
  clear m e e2
  go_enter Try.func56, Try.ntmps56
  go_wp2
  go_ret
  exact ⟨rfl, rfl⟩
set_option maxHeartbeats 1000000 in
theorem impl_shrinkBy_in (m b : Int) (w : World) (h0 : 30 ≤ m) (h1 : m ≤ 800) (h2 : 30 ≤ b) (h3 : b ≤ 800) :
    Calls Try.prog 30 #[.int .i64 m, .int .i64 b] w fun e w' => e = .returned (.tuple #[.int .i64 (shrinkBy m b).1, .int .i64 (shrinkBy m b).2]) ∧ w = w' := by
  go_enter Try.func30, Try.ntmps30
  go_wp2_with fail
  refine (impl_in_yes _ _ _ _ h0 h1).mono ?_
  rintro e w1 ⟨rfl, rfl⟩
  go_wp2_with fail
  refine (impl_in_yes _ _ _ _ h2 h3).mono ?_
  rintro e w1 ⟨rfl, rfl⟩
  go_wp2_with fail
  go_loop [6] (fun i => ∃ k : Nat, k ≤ 201 ∧ i = .int .i64 k ∧ Hid (∀ j : Nat, j < k → firedI m j ≠ b)) (fun i => 201 - (intOf i).toNat)
  case atStart => exact ⟨0, by omega, rfl, hide (fun j hj => absurd hj (by omega))⟩
  case round =>
    obtain ⟨k, hk, rfl, hall⟩ := hrel
    by_cases hlt : k < 201
    · by_cases he : firedI m k = b
      · have Hf := hide (shrinkBy_found hlt he hall.out)
        have eb : (firedI m k == b) = true := by simpa using he
        clear he
        go_wp2_with fail
        refine (impl_fired _ _ _ (by omega) (by omega) (by omega) (by omega)).mono ?_
        rintro e w1 ⟨rfl, rfl⟩
        go_wp2
        go_ret2
        exact ⟨by rw [Hf.out]; rfl, rfl⟩
      · have eb : (firedI m k == b) = false := by simpa using he
        have He := hide he
        clear he
        go_wp2_with fail
        refine (impl_fired _ _ _ (by omega) (by omega) (by omega) (by omega)).mono ?_
        rintro e w1 ⟨rfl, rfl⟩
        go_wp2
        go_round
        case rel => exact ⟨k + 1, by omega, by go_num, hide (fun j hj => if e : j = k then (by rw [e]; exact He.out) else hall.out j (by omega))⟩
        case measure => simp [intOf]; omega
    · have Hf := hide (shrinkBy_none (m := m) (b := b) (fun j hj => hall.out j (by omega)))
      go_wp2
      go_ret2
      exact ⟨by rw [Hf.out]; rfl, rfl⟩
theorem impl_shrinkBy (m b : Int) (w : World) :
    Calls Try.prog 30 #[.int .i64 m, .int .i64 b] w fun e w' => e = .returned (.tuple #[.int .i64 (shrinkByC m b).1, .int .i64 (shrinkByC m b).2]) ∧ w = w' := by
  by_cases h : 30 ≤ m ∧ m ≤ 800 ∧ 30 ≤ b ∧ b ≤ 800
  · have e : shrinkByC m b = shrinkBy m b := if_pos h
    rw [e]
    exact impl_shrinkBy_in m b w h.1 h.2.1 h.2.2.1 h.2.2.2
  · have e : shrinkByC m b = (0, 2) := if_neg h
    rw [e]
    clear e
    by_cases c1 : 30 ≤ m
    · have d1 : decide (30 ≤ m) = true := by simpa using c1
      by_cases c2 : m ≤ 800
      · have d2 : decide (m ≤ 800) = true := by simpa using c2
        by_cases c3 : 30 ≤ b
        · have d3 : decide (30 ≤ b) = true := by simpa using c3
          have d4 : decide (b ≤ 800) = false := by simp; omega
          clear h c1 c2 c3
          go_enter Try.func30, Try.ntmps30
          go_wp2
          go_ret2
          exact ⟨rfl, rfl⟩
        · have d3 : decide (30 ≤ b) = false := by simpa using c3
          clear h c1 c2 c3
          go_enter Try.func30, Try.ntmps30
          go_wp2
          go_ret2
          exact ⟨rfl, rfl⟩
      · have d2 : decide (m ≤ 800) = false := by simpa using c2
        clear h c1 c2
        go_enter Try.func30, Try.ntmps30
        go_wp2
        go_ret2
        exact ⟨rfl, rfl⟩
    · have d1 : decide (30 ≤ m) = false := by simpa using c1
      clear h c1
      go_enter Try.func30, Try.ntmps30
      go_wp2
      go_ret2
      exact ⟨rfl, rfl⟩
set_option maxHeartbeats 1000000 in
theorem spec_shrinkBy_in (m b : Int) (w : World) (h0 : 30 ≤ m) (h1 : m ≤ 800) (h2 : 30 ≤ b) (h3 : b ≤ 800) :
    Calls Try.prog 29 #[.int .i64 m, .int .i64 b] w fun e w' => e = .returned (.tuple #[.int .i64 (shrinkBy m b).1, .int .i64 (shrinkBy m b).2]) ∧ w = w' := by
  go_enter Try.func29, Try.ntmps29
  go_wp2_with fail
  refine (spec_in_yes _ _ _ _ h0 h1).mono ?_
  rintro e w1 ⟨rfl, rfl⟩
  go_wp2_with fail
  refine (spec_in_yes _ _ _ _ h2 h3).mono ?_
  rintro e w1 ⟨rfl, rfl⟩
  go_wp2_with fail
  go_loop [6] (fun i => ∃ k : Nat, k ≤ 201 ∧ i = .int .i64 k ∧ Hid (∀ j : Nat, j < k → firedI m j ≠ b)) (fun i => 201 - (intOf i).toNat)
  case atStart => exact ⟨0, by omega, rfl, hide (fun j hj => absurd hj (by omega))⟩
  case round =>
    obtain ⟨k, hk, rfl, hall⟩ := hrel
    by_cases hlt : k < 201
    · by_cases he : firedI m k = b
      · have Hf := hide (shrinkBy_found hlt he hall.out)
        have eb : (firedI m k == b) = true := by simpa using he
        clear he
        go_wp2_with fail
        refine (spec_l05Fired _ _ _ (by omega) (by omega) (by omega) (by omega)).mono ?_
        rintro e w1 ⟨rfl, rfl⟩
        go_wp2
        go_ret2
        exact ⟨by rw [Hf.out]; rfl, rfl⟩
      · have eb : (firedI m k == b) = false := by simpa using he
        have He := hide he
        clear he
        go_wp2_with fail
        refine (spec_l05Fired _ _ _ (by omega) (by omega) (by omega) (by omega)).mono ?_
        rintro e w1 ⟨rfl, rfl⟩
        go_wp2
        go_round
        case rel => exact ⟨k + 1, by omega, by go_num, hide (fun j hj => if e : j = k then (by rw [e]; exact He.out) else hall.out j (by omega))⟩
        case measure => simp [intOf]; omega
    · have Hf := hide (shrinkBy_none (m := m) (b := b) (fun j hj => hall.out j (by omega)))
      go_wp2
      go_ret2
      exact ⟨by rw [Hf.out]; rfl, rfl⟩
theorem spec_shrinkBy (m b : Int) (w : World) :
    Calls Try.prog 29 #[.int .i64 m, .int .i64 b] w fun e w' => e = .returned (.tuple #[.int .i64 (shrinkByC m b).1, .int .i64 (shrinkByC m b).2]) ∧ w = w' := by
  by_cases h : 30 ≤ m ∧ m ≤ 800 ∧ 30 ≤ b ∧ b ≤ 800
  · have e : shrinkByC m b = shrinkBy m b := if_pos h
    rw [e]
    exact spec_shrinkBy_in m b w h.1 h.2.1 h.2.2.1 h.2.2.2
  · have e : shrinkByC m b = (0, 2) := if_neg h
    rw [e]
    clear e
    by_cases c1 : 30 ≤ m
    · have d1 : decide (30 ≤ m) = true := by simpa using c1
      by_cases c2 : m ≤ 800
      · have d2 : decide (m ≤ 800) = true := by simpa using c2
        by_cases c3 : 30 ≤ b
        · have d3 : decide (30 ≤ b) = true := by simpa using c3
          have d4 : decide (b ≤ 800) = false := by simp; omega
          clear h c1 c2 c3
          go_enter Try.func29, Try.ntmps29
          go_wp2
          go_ret2
          exact ⟨rfl, rfl⟩
        · have d3 : decide (30 ≤ b) = false := by simpa using c3
          clear h c1 c2 c3
          go_enter Try.func29, Try.ntmps29
          go_wp2
          go_ret2
          exact ⟨rfl, rfl⟩
      · have d2 : decide (m ≤ 800) = false := by simpa using c2
        clear h c1 c2
        go_enter Try.func29, Try.ntmps29
        go_wp2
        go_ret2
        exact ⟨rfl, rfl⟩
    · have d1 : decide (30 ≤ m) = false := by simpa using c1
      clear h c1
      go_enter Try.func29, Try.ntmps29
      go_wp2
      go_ret2
      exact ⟨rfl, rfl⟩
set_option maxHeartbeats 1000000 in
/-- The closure of MouldFor: the captured shrinkage lies in a cell. -/
theorem impl_least (b s : Int) (a : Addr) (w : World) (h0 : 30 ≤ b) (h1 : b ≤ 500) (h2 : 0 ≤ s) (h3 : s ≤ 200) (hc : w.cell? a = some (.int .i64 s)) :
    Calls Try.prog 64 #[.int .i64 b, .pointer (some a)] w fun e w' => e = .returned (.int .i64 (leastI b s)) ∧ w = w' := by
  go_enter Try.func64, Try.ntmps64
  go_wp2
  go_loop [4] (fun i => ∃ k : Nat, k < 771 ∧ i = .int .i64 (30 + k) ∧ Hid (∀ j : Nat, j < k → firedI (30 + j) s < b)) (fun i => 801 - (intOf i).toNat)
  case atStart => exact ⟨0, by omega, rfl, hide (fun j hj => absurd hj (by omega))⟩
  case round =>
    obtain ⟨k, hk, rfl, hall⟩ := hrel
    by_cases he : firedI (30 + k) s < b
    · have eb : decide (firedI (30 + k) s < b) = true := by simpa using he
      have hk2 : k + 1 < 771 := by
        rcases Nat.lt_or_ge (k + 1) 771 with h | h
        · exact h
        · have := fired_great (30 + k) s (by omega) h3
          omega
      have He := hide he
      clear he
      go_wp2_with fail
      refine (impl_fired _ _ _ (by omega) (by omega) (by omega) (by omega)).mono ?_
      rintro e w1 ⟨rfl, rfl⟩
      go_wp2
      go_round
      case rel => exact ⟨k + 1, by omega, by congr 1, hide (fun j hj => if e : j = k then (by rw [e]; exact He.out) else hall.out j (by omega))⟩
      case measure => simp [intOf]; omega
    · have Hf := hide (least_is (b := b) (s := s) hk (by omega) hall.out)
      have eb : decide (firedI (30 + k) s < b) = false := by simpa using he
      clear he
      go_wp2_with fail
      refine (impl_fired _ _ _ (by omega) (by omega) (by omega) (by omega)).mono ?_
      rintro e w1 ⟨rfl, rfl⟩
      go_wp2
      go_ret
      exact ⟨by rw [Hf.out]; rfl, rfl⟩
set_option maxHeartbeats 1000000 in
theorem spec_l05Least (b s : Int) (w : World) (h0 : 30 ≤ b) (h1 : b ≤ 500) (h2 : 0 ≤ s) (h3 : s ≤ 200) :
    Calls Try.prog 62 #[.int .i64 b, .int .i64 s] w fun e w' => e = .returned (.int .i64 (leastI b s)) ∧ w = w' := by
  go_enter Try.func62, Try.ntmps62
  go_wp2
  go_loop [5] (fun i => ∃ k : Nat, k < 771 ∧ i = .int .i64 (30 + k) ∧ Hid (∀ j : Nat, j < k → firedI (30 + j) s < b)) (fun i => 801 - (intOf i).toNat)
  case atStart => exact ⟨(b - 30).toNat, by omega, by congr 1; omega, hide (fun j hj => by
    have := fired_le (30 + j) s (by omega) h2
    omega)⟩
  case round =>
    obtain ⟨k, hk, rfl, hall⟩ := hrel
    by_cases he : firedI (30 + k) s < b
    · have eb : decide (firedI (30 + k) s < b) = true := by simpa using he
      have hk2 : k + 1 < 771 := by
        rcases Nat.lt_or_ge (k + 1) 771 with h | h
        · exact h
        · have := fired_great (30 + k) s (by omega) h3
          omega
      have He := hide he
      clear he
      go_wp2_with fail
      refine (spec_l05Fired _ _ _ (by omega) (by omega) (by omega) (by omega)).mono ?_
      rintro e w1 ⟨rfl, rfl⟩
      go_wp2
      go_round
      case rel => exact ⟨k + 1, by omega, by congr 1, hide (fun j hj => if e : j = k then (by rw [e]; exact He.out) else hall.out j (by omega))⟩
      case measure => simp [intOf]; omega
    · have Hf := hide (least_is (b := b) (s := s) hk (by omega) hall.out)
      have eb : decide (firedI (30 + k) s < b) = false := by simpa using he
      clear he
      go_wp2_with fail
      refine (spec_l05Fired _ _ _ (by omega) (by omega) (by omega) (by omega)).mono ?_
      rintro e w1 ⟨rfl, rfl⟩
      go_wp2
      go_ret
      exact ⟨by rw [Hf.out]; rfl, rfl⟩
end Go.Proofs.Ytekejjieclmcfaa
