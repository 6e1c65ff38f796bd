/-
  What is proved: the program's gcd and the reference's l02Gcd give the greatest common divisor, for numbers from 0 to 10^15.
-/
import Derived.Test.YtgobpleckeeheaaProg
import Derived.Test.YtgobpleckeeheaaPlain
import Derived.Handy
import Derived.Deep.QuietTactic
import Derived.BigQuiet
import Derived.Lib.Hide
import Derived.WalkLawsBesides
namespace Go.Proofs.Ytgobpleckeeheaa
open Go.RowKit
set_option linter.unusedVariables false

theorem gcd_step (a b c d : Int) (ha : 0 ≤ a) (hb : 0 < b) (h : Int.gcd a b = Int.gcd c d) : Int.gcd b (a % b) = Int.gcd c d := by
  rw [← h, Int.gcd_comm a b]
  conv => rhs; rw [← Int.emod_add_mul_ediv a b]
  simp

theorem gcd_end (a c d : Int) (ha : 0 ≤ a) (h : Int.gcd a 0 = Int.gcd c d) : a = (Int.gcd c d : Nat) := by
  rw [← h, Int.gcd_zero_right]; omega

set_option maxHeartbeats 400000 in
theorem impl_gcd (a b : Int) (w : World) (ha : 0 ≤ a) (ha2 : a ≤ 1000000000000000) (hb : 0 ≤ b) (hb2 : b ≤ 1000000000000000) :
    Calls Try.prog 64 #[.int .i64 a, .int .i64 b] w fun e w' => e = .returned (.int .i64 (Int.gcd a b)) ∧ ∃ n, w' = w.drewN n := by
  go_enter Try.func64, Try.ntmps64
  go_wp2
  go_loopw [0, 1] (fun p q wr => ∃ a' b' : Int, 0 ≤ a' ∧ a' ≤ 1000000000000000 ∧ 0 ≤ b' ∧ b' ≤ 1000000000000000 ∧ p = .int .i64 a' ∧ q = .int .i64 b' ∧ Hid (Int.gcd a' b' = Int.gcd a b) ∧ ∃ n, wr = w.drewN n) (fun _ q _ => (intOf q).toNat)
  case atStart => exact ⟨a, b, ha, ha2, hb, hb2, rfl, rfl, Lib.hid rfl, 0, rfl⟩
  case round =>
    obtain ⟨a', b', h1, h2, h3, h4, rfl, rfl, hg, n, rfl⟩ := hrel
    by_cases hz : b' = 0
    · subst hz
      go_wp2
      go_ret
      exact ⟨ret_int (gcd_end a' a b h1 hg.out), _, rfl⟩
    · have hp : 0 < b' := by omega
      have e : (b' != 0) = true := by simp [hz]
      have hm0 : 0 ≤ a' % b' := Int.emod_nonneg _ hz
      have hm1 : a' % b' < b' := Int.emod_lt_of_pos _ hp
      clear hz
      go_wp2
      go_quiet (fail)
      go_roundw
      case rel => exact ⟨_, _, _, _, _, _, _, _, ⟨b', a' % b', by omega, by omega, hm0, by omega, rfl, rfl, Lib.hid (gcd_step a' b' a b h1 hp hg.out), _, World.drewN_drewN _ _ _⟩, rfl⟩
      case measure => simp [intOf]; omega

set_option maxHeartbeats 400000 in
theorem spec_l02Gcd (a b : Int) (w : World) (ha : 0 ≤ a) (ha2 : a ≤ 1000000000000000) (hb : 0 ≤ b) (hb2 : b ≤ 1000000000000000) :
    Calls Try.prog 70 #[.int .i64 a, .int .i64 b] w fun e w' => e = .returned (.int .i64 (Int.gcd a b)) ∧ w = w' := by
  go_enter Try.func70, Try.ntmps70
  go_wp2
  go_loop [0, 1] (fun p q => ∃ a' b' : Int, 0 ≤ a' ∧ a' ≤ 1000000000000000 ∧ 0 ≤ b' ∧ b' ≤ 1000000000000000 ∧ p = .int .i64 a' ∧ q = .int .i64 b' ∧ Hid (Int.gcd a' b' = Int.gcd a b)) (fun _ q => (intOf q).toNat)
  case atStart => exact ⟨a, b, ha, ha2, hb, hb2, rfl, rfl, Lib.hid rfl⟩
  case round =>
    obtain ⟨a', b', h1, h2, h3, h4, rfl, rfl, hg⟩ := hrel
    by_cases hz : b' = 0
    · subst hz
      go_wp2
      go_ret
      exact ⟨ret_int (gcd_end a' a b h1 hg.out), rfl⟩
    · have hp : 0 < b' := by omega
      have e : (b' != 0) = true := by simp [hz]
      have hm0 : 0 ≤ a' % b' := Int.emod_nonneg _ hz
      have hm1 : a' % b' < b' := Int.emod_lt_of_pos _ hp
      clear hz
      go_wp2
      go_round
      case rel => exact ⟨b', a' % b', by omega, by omega, hm0, by omega, rfl, rfl, Lib.hid (gcd_step a' b' a b h1 hp hg.out)⟩
      case measure => simp [intOf]; omega

/-- The size of a number that fits well. -/
theorem spec_l02Size (n : Int) (w : World) (h1 : -1000000000000000 ≤ n) (h2 : n ≤ 1000000000000000) :
    Calls Try.prog 69 #[.int .i64 n] w fun e w' => e = .returned (.int .i64 (n.natAbs : Nat)) ∧ w = w' := by
  by_cases h : n < 0
  · go_enter Try.func69, Try.ntmps69
    go_wp2
    go_ret
    exact ⟨ret_int (by omega), rfl⟩
  · go_enter Try.func69, Try.ntmps69
    go_wp2
    go_ret
    exact ⟨ret_int (by omega), rfl⟩

theorem gcd_pos (a b : Int) (hb : 0 < b) : 0 < (Int.gcd a b : Int) := by
  have := Int.gcd_pos_of_ne_zero_right a (by omega : b ≠ 0)
  omega
theorem gcd_le (a b : Int) (hb : 0 < b) : (Int.gcd a b : Int) ≤ b := by
  have h := Int.le_of_dvd hb (Int.gcd_dvd_right a b)
  exact h
theorem div_le (a g : Int) (ha : 0 ≤ a) (hg : 0 < g) : 0 ≤ a / g ∧ a / g ≤ a := by
  refine ⟨Int.ediv_nonneg ha (by omega), Int.ediv_le_self _ ha⟩

set_option maxHeartbeats 400000 in
theorem impl_lowest (a b : Int) (w : World) (ha : 0 ≤ a) (ha2 : a ≤ 1000000000000000) (hb : 0 < b) (hb2 : b ≤ 1000000000000000) :
    Calls Try.prog 106 #[.int .i64 a, .int .i64 b] w fun e w' => e = .returned (.agg #[.int .i64 (a / Int.gcd a b), .int .i64 (b / Int.gcd a b)]) ∧ Below w.heap.size w w' := by
  have g1 := gcd_pos a b hb
  have g2 := gcd_le a b hb
  have q1 := div_le a _ ha g1
  have q2 := div_le b _ (by omega) g1
  have hn : ¬ b < 0 := by omega
  have gz : ((Int.gcd a b : Int) == 0) = false := by simp; omega
  go_enter Try.func106, Try.ntmps106
  go_wp2_with fail
  refine (impl_gcd _ _ _ ha ha2 (by omega) hb2).mono ?_
  rintro e w1 ⟨rfl, n, rfl⟩
  generalize hg : (Int.gcd a b : Int) = g at *
  have Hg := hide hg
  clear hg
  go_wp2
  go_region
  go_wp2
  go_returns
  exact ⟨by rw [Hg.out], ((below_drewN ((Below.refl _ _).alloc (Nat.le_refl _) _) _).setCell (Nat.le_refl _) _).setCell (Nat.le_refl _) _⟩

end Go.Proofs.Ytgobpleckeeheaa
