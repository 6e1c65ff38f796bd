/-
  What is proved: the small lemmas of 6 of our texts, joined into one file: each part's own comment says what it proves and under which conditions.
-/
import Derived.Test.YtfjdhjbfingofaaGreatDoorJoinA
import Derived.Below
import Derived.Test.YtfjdhjbfingofaaGreatDoorProg
import Derived.Handy
import Derived.Deep.QuietTactic
import Derived.BigQuiet
import Derived.Lib.Hide
import Derived.WalkLawsBesides
import Derived.PlainAid
/-
  What is proved: plain facts on fired sizes. No program in sight. No conditions.
-/
namespace Go.Proofs.YtfjdhjbfingofaaGreatDoor
open Go.RowKit

/-- The fired size of a size. -/
def firedI (n s : Int) : Int := (2 * (n * (1000 - s)) + 1000) / 2000

theorem fired_mul (n s : Int) (h0 : 0 ≤ n) (h1 : n ≤ 100000) (h2 : 0 ≤ s) (h3 : s ≤ 1000) : 0 ≤ n * (1000 - s) ∧ n * (1000 - s) ≤ 100000000 :=
  mul_bd n (1000 - s) 100000 1000 h0 h1 (by omega) (by omega) (by omega)
theorem fired_le (n s : Int) (h0 : 0 ≤ n) (h2 : 0 ≤ s) : firedI n s ≤ n := by
  have h : n * (1000 - s) ≤ n * 1000 := Int.mul_le_mul_of_nonneg_left (by omega) h0
  unfold firedI
  omega
theorem fired_nonneg (n s : Int) (h0 : 0 ≤ n) (h2 : s ≤ 1000) : 0 ≤ firedI n s := by
  have h : 0 ≤ n * (1000 - s) := Int.mul_nonneg h0 (by omega)
  unfold firedI
  omega
theorem fired_great (n s : Int) (h0 : 800 ≤ n) (h2 : s ≤ 200) : 640 ≤ firedI n s := by
  have h : n * 800 ≤ n * (1000 - s) := Int.mul_le_mul_of_nonneg_left (by omega) (by omega)
  unfold firedI
  omega

/-- The least size from 30 on whose fired size is not less than a brick's. -/
def leastI (b s : Int) : Int := ((List.range 771).find? (fun i : Nat => decide (b ≤ firedI (30 + i) s)) |>.getD 0 : Nat) + 30
theorem least_is {b s : Int} {k : Nat} (hk : k < 771) (h1 : b ≤ firedI (30 + k) s) (h2 : ∀ j : Nat, j < k → firedI (30 + j) s < b) : leastI b s = 30 + k := by
  have h : (List.range 771).find? (fun i : Nat => decide (b ≤ firedI (30 + i) s)) = some k := by
    rw [List.find?_range_eq_some]
    refine ⟨decide_eq_true h1, by simpa using hk, fun j hj => ?_⟩
    have := h2 j hj
    simp
    omega
  unfold leastI
  rw [h]
  simp only [Option.getD_some]
  omega

/-- The least shrinkage with a fired size, and a code. -/
def shrinkBy (m b : Int) : Int × Int := match (List.range 201).find? (fun i : Nat => firedI m i == b) with | some k => (k, 0) | none => (0, 3)
theorem shrinkBy_found {m b : Int} {k : Nat} (hk : k < 201) (h1 : firedI m k = b) (h2 : ∀ j : Nat, j < k → firedI m j ≠ b) : shrinkBy m b = ((k : Int), 0) := by
  have h : (List.range 201).find? (fun i : Nat => firedI m i == b) = some k := by
    rw [List.find?_range_eq_some]
    refine ⟨by simpa using h1, by simpa using hk, fun j hj => ?_⟩
    have := h2 j hj
    simpa using this
  unfold shrinkBy
  rw [h]
theorem shrinkBy_none {m b : Int} (h2 : ∀ j : Nat, j < 201 → firedI m j ≠ b) : shrinkBy m b = (0, 3) := by
  have h : (List.range 201).find? (fun i : Nat => firedI m i == b) = none := by
    rw [List.find?_range_eq_none]
    intro j hj
    have := h2 j hj
    simpa using this
  unfold shrinkBy
  rw [h]
/-- With the ranges' test ahead. -/
def shrinkByC (m b : Int) : Int × Int := if 30 ≤ m ∧ m ≤ 800 ∧ 30 ≤ b ∧ b ≤ 800 then shrinkBy m b else (0, 2)
end Go.Proofs.YtfjdhjbfingofaaGreatDoor

/-
  What is proved: plain facts on the comparison of two lists, element by element. No program in sight. No conditions.
-/
namespace Go.Proofs.YtfjdhjbfingofaaGreatDoor
set_option linter.unusedVariables false

def sameL {α : Type} (f : α → α → Bool) : List α → List α → Bool
  | [], [] => true
  | x :: xs, y :: ys => f x y && sameL f xs ys
  | _, _ => false
section
variable {α : Type} {f : α → α → Bool}
theorem sameL_len : ∀ {xs ys : List α}, xs.length ≠ ys.length → sameL f xs ys = false
  | [], [], h => absurd rfl h
  | [], _ :: _, _ => rfl
  | _ :: _, [], _ => rfl
  | x :: xs, y :: ys, h => by
    unfold sameL
    rw [sameL_len (xs := xs) (ys := ys) (by simpa using h), Bool.and_false]
theorem sameL_not : ∀ {xs ys : List α} {i : Nat} {x y : α}, xs[i]? = some x → ys[i]? = some y → f x y = false → sameL f xs ys = false
  | [], _, _, _, _, h, _, _ => by simp at h
  | _ :: _, [], _, _, _, _, h, _ => by simp at h
  | a :: xs, b :: ys, 0, x, y, h1, h2, hf => by
    simp at h1 h2
    subst h1 h2
    unfold sameL
    rw [hf, Bool.false_and]
  | a :: xs, b :: ys, i + 1, x, y, h1, h2, hf => by
    unfold sameL
    rw [sameL_not (i := i) (x := x) (y := y) (by simpa using h1) (by simpa using h2) hf, Bool.and_false]
theorem sameL_all : ∀ {xs ys : List α}, xs.length = ys.length → (∀ (i : Nat) (x y : α), xs[i]? = some x → ys[i]? = some y → f x y = true) → sameL f xs ys = true
  | [], [], _, _ => rfl
  | [], _ :: _, h, _ => by simp at h
  | _ :: _, [], h, _ => by simp at h
  | a :: xs, b :: ys, h, hf => by
    unfold sameL
    rw [hf 0 a b rfl rfl, Bool.true_and]
    exact sameL_all (by simpa using h) (fun i x y h1 h2 => hf (i + 1) x y (by simpa using h1) (by simpa using h2))
theorem same_more {xs ys : List α} {k : Nat} {a b : α} (h : ∀ (j : Nat) (x y : α), j < k → xs[j]? = some x → ys[j]? = some y → f x y = true) (hx : xs[k]? = some a) (hy : ys[k]? = some b) (hf : f a b = true) :
    ∀ (j : Nat) (x y : α), j < k + 1 → xs[j]? = some x → ys[j]? = some y → f x y = true := by
  intro j x y hj h1 h2
  by_cases e : j = k
  · subst e
    rw [hx] at h1
    rw [hy] at h2
    obtain rfl := Option.some.inj h1
    obtain rfl := Option.some.inj h2
    exact hf
  · exact h j x y (by omega) h1 h2
theorem sameL_self (h : ∀ x, f x x = true) (xs : List α) : sameL f xs xs = true :=
  sameL_all rfl (fun i x y h1 h2 => by
    rw [h1] at h2
    obtain rfl := Option.some.inj h2
    exact h x)
end

section
variable {α : Type} {f : α → Bool} {zs : List α}
theorem all_more {k : Nat} {a : α} (h : ∀ (j : Nat) (x : α), j < k → zs[j]? = some x → f x = true) (hx : zs[k]? = some a) (hf : f a = true) :
    ∀ (j : Nat) (x : α), j < k + 1 → zs[j]? = some x → f x = true := by
  intro j x hj h1
  by_cases e : j = k
  · subst e
    rw [hx] at h1
    obtain rfl := Option.some.inj h1
    exact hf
  · exact h j x (by omega) h1
theorem all_not {k : Nat} {a : α} (hx : zs[k]? = some a) (hf : f a = false) : zs.all f = false := by
  rw [List.all_eq_false]
  exact ⟨a, List.mem_of_getElem? hx, by simp [hf]⟩
theorem all_yes (h : ∀ (j : Nat) (x : α), zs[j]? = some x → f x = true) : zs.all f = true := by
  rw [List.all_eq_true]
  intro x hx
  obtain ⟨i, hi⟩ := List.getElem?_of_mem hx
  exact h i x hi
end
end Go.Proofs.YtfjdhjbfingofaaGreatDoor

/-
  What is proved: contracts of the program's and the reference's functions on formats. No conditions beyond ranges named in each.
-/
namespace Go.Proofs.YtfjdhjbfingofaaGreatDoor
open Go.RowKit
set_option linter.unusedVariables false


end Go.Proofs.YtfjdhjbfingofaaGreatDoor

/-
  What is proved: the program's gcd and the reference's l02Gcd give the greatest common divisor, for numbers from 0 to 10^15.
-/
namespace Go.Proofs.YtfjdhjbfingofaaGreatDoor
open Go.RowKit
set_option linter.unusedVariables false

theorem gcd_step (a b c d : Int) (ha : 0 ≤ a) (hb : 0 < b) (h : Int.gcd a b = Int.gcd c d) : Int.gcd b (a % b) = Int.gcd c d := by
  rw [← h, Int.gcd_comm a b]
  conv => rhs; rw [← Int.emod_add_mul_ediv a b]
  simp

theorem gcd_end (a c d : Int) (ha : 0 ≤ a) (h : Int.gcd a 0 = Int.gcd c d) : a = (Int.gcd c d : Nat) := by
  rw [← h, Int.gcd_zero_right]; omega

set_option maxHeartbeats 400000 in
theorem impl_gcd (a b : Int) (w : World) (ha : 0 ≤ a) (ha2 : a ≤ 1000000000000000) (hb : 0 ≤ b) (hb2 : b ≤ 1000000000000000) :
    Calls Tryz.prog 37 #[.int .i64 a, .int .i64 b] w fun e w' => e = .returned (.int .i64 (Int.gcd a b)) ∧ ∃ n, w' = w.drewN n := by
  go_enter Tryz.func37, Tryz.ntmps37
  go_wp2
  go_loopw [0, 1] (fun p q wr => ∃ a' b' : Int, 0 ≤ a' ∧ a' ≤ 1000000000000000 ∧ 0 ≤ b' ∧ b' ≤ 1000000000000000 ∧ p = .int .i64 a' ∧ q = .int .i64 b' ∧ Hid (Int.gcd a' b' = Int.gcd a b) ∧ ∃ n, wr = w.drewN n) (fun _ q _ => (intOf q).toNat)
  case atStart => exact ⟨a, b, ha, ha2, hb, hb2, rfl, rfl, Lib.hid rfl, 0, rfl⟩
  case round =>
    obtain ⟨a', b', h1, h2, h3, h4, rfl, rfl, hg, n, rfl⟩ := hrel
    by_cases hz : b' = 0
    · subst hz
      go_wp2
      go_ret
      exact ⟨ret_int (gcd_end a' a b h1 hg.out), _, rfl⟩
    · have hp : 0 < b' := by omega
      have e : (b' != 0) = true := by simp [hz]
      have hm0 : 0 ≤ a' % b' := Int.emod_nonneg _ hz
      have hm1 : a' % b' < b' := Int.emod_lt_of_pos _ hp
      clear hz
      go_wp2
      go_quiet (fail)
      go_roundw
      case rel => exact ⟨_, _, _, _, _, _, _, _, ⟨b', a' % b', by omega, by omega, hm0, by omega, rfl, rfl, Lib.hid (gcd_step a' b' a b h1 hp hg.out), _, World.drewN_drewN _ _ _⟩, rfl⟩
      case measure => simp [intOf]; omega

set_option maxHeartbeats 400000 in
theorem spec_l02Gcd (a b : Int) (w : World) (ha : 0 ≤ a) (ha2 : a ≤ 1000000000000000) (hb : 0 ≤ b) (hb2 : b ≤ 1000000000000000) :
    Calls Tryz.prog 39 #[.int .i64 a, .int .i64 b] w fun e w' => e = .returned (.int .i64 (Int.gcd a b)) ∧ w = w' := by
  go_enter Tryz.func39, Tryz.ntmps39
  go_wp2
  go_loop [0, 1] (fun p q => ∃ a' b' : Int, 0 ≤ a' ∧ a' ≤ 1000000000000000 ∧ 0 ≤ b' ∧ b' ≤ 1000000000000000 ∧ p = .int .i64 a' ∧ q = .int .i64 b' ∧ Hid (Int.gcd a' b' = Int.gcd a b)) (fun _ q => (intOf q).toNat)
  case atStart => exact ⟨a, b, ha, ha2, hb, hb2, rfl, rfl, Lib.hid rfl⟩
  case round =>
    obtain ⟨a', b', h1, h2, h3, h4, rfl, rfl, hg⟩ := hrel
    by_cases hz : b' = 0
    · subst hz
      go_wp2
      go_ret
      exact ⟨ret_int (gcd_end a' a b h1 hg.out), rfl⟩
    · have hp : 0 < b' := by omega
      have e : (b' != 0) = true := by simp [hz]
      have hm0 : 0 ≤ a' % b' := Int.emod_nonneg _ hz
      have hm1 : a' % b' < b' := Int.emod_lt_of_pos _ hp
      clear hz
      go_wp2
      go_round
      case rel => exact ⟨b', a' % b', by omega, by omega, hm0, by omega, rfl, rfl, Lib.hid (gcd_step a' b' a b h1 hp hg.out)⟩
      case measure => simp [intOf]; omega

/-- The size of a number that fits well. -/
theorem spec_l02Size (n : Int) (w : World) (h1 : -1000000000000000 ≤ n) (h2 : n ≤ 1000000000000000) :
    Calls Tryz.prog 82 #[.int .i64 n] w fun e w' => e = .returned (.int .i64 (n.natAbs : Nat)) ∧ w = w' := by
  by_cases h : n < 0
  · go_enter Tryz.func82, Tryz.ntmps82
    go_wp2
    go_ret
    exact ⟨ret_int (by omega), rfl⟩
  · go_enter Tryz.func82, Tryz.ntmps82
    go_wp2
    go_ret
    exact ⟨ret_int (by omega), rfl⟩

theorem gcd_pos (a b : Int) (hb : 0 < b) : 0 < (Int.gcd a b : Int) := by
  have := Int.gcd_pos_of_ne_zero_right a (by omega : b ≠ 0)
  omega
theorem gcd_le (a b : Int) (hb : 0 < b) : (Int.gcd a b : Int) ≤ b := by
  have h := Int.le_of_dvd hb (Int.gcd_dvd_right a b)
  exact h
theorem div_le (a g : Int) (ha : 0 ≤ a) (hg : 0 < g) : 0 ≤ a / g ∧ a / g ≤ a := by
  refine ⟨Int.ediv_nonneg ha (by omega), Int.ediv_le_self _ ha⟩

set_option maxHeartbeats 400000 in
theorem impl_lowest (a b : Int) (w : World) (ha : 0 ≤ a) (ha2 : a ≤ 1000000000000000) (hb : 0 < b) (hb2 : b ≤ 1000000000000000) :
    Calls Tryz.prog 62 #[.int .i64 a, .int .i64 b] w fun e w' => e = .returned (.agg #[.int .i64 (a / Int.gcd a b), .int .i64 (b / Int.gcd a b)]) ∧ Below w.heap.size w w' := by
  have g1 := gcd_pos a b hb
  have g2 := gcd_le a b hb
  have q1 := div_le a _ ha g1
  have q2 := div_le b _ (by omega) g1
  have hn : ¬ b < 0 := by omega
  have gz : ((Int.gcd a b : Int) == 0) = false := by simp; omega
  go_enter Tryz.func62, Tryz.ntmps62
  go_wp2_with fail
  refine (impl_gcd _ _ _ ha ha2 (by omega) hb2).mono ?_
  rintro e w1 ⟨rfl, n, rfl⟩
  generalize hg : (Int.gcd a b : Int) = g at *
  have Hg := hide hg
  clear hg
  go_wp2
  go_region
  go_wp2
  go_returns
  exact ⟨by rw [Hg.out], ((below_drewN ((Below.refl _ _).alloc (Nat.le_refl _) _) _).setCell (Nat.le_refl _) _).setCell (Nat.le_refl _) _⟩

set_option maxHeartbeats 400000 in
theorem spec_l02Make (a b : Int) (w : World) (ha : 0 ≤ a) (ha2 : a ≤ 1000000000000000) (hb : 0 < b) (hb2 : b ≤ 1000000000000000) :
    Calls Tryz.prog 64 #[.int .i64 a, .int .i64 b] w fun e w' => e = .returned (.agg #[.int .i64 (a / Int.gcd a b), .int .i64 (b / Int.gcd a b)]) ∧ Below w.heap.size w w' := by
  have g1 := gcd_pos a b hb
  have g2 := gcd_le a b hb
  have q1 := div_le a _ ha g1
  have q2 := div_le b _ (by omega) g1
  have gz : ((Int.gcd a b : Int) == 0) = false := by simp; omega
  have hab : ((a.natAbs : Nat) : Int) = a := by omega
  have HAB := Lib.hid hab
  clear hab
  go_enter Tryz.func64, Tryz.ntmps64
  go_wp2_with fail
  refine (spec_l02Size _ _ (by omega) (by omega)).mono ?_
  rintro e w1 ⟨rfl, rfl⟩
  rw [HAB.out]
  go_wp2_with fail
  refine (spec_l02Gcd _ _ _ ha ha2 (by omega) hb2).mono ?_
  rintro e w1 ⟨rfl, rfl⟩
  generalize hg : (Int.gcd a b : Int) = g at *
  have Hg := hide hg
  clear hg
  go_wp2
  go_region
  go_wp2
  go_returns
  exact ⟨by rw [Hg.out], by go_grown⟩
end Go.Proofs.YtfjdhjbfingofaaGreatDoor

/-
  What is proved: the program's IsName and the reference's IsName say of every string the same: whether it is a name. Condition: the string's length fits.
-/
namespace Go.Proofs.YtfjdhjbfingofaaGreatDoor
open Go.RowKit Go.PlainAid
set_option linter.unusedVariables false

def nmCh (c : Int) : Bool := decide ((97 ≤ c ∧ c ≤ 122) ∨ (48 ≤ c ∧ c ≤ 57) ∨ c = 45)
def nameB (s : ByteArray) : Bool := decide (1 ≤ s.size ∧ s.size ≤ 12 ∧ 97 ≤ bt s 0 ∧ bt s 0 ≤ 122 ∧ ∀ j, j < s.size → nmCh (bt s j) = true)

theorem name_more {s : ByteArray} {k : Nat} (h : ∀ j, j < k → nmCh (bt s j) = true) (hk : nmCh (bt s k) = true) : ∀ j, j < k + 1 → nmCh (bt s j) = true := by
  intro j hj
  by_cases e : j = k
  · rw [e]; exact hk
  · exact h j (by omega)
theorem name_not {s : ByteArray} {k : Nat} (hs : k < s.size) (hk : ¬ ((97 ≤ bt s k ∧ bt s k ≤ 122) ∨ (48 ≤ bt s k ∧ bt s k ≤ 57) ∨ bt s k = 45)) : false = nameB s := by
  refine (decide_eq_false ?_).symm
  rintro ⟨_, _, _, _, h⟩
  exact hk (of_decide_eq_true (h k hs))
theorem name_yes {s : ByteArray} {k : Nat} (h : ∀ j, j < k → nmCh (bt s j) = true) (hk : s.size ≤ k) (h1 : 1 ≤ s.size) (h2 : s.size ≤ 12) (h3 : 97 ≤ bt s 0) (h4 : bt s 0 ≤ 122) : true = nameB s :=
  (decide_eq_true ⟨h1, h2, h3, h4, fun j hj => h j (by omega)⟩).symm

set_option maxHeartbeats 1000000 in
theorem impl_isName (s : ByteArray) (w : World) (hs : s.size ≤ maxLen) :
    Calls Tryz.prog 68 #[.string s] w fun e w' => e = .returned (.bool (nameB s)) ∧ w = w' := by
  unfold maxLen at hs
  by_cases h0 : s.size < 1
  · have d1 : decide ((s.size : Int) < 1) = true := by simp; omega
    have en : nameB s = false := decide_eq_false (by omega)
    rw [en]
    clear en
    go_enter Tryz.func68, Tryz.ntmps68
    go_wp2
    go_ret
    exact ⟨rfl, rfl⟩
  by_cases h12 : 12 < s.size
  · have d1 : decide ((s.size : Int) < 1) = false := by simp; omega
    have d2 : decide (12 < (s.size : Int)) = true := by simp; omega
    have en : nameB s = false := decide_eq_false (by omega)
    rw [en]
    clear en
    go_enter Tryz.func68, Tryz.ntmps68
    go_wp2
    go_ret
    exact ⟨rfl, rfl⟩
  have d1 : decide ((s.size : Int) < 1) = false := by simp; omega
  have d2 : decide (12 < (s.size : Int)) = false := by simp; omega
  have hp : 0 < s.size := by omega
  have hb := get_bt s
  by_cases c1 : bt s 0 < 97
  · have e1 : decide (bt s 0 < 97) = true := by simpa using c1
    have en : nameB s = false := decide_eq_false (by omega)
    rw [en]
    clear en c1
    go_enter Tryz.func68, Tryz.ntmps68
    go_wp2
    go_ret
    exact ⟨rfl, rfl⟩
  by_cases c2 : 122 < bt s 0
  · have e1 : decide (bt s 0 < 97) = false := by simpa using c1
    have e2 : decide (122 < bt s 0) = true := by simpa using c2
    have en : nameB s = false := decide_eq_false (by omega)
    rw [en]
    clear en c1 c2
    go_enter Tryz.func68, Tryz.ntmps68
    go_wp2
    go_ret
    exact ⟨rfl, rfl⟩
  have e1 : decide (bt s 0 < 97) = false := by simpa using c1
  have e2 : decide (122 < bt s 0) = false := by simpa using c2
  have h1 : 97 ≤ bt s 0 := by omega
  have h2 : bt s 0 ≤ 122 := by omega
  have h3 : s.size ≤ 12 := by omega
  clear c1 c2 h0 h12
  go_enter Tryz.func68, Tryz.ntmps68
  go_wp2
  go_loop [3] (fun i => ∃ k : Nat, 1 ≤ k ∧ k ≤ s.size ∧ i = .int .i64 k ∧ Hid (∀ j, j < k → nmCh (bt s j) = true)) (fun i => s.size - (intOf i).toNat)
  case atStart => exact ⟨1, by omega, by omega, rfl, hide (fun j hj => decide_eq_true (by rw [show j = 0 from by omega]; omega))⟩
  case round =>
    obtain ⟨k, hk1, hk, rfl, hall⟩ := hrel
    by_cases hlt : k < s.size
    · -- the byte's class
      by_cases hA : 97 ≤ bt s k ∧ bt s k ≤ 122
      · have f0 : decide (bt s k < 97) = false := by simp; omega
        have f1 : decide (122 < bt s k) = false := by simp; omega
        have hn : nmCh (bt s k) = true := decide_eq_true (by omega)
        have Hn := hide hn
        clear hn hA
        go_wp2
        go_round
        case rel => exact ⟨k + 1, by omega, by omega, by go_num, hide (name_more hall.out Hn.out)⟩
        case measure => simp [intOf]; omega
      by_cases hB : 48 ≤ bt s k ∧ bt s k ≤ 57
      · have f0 : decide (bt s k < 97) = true := by simp; omega
        have f1 : decide (bt s k < 48) = false := by simp; omega
        have f2 : decide (57 < bt s k) = false := by simp; omega
        have hn : nmCh (bt s k) = true := decide_eq_true (by omega)
        have Hn := hide hn
        clear hn hA hB
        go_wp2
        go_round
        case rel => exact ⟨k + 1, by omega, by omega, by go_num, hide (name_more hall.out Hn.out)⟩
        case measure => simp [intOf]; omega
      by_cases hC : bt s k = 45
      · have f0 : decide (bt s k < 97) = true := by simp; omega
        have f1 : decide (bt s k < 48) = true := by simp; omega
        have fd : (bt s k != 45) = false := by simp; omega
        have hn : nmCh (bt s k) = true := decide_eq_true (by omega)
        have Hn := hide hn
        clear hn hA hB hC
        go_wp2
        go_round
        case rel => exact ⟨k + 1, by omega, by omega, by go_num, hide (name_more hall.out Hn.out)⟩
        case measure => simp [intOf]; omega
      by_cases hD : bt s k < 48
      · have f0 : decide (bt s k < 97) = true := by simp; omega
        have f1 : decide (bt s k < 48) = true := by simp; omega
        have fd : (bt s k != 45) = true := by simp; omega
        have hn : ¬ ((97 ≤ bt s k ∧ bt s k ≤ 122) ∨ (48 ≤ bt s k ∧ bt s k ≤ 57) ∨ bt s k = 45) := by omega
        have Hn := hide hn
        clear hn hA hB hC hD
        go_wp2
        go_ret
        exact ⟨ret_bool (name_not hlt Hn.out), rfl⟩
      by_cases hE : bt s k < 97
      · have f0 : decide (bt s k < 97) = true := by simp; omega
        have f1 : decide (bt s k < 48) = false := by simp; omega
        have f2 : decide (57 < bt s k) = true := by simp; omega
        have fd : (bt s k != 45) = true := by simp; omega
        have hn : ¬ ((97 ≤ bt s k ∧ bt s k ≤ 122) ∨ (48 ≤ bt s k ∧ bt s k ≤ 57) ∨ bt s k = 45) := by omega
        have Hn := hide hn
        clear hn hA hB hC hD hE
        go_wp2
        go_ret
        exact ⟨ret_bool (name_not hlt Hn.out), rfl⟩
      have f0 : decide (bt s k < 97) = false := by simp; omega
      have f1 : decide (122 < bt s k) = true := by simp; omega
      have f2 : decide (bt s k < 48) = false := by simp; omega
      have f3 : decide (57 < bt s k) = true := by simp; omega
      have fd : (bt s k != 45) = true := by simp; omega
      have hn : ¬ ((97 ≤ bt s k ∧ bt s k ≤ 122) ∨ (48 ≤ bt s k ∧ bt s k ≤ 57) ∨ bt s k = 45) := by omega
      have Hn := hide hn
      clear hn hA hB hC hD hE
      go_wp2
      go_ret
      exact ⟨ret_bool (name_not hlt Hn.out), rfl⟩
    · go_wp2
      go_ret
      exact ⟨ret_bool (name_yes hall.out (by omega) (by omega) h3 h1 h2), rfl⟩

theorem spec_l01Small (c : Int) (w : World) (h1 : 0 ≤ c) (h2 : c ≤ 255) : Calls Tryz.prog 87 #[.int .u8 c] w fun e w' => e = .returned (.bool (decide (97 ≤ c ∧ c ≤ 122))) ∧ w = w' := by
  by_cases c1 : 97 ≤ c
  · have d1 : decide (97 ≤ c) = true := by simpa using c1
    go_enter Tryz.func87, Tryz.ntmps87
    go_wp2
    go_ret
    exact ⟨ret_bool (decide_eq_decide.2 (by omega)), rfl⟩
  · have d1 : decide (97 ≤ c) = false := by simpa using c1
    have d2 : decide (97 ≤ c ∧ c ≤ 122) = false := by simp; omega
    rw [d2]
    go_enter Tryz.func87, Tryz.ntmps87
    go_wp2
    go_ret
    exact ⟨rfl, rfl⟩

theorem spec_l01Digit (c : Int) (w : World) (h1 : 0 ≤ c) (h2 : c ≤ 255) : Calls Tryz.prog 80 #[.int .u8 c] w fun e w' => e = .returned (.bool (decide (48 ≤ c ∧ c ≤ 57))) ∧ w = w' := by
  by_cases c1 : 48 ≤ c
  · have d1 : decide (48 ≤ c) = true := by simpa using c1
    go_enter Tryz.func80, Tryz.ntmps80
    go_wp2
    go_ret
    exact ⟨ret_bool (decide_eq_decide.2 (by omega)), rfl⟩
  · have d1 : decide (48 ≤ c) = false := by simpa using c1
    have d2 : decide (48 ≤ c ∧ c ≤ 57) = false := by simp; omega
    rw [d2]
    go_enter Tryz.func80, Tryz.ntmps80
    go_wp2
    go_ret
    exact ⟨rfl, rfl⟩

set_option maxHeartbeats 1000000 in
theorem spec_isName (s : ByteArray) (w : World) (hs : s.size ≤ maxLen) :
    Calls Tryz.prog 72 #[.string s] w fun e w' => e = .returned (.bool (nameB s)) ∧ w = w' := by
  unfold maxLen at hs
  by_cases h0 : s.size < 1
  · have en : nameB s = false := decide_eq_false (by omega)
    rw [en]
    clear en
    have hem : s = ByteArray.empty := by
      apply ByteArray.ext
      apply Array.eq_empty_of_size_eq_zero
      exact (by omega : s.size = 0)
    subst hem
    clear hs h0
    go_enter Tryz.func72, Tryz.ntmps72
    go_wp2
    go_ret
    exact ⟨rfl, rfl⟩
  have em : s.toList.isEmpty = false := by
    rw [← decide_eq_emptyBytes]
    refine decide_eq_false ?_
    intro h
    rw [h] at h0
    exact h0 (by decide)
  have em2 : (!s.toList.isEmpty) = true := by rw [em]; rfl
  by_cases h12 : 12 < s.size
  · have d2 : decide (12 < (s.size : Int)) = true := by simp; omega
    have en : nameB s = false := decide_eq_false (by omega)
    rw [en]
    clear en
    go_enter Tryz.func72, Tryz.ntmps72
    go_wp2
    go_ret
    exact ⟨rfl, rfl⟩
  have d2 : decide (12 < (s.size : Int)) = false := by simp; omega
  have hp : 0 < s.size := by omega
  have hb := get_bt s
  have c0 := bt_nonneg s 0
  have c9 := bt_le s 0
  by_cases c1 : 97 ≤ bt s 0 ∧ bt s 0 ≤ 122
  · have e1 : decide (97 ≤ bt s 0 ∧ bt s 0 ≤ 122) = true := by simp; omega
    obtain ⟨h1, h2⟩ := c1
    have h3 : s.size ≤ 12 := by omega
    clear h0 h12
    go_enter Tryz.func72, Tryz.ntmps72
    go_wp2_with fail
    refine (spec_l01Small _ _ (by omega) (by omega)).mono ?_
    rintro e w1 ⟨rfl, rfl⟩
    go_wp2_with fail
    go_loop [3] (fun i => ∃ k : Nat, k ≤ s.size ∧ i = .int .i64 k ∧ Hid (∀ j, j < k → nmCh (bt s j) = true)) (fun i => s.size - (intOf i).toNat)
    case atStart => exact ⟨0, by omega, rfl, hide (fun j hj => absurd hj (by omega))⟩
    case round =>
      obtain ⟨k, hk, rfl, hall⟩ := hrel
      clear c0 c9
      by_cases hlt : k < s.size
      · -- the byte's class
        by_cases hA : 97 ≤ bt s k ∧ bt s k ≤ 122
        · have f1 : decide (97 ≤ bt s k ∧ bt s k ≤ 122) = true := by simp; omega
          have hn : nmCh (bt s k) = true := decide_eq_true (by omega)
          have Hn := hide hn
          clear hn hA
          have c0 := bt_nonneg s k
          have c1 := bt_le s k
          go_wp2_with fail
          refine (spec_l01Small _ _ (by omega) (by omega)).mono ?_
          rintro e w1 ⟨rfl, rfl⟩
          go_wp2
          go_round
          case rel => exact ⟨k + 1, by omega, by go_num, hide (name_more hall.out Hn.out)⟩
          case measure => simp [intOf]; omega
        by_cases hB : 48 ≤ bt s k ∧ bt s k ≤ 57
        · have f1 : decide (97 ≤ bt s k ∧ bt s k ≤ 122) = false := by simp; omega
          have f2 : decide (48 ≤ bt s k ∧ bt s k ≤ 57) = true := by simp; omega
          have hn : nmCh (bt s k) = true := decide_eq_true (by omega)
          have Hn := hide hn
          clear hn hA hB
          have c0 := bt_nonneg s k
          have c1 := bt_le s k
          go_wp2_with fail
          refine (spec_l01Small _ _ (by omega) (by omega)).mono ?_
          rintro e w1 ⟨rfl, rfl⟩
          go_wp2_with fail
          refine (spec_l01Digit _ _ (by omega) (by omega)).mono ?_
          rintro e w1 ⟨rfl, rfl⟩
          go_wp2
          go_round
          case rel => exact ⟨k + 1, by omega, by go_num, hide (name_more hall.out Hn.out)⟩
          case measure => simp [intOf]; omega
        by_cases hC : bt s k = 45
        · have f1 : decide (97 ≤ bt s k ∧ bt s k ≤ 122) = false := by simp; omega
          have f2 : decide (48 ≤ bt s k ∧ bt s k ≤ 57) = false := by simp; omega
          have fd : (bt s k != 45) = false := by simp; omega
          have hn : nmCh (bt s k) = true := decide_eq_true (by omega)
          have Hn := hide hn
          clear hn hA hB hC
          have c0 := bt_nonneg s k
          have c1 := bt_le s k
          go_wp2_with fail
          refine (spec_l01Small _ _ (by omega) (by omega)).mono ?_
          rintro e w1 ⟨rfl, rfl⟩
          go_wp2_with fail
          refine (spec_l01Digit _ _ (by omega) (by omega)).mono ?_
          rintro e w1 ⟨rfl, rfl⟩
          go_wp2
          go_round
          case rel => exact ⟨k + 1, by omega, by go_num, hide (name_more hall.out Hn.out)⟩
          case measure => simp [intOf]; omega
        by_cases hD : bt s k < 48
        · have f1 : decide (97 ≤ bt s k ∧ bt s k ≤ 122) = false := by simp; omega
          have f2 : decide (48 ≤ bt s k ∧ bt s k ≤ 57) = false := by simp; omega
          have fd : (bt s k != 45) = true := by simp; omega
          have hn : ¬ ((97 ≤ bt s k ∧ bt s k ≤ 122) ∨ (48 ≤ bt s k ∧ bt s k ≤ 57) ∨ bt s k = 45) := by omega
          have Hn := hide hn
          clear hn hA hB hC hD
          have c0 := bt_nonneg s k
          have c1 := bt_le s k
          go_wp2_with fail
          refine (spec_l01Small _ _ (by omega) (by omega)).mono ?_
          rintro e w1 ⟨rfl, rfl⟩
          go_wp2_with fail
          refine (spec_l01Digit _ _ (by omega) (by omega)).mono ?_
          rintro e w1 ⟨rfl, rfl⟩
          go_wp2
          go_ret
          exact ⟨ret_bool (name_not hlt Hn.out), rfl⟩
        by_cases hE : bt s k < 97
        · have f1 : decide (97 ≤ bt s k ∧ bt s k ≤ 122) = false := by simp; omega
          have f2 : decide (48 ≤ bt s k ∧ bt s k ≤ 57) = false := by simp; omega
          have fd : (bt s k != 45) = true := by simp; omega
          have hn : ¬ ((97 ≤ bt s k ∧ bt s k ≤ 122) ∨ (48 ≤ bt s k ∧ bt s k ≤ 57) ∨ bt s k = 45) := by omega
          have Hn := hide hn
          clear hn hA hB hC hD hE
          have c0 := bt_nonneg s k
          have c1 := bt_le s k
          go_wp2_with fail
          refine (spec_l01Small _ _ (by omega) (by omega)).mono ?_
          rintro e w1 ⟨rfl, rfl⟩
          go_wp2_with fail
          refine (spec_l01Digit _ _ (by omega) (by omega)).mono ?_
          rintro e w1 ⟨rfl, rfl⟩
          go_wp2
          go_ret
          exact ⟨ret_bool (name_not hlt Hn.out), rfl⟩
        have f1 : decide (97 ≤ bt s k ∧ bt s k ≤ 122) = false := by simp; omega
        have f2 : decide (48 ≤ bt s k ∧ bt s k ≤ 57) = false := by simp; omega
        have fd : (bt s k != 45) = true := by simp; omega
        have hn : ¬ ((97 ≤ bt s k ∧ bt s k ≤ 122) ∨ (48 ≤ bt s k ∧ bt s k ≤ 57) ∨ bt s k = 45) := by omega
        have Hn := hide hn
        clear hn hA hB hC hD hE
        have c0 := bt_nonneg s k
        have c1 := bt_le s k
        go_wp2_with fail
        refine (spec_l01Small _ _ (by omega) (by omega)).mono ?_
        rintro e w1 ⟨rfl, rfl⟩
        go_wp2_with fail
        refine (spec_l01Digit _ _ (by omega) (by omega)).mono ?_
        rintro e w1 ⟨rfl, rfl⟩
        go_wp2
        go_ret
        exact ⟨ret_bool (name_not hlt Hn.out), rfl⟩
      · go_wp2
        go_ret
        exact ⟨ret_bool (name_yes hall.out (by omega) (by omega) h3 h1 h2), rfl⟩
  · have e1 : decide (97 ≤ bt s 0 ∧ bt s 0 ≤ 122) = false := by simp; omega
    have en : nameB s = false := decide_eq_false (by omega)
    rw [en]
    clear en
    go_enter Tryz.func72, Tryz.ntmps72
    go_wp2_with fail
    refine (spec_l01Small _ _ (by omega) (by omega)).mono ?_
    rintro e w1 ⟨rfl, rfl⟩
    go_wp2
    go_ret
    exact ⟨rfl, rfl⟩
end Go.Proofs.YtfjdhjbfingofaaGreatDoor

/-
  What is proved: contracts of fired, rounded, ShrinkBy and of the least size of MouldFor, of the program and of the reference. Conditions: the ranges named in each.
-/
namespace Go.Proofs.YtfjdhjbfingofaaGreatDoor
open Go.RowKit
set_option linter.unusedVariables false

theorem impl_in_yes (n lo hi : Int) (w : World) (h1 : lo ≤ n) (h2 : n ≤ hi) :
    Calls Tryz.prog 69 #[.int .i64 n, .int .i64 lo, .int .i64 hi] w fun e w' => e = .returned (.bool true) ∧ w = w' := by
  have d1 : decide (lo ≤ n) = true := by simpa using h1
  have d2 : decide (n ≤ hi) = true := by simpa using h2
  clear h1 h2
  go_enter Tryz.func69, Tryz.ntmps69
  go_wp2
  go_ret
  exact ⟨rfl, rfl⟩
theorem impl_in_no (n lo hi : Int) (w : World) (h : ¬ (lo ≤ n ∧ n ≤ hi)) :
    Calls Tryz.prog 69 #[.int .i64 n, .int .i64 lo, .int .i64 hi] w fun e w' => e = .returned (.bool false) ∧ w = w' := by
  by_cases h1 : lo ≤ n
  · have d1 : decide (lo ≤ n) = true := by simpa using h1
    have d2 : decide (n ≤ hi) = false := by simp; omega
    clear h h1
    go_enter Tryz.func69, Tryz.ntmps69
    go_wp2
    go_ret
    exact ⟨rfl, rfl⟩
  · have d1 : decide (lo ≤ n) = false := by simpa using h1
    clear h h1
    go_enter Tryz.func69, Tryz.ntmps69
    go_wp2
    go_ret
    exact ⟨rfl, rfl⟩
theorem impl_in (n lo hi : Int) (w : World) :
    Calls Tryz.prog 69 #[.int .i64 n, .int .i64 lo, .int .i64 hi] w fun e w' => e = .returned (.bool (decide (lo ≤ n ∧ n ≤ hi))) ∧ w = w' := by
  by_cases h : lo ≤ n ∧ n ≤ hi
  · rw [decide_eq_true h]
    exact impl_in_yes n lo hi w h.1 h.2
  · rw [decide_eq_false h]
    exact impl_in_no n lo hi w h
theorem spec_in_yes (n lo hi : Int) (w : World) (h1 : lo ≤ n) (h2 : n ≤ hi) :
    Calls Tryz.prog 73 #[.int .i64 n, .int .i64 lo, .int .i64 hi] w fun e w' => e = .returned (.bool true) ∧ w = w' := by
  have d1 : decide (lo ≤ n) = true := by simpa using h1
  have d2 : decide (n ≤ hi) = true := by simpa using h2
  clear h1 h2
  go_enter Tryz.func73, Tryz.ntmps73
  go_wp2
  go_ret
  exact ⟨rfl, rfl⟩
theorem spec_in_no (n lo hi : Int) (w : World) (h : ¬ (lo ≤ n ∧ n ≤ hi)) :
    Calls Tryz.prog 73 #[.int .i64 n, .int .i64 lo, .int .i64 hi] w fun e w' => e = .returned (.bool false) ∧ w = w' := by
  by_cases h1 : lo ≤ n
  · have d1 : decide (lo ≤ n) = true := by simpa using h1
    have d2 : decide (n ≤ hi) = false := by simp; omega
    clear h h1
    go_enter Tryz.func73, Tryz.ntmps73
    go_wp2
    go_ret
    exact ⟨rfl, rfl⟩
  · have d1 : decide (lo ≤ n) = false := by simpa using h1
    clear h h1
    go_enter Tryz.func73, Tryz.ntmps73
    go_wp2
    go_ret
    exact ⟨rfl, rfl⟩
theorem spec_in (n lo hi : Int) (w : World) :
    Calls Tryz.prog 73 #[.int .i64 n, .int .i64 lo, .int .i64 hi] w fun e w' => e = .returned (.bool (decide (lo ≤ n ∧ n ≤ hi))) ∧ w = w' := by
  by_cases h : lo ≤ n ∧ n ≤ hi
  · rw [decide_eq_true h]
    exact spec_in_yes n lo hi w h.1 h.2
  · rw [decide_eq_false h]
    exact spec_in_no n lo hi w h
end Go.Proofs.YtfjdhjbfingofaaGreatDoor
