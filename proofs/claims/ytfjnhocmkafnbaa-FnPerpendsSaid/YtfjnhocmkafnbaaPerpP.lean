/-
  What is proved: plain facts on the perpends of a course: letters, sums of quarters, how many are less than a length; the lap of two lists. No program in sight. No conditions.
-/
import Derived.Test.YtfjnhocmkafnbaaBondOk
namespace Go.Proofs.Ytfjnhocmkafnbaa
open Go.RowKit Go.PlainAid
set_option linter.unusedVariables false

def letterAt (x y : ByteArray) (i : Nat) : Int := if i < x.size then bt x i else bt y ((i - x.size) % y.size)
theorem letter_lead {x y : ByteArray} {i : Nat} (h : i < x.size) : letterAt x y i = bt x i := by unfold letterAt; rw [if_pos h]
theorem letter_cycle {x y : ByteArray} {i : Nat} (h : ¬ i < x.size) : letterAt x y i = bt y ((i - x.size) % y.size) := by unfold letterAt; rw [if_neg h]
theorem letter_u8 (x y : ByteArray) (i : Nat) : 0 ≤ letterAt x y i ∧ letterAt x y i ≤ 255 := by
  unfold letterAt
  split
  · exact ⟨bt_nonneg _ _, bt_le _ _⟩
  · exact ⟨bt_nonneg _ _, bt_le _ _⟩
theorem only_at {f : Int → Bool} {s : ByteArray} {j : Nat} (h : onlyB f s = true) (hj : j < s.size) : f (bt s j) = true := of_decide_eq_true h j hj
theorem letter_ok {x y : ByteArray} (h : Course.ok ⟨x, y⟩ = true) (i : Nat) : pcC (letterAt x y i) = true := by
  obtain ⟨h0, h1, h2, h3⟩ := course_split h
  by_cases hi : i < x.size
  · rw [letter_lead hi]
    exact only_at h1 hi
  · rw [letter_cycle hi]
    have hm : (i - x.size) % y.size < y.size := Nat.mod_lt _ (by omega)
    have := of_decide_eq_true (only_at h3 hm)
    rw [pcC_iff]
    omega
theorem letter_q {x y : ByteArray} (h : Course.ok ⟨x, y⟩ = true) (i : Nat) : 1 ≤ qI (letterAt x y i) ∧ qI (letterAt x y i) ≤ 4 := by
  have h1 := of_decide_eq_true (letter_ok h i)
  have h2 := qI_bd (letterAt x y i)
  omega
def sumQ (x y : ByteArray) : Nat → Int
  | 0 => 0
  | i + 1 => sumQ x y i + qI (letterAt x y i)
theorem sumQ_succ (x y : ByteArray) (i : Nat) : sumQ x y (i + 1) = sumQ x y i + qI (letterAt x y i) := rfl
theorem sumQ_bd {x y : ByteArray} (h : Course.ok ⟨x, y⟩ = true) (i : Nat) : (i : Int) ≤ sumQ x y i ∧ sumQ x y i ≤ 4 * i := by
  induction i with
  | zero => exact ⟨Int.le_refl _, Int.le_refl _⟩
  | succ i ih =>
    have := letter_q h i
    rw [sumQ_succ]
    omega
theorem sumQ_mono {x y : ByteArray} (h : Course.ok ⟨x, y⟩ = true) {i j : Nat} (hij : i < j) : sumQ x y i < sumQ x y j := by
  induction j with
  | zero => omega
  | succ j ih =>
    have := letter_q h j
    rw [sumQ_succ]
    rcases Nat.lt_or_ge i j with h1 | h1
    · have := ih h1
      omega
    · obtain rfl : i = j := by omega
      omega
/-- How many sums are less than a length. -/
noncomputable def cntQ (x y : ByteArray) (u : Int) : Nat := open Classical in if h : ∃ N, sumQ x y N < u ∧ u ≤ sumQ x y (N + 1) then h.choose else 0
theorem cntQ_is {x y : ByteArray} {u : Int} {N : Nat} (h : Course.ok ⟨x, y⟩ = true) (h0 : sumQ x y N < u) (h1 : u ≤ sumQ x y (N + 1)) : cntQ x y u = N := by
  have he : ∃ N, sumQ x y N < u ∧ u ≤ sumQ x y (N + 1) := ⟨N, h0, h1⟩
  unfold cntQ
  rw [dif_pos he]
  have hs := he.choose_spec
  generalize he.choose = M at hs
  rcases Nat.lt_trichotomy M N with h2 | h2 | h2
  · rcases Nat.lt_or_ge (M + 1) N with h3 | h3
    · have := sumQ_mono h h3; omega
    · obtain rfl : M + 1 = N := by omega
      omega
  · exact h2
  · rcases Nat.lt_or_ge (N + 1) M with h3 | h3
    · have := sumQ_mono h h3; omega
    · obtain rfl : N + 1 = M := by omega
      omega
theorem cntQ_ex {x y : ByteArray} {u : Int} (h : Course.ok ⟨x, y⟩ = true) (hu : 1 ≤ u) : ∃ N, sumQ x y N < u ∧ u ≤ sumQ x y (N + 1) := by
  have key : ∀ k : Nat, (∃ N, sumQ x y N < u ∧ u ≤ sumQ x y (N + 1)) ∨ sumQ x y k < u := by
    intro k
    induction k with
    | zero => exact .inr (by show (0 : Int) < u; omega)
    | succ k ih =>
      rcases ih with ih | ih
      · exact .inl ih
      · by_cases h1 : sumQ x y (k + 1) < u
        · exact .inr h1
        · exact .inl ⟨k, ih, by omega⟩
  rcases key u.toNat with h1 | h1
  · exact h1
  · have := sumQ_bd h u.toNat
    omega
theorem cntQ_spec {x y : ByteArray} {u : Int} (h : Course.ok ⟨x, y⟩ = true) (hu : 1 ≤ u) : sumQ x y (cntQ x y u) < u ∧ u ≤ sumQ x y (cntQ x y u + 1) := by
  obtain ⟨N, h0, h1⟩ := cntQ_ex h hu
  rw [cntQ_is h h0 h1]
  exact ⟨h0, h1⟩
/-- The first sums. -/
def perpsN (x y : ByteArray) (N : Nat) : List Int := (List.range N).map fun j => sumQ x y (j + 1)
theorem perpsN_length (x y : ByteArray) (N : Nat) : (perpsN x y N).length = N := by simp [perpsN]
theorem perpsN_succ (x y : ByteArray) (N : Nat) : perpsN x y (N + 1) = perpsN x y N ++ [sumQ x y (N + 1)] := by
  unfold perpsN
  rw [List.range_succ, List.map_append]
  rfl
theorem perpsN_at {x y : ByteArray} {N i : Nat} (h : i < N) : (perpsN x y N)[i]? = some (sumQ x y (i + 1)) := by
  unfold perpsN
  rw [List.getElem?_map, List.getElem?_range h]
  rfl
noncomputable def perps (x y : ByteArray) (u : Int) : List Int := perpsN x y (cntQ x y u)
theorem perps_is {x y : ByteArray} {u : Int} {N : Nat} (h : Course.ok ⟨x, y⟩ = true) (h0 : sumQ x y N < u) (h1 : u ≤ sumQ x y (N + 1)) : perps x y u = perpsN x y N := by
  unfold perps
  rw [cntQ_is h h0 h1]
theorem perps_length (x y : ByteArray) (u : Int) : (perps x y u).length = cntQ x y u := perpsN_length _ _ _
theorem cntQ_le {x y : ByteArray} {u : Int} (h : Course.ok ⟨x, y⟩ = true) (hu : 1 ≤ u) : (cntQ x y u : Int) < u := by
  have h1 := (cntQ_spec h hu).1
  have h2 := (sumQ_bd h (cntQ x y u)).1
  omega
theorem perpsN_bd {x y : ByteArray} {N : Nat} (h : Course.ok ⟨x, y⟩ = true) {v : Int} (hv : v ∈ perpsN x y N) : 1 ≤ v ∧ v ≤ sumQ x y N := by
  unfold perpsN at hv
  obtain ⟨j, hj, rfl⟩ := List.mem_map.1 hv
  have hj := List.mem_range.1 hj
  have h1 := sumQ_bd h (j + 1)
  rcases Nat.lt_or_ge (j + 1) N with h2 | h2
  · have := sumQ_mono h h2
    omega
  · obtain rfl : j + 1 = N := by omega
    omega
theorem perps_bd {x y : ByteArray} {u : Int} (h : Course.ok ⟨x, y⟩ = true) (hu : 1 ≤ u) {v : Int} (hv : v ∈ perps x y u) : 1 ≤ v ∧ v < u := by
  have h1 := perpsN_bd h hv
  have h2 := cntQ_spec h hu
  omega
/-- The least distance. -/
def minD (m d : Int) : Int := if m < 0 ∨ d < m then d else m
def lapRow (x : Int) (m : Int) (ys : List Int) : Int := ys.foldl (fun m y => minD m (max (x - y) (y - x))) m
def lapL (xs ys : List Int) : Int := xs.foldl (fun m x => lapRow x m ys) (-1)
theorem lapRow_step {x m : Int} {ys : List Int} {k : Nat} {y : Int} (h : ys[k]? = some y) : lapRow x m (ys.take (k + 1)) = minD (lapRow x m (ys.take k)) (max (x - y) (y - x)) := by
  unfold lapRow
  rw [List.take_add_one, h, List.foldl_append]
  rfl
def lapTo (xs ys : List Int) (k : Nat) : Int := (xs.take k).foldl (fun m x => lapRow x m ys) (-1)
theorem lapTo_step {xs ys : List Int} {k : Nat} {x : Int} (h : xs[k]? = some x) : lapTo xs ys (k + 1) = lapRow x (lapTo xs ys k) ys := by
  unfold lapTo
  rw [List.take_add_one, h, List.foldl_append]
  rfl
theorem lapTo_all (xs ys : List Int) : lapTo xs ys xs.length = lapL xs ys := by
  unfold lapTo lapL
  rw [List.take_length]
theorem minD_bd {m d B : Int} (h0 : -1 ≤ m) (h1 : m ≤ B) (h2 : 0 ≤ d) (h3 : d ≤ B) : -1 ≤ minD m d ∧ minD m d ≤ B := by
  unfold minD
  split <;> omega
theorem lapRow_bd {x m B : Int} (hB : 0 ≤ B) (hx : 0 ≤ x ∧ x ≤ B) (h0 : -1 ≤ m) (h1 : m ≤ B) : ∀ {ys : List Int}, (∀ y ∈ ys, 0 ≤ y ∧ y ≤ B) → -1 ≤ lapRow x m ys ∧ lapRow x m ys ≤ B := by
  intro ys
  induction ys generalizing m with
  | nil => exact fun _ => ⟨h0, h1⟩
  | cons y ys ih =>
    intro hy
    have h := hy y (List.mem_cons_self ..)
    have hd := minD_bd (d := max (x - y) (y - x)) h0 h1 (by omega) (by omega)
    exact ih hd.1 hd.2 (fun z hz => hy z (List.mem_cons_of_mem _ hz))
theorem lapTo_bd {xs ys : List Int} {B : Int} (hB : 0 ≤ B) (hx : ∀ x ∈ xs, 0 ≤ x ∧ x ≤ B) (hy : ∀ y ∈ ys, 0 ≤ y ∧ y ≤ B) (k : Nat) : -1 ≤ lapTo xs ys k ∧ lapTo xs ys k ≤ B := by
  induction k with
  | zero => exact ⟨by show (-1 : Int) ≤ -1; omega, by show (-1 : Int) ≤ B; omega⟩
  | succ k ih =>
    rcases Nat.lt_or_ge k xs.length with h | h
    · have e : xs[k]? = some xs[k] := List.getElem?_eq_getElem h
      rw [lapTo_step e]
      exact lapRow_bd hB (hx _ (List.getElem_mem h)) ih.1 ih.2 hy
    · have e : lapTo xs ys (k + 1) = lapTo xs ys k := by
        unfold lapTo
        rw [List.take_of_length_le h, List.take_of_length_le (by omega)]
      rw [e]
      exact ih
theorem lapL_bd {xs ys : List Int} {B : Int} (hB : 0 ≤ B) (hx : ∀ x ∈ xs, 0 ≤ x ∧ x ≤ B) (hy : ∀ y ∈ ys, 0 ≤ y ∧ y ≤ B) : -1 ≤ lapL xs ys ∧ lapL xs ys ≤ B := by
  rw [← lapTo_all]
  exact lapTo_bd hB hx hy _
end Go.Proofs.Ytfjnhocmkafnbaa
