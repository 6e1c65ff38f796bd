/-
  What is proved: plain facts on the perpends of a course: their distances, the headers, the least distance of two lists. No program in sight. No conditions.
-/
import Derived.Test.YtfjnhocmkafnbaaHeads
import Derived.Test.YtfjnhocmkafnbaaLapB
namespace Go.Proofs.Ytfjnhocmkafnbaa
set_option linter.unusedVariables false

theorem headQ_two {x y : ByteArray} (h : Course.ok ⟨x, y⟩ = true) (i : Nat) : 2 * headQ x y i ≤ sumQ x y i := by
  induction i with
  | zero => exact Int.le_refl 0
  | succ i ih =>
    have hq := letter_q h i
    rw [sumQ_succ]
    by_cases e : letterAt x y i = 72
    · rw [headQ_yes e, e]
      have : qI 72 = 2 := rfl
      omega
    · rw [headQ_no e]
      omega
theorem heads_fit {x y : ByteArray} {u : Int} (h : Course.ok ⟨x, y⟩ = true) (hu : 1 ≤ u) : 0 ≤ heads x y u ∧ 2 * heads x y u ≤ u := by
  unfold heads
  have h1 := headQ_bd x y (cntQ x y (u + 1))
  have h2 := headQ_two h (cntQ x y (u + 1))
  have h3 := (cntQ_spec h (show 1 ≤ u + 1 by omega)).1
  omega
/-- The perpend before the i-th. -/
def lastQ (x y : ByteArray) (i : Nat) : Int := sumQ x y i
theorem perp_step {x y : ByteArray} {u : Int} (h : Course.ok ⟨x, y⟩ = true) (hu : 1 ≤ u) {i : Nat} {v : Int} (hv : (perps x y u)[i]? = some v) :
    v = lastQ x y (i + 1) ∧ 1 ≤ v - lastQ x y i ∧ v - lastQ x y i ≤ 4 ∧ v < u ∧ 0 ≤ lastQ x y i := by
  have hi : i < cntQ x y u := by
    have := (List.getElem?_eq_some_iff.1 hv).1
    rwa [perps_length] at this
  have h1 : (perps x y u)[i]? = some (sumQ x y (i + 1)) := perpsN_at hi
  rw [h1] at hv
  have hv := Option.some.inj hv
  have hb : v < u := (perps_bd h hu (List.mem_of_getElem? (h1.trans (congrArg some hv)))).2
  have hq := letter_q h i
  have hs := sumQ_succ x y i
  have h0 := (sumQ_bd h i).1
  unfold lastQ
  omega
theorem perp_end {x y : ByteArray} {u : Int} (h : Course.ok ⟨x, y⟩ = true) (hu : 1 ≤ u) : u - lastQ x y (perps x y u).length ≤ 4 ∧ 0 ≤ lastQ x y (perps x y u).length ∧ lastQ x y (perps x y u).length < u := by
  rw [perps_length]
  have h1 := cntQ_spec h hu
  have hq := letter_q h (cntQ x y u)
  have hs := sumQ_succ x y (cntQ x y u)
  have h0 := (sumQ_bd h (cntQ x y u)).1
  unfold lastQ
  omega

/-- All distances of two lists. -/
def distL (xs ys : List Int) : List Int := xs.flatMap fun x => ys.map fun y => max (x - y) (y - x)
theorem dist_mem {xs ys : List Int} {d : Int} : d ∈ distL xs ys ↔ ∃ x ∈ xs, ∃ y ∈ ys, d = max (x - y) (y - x) := by
  unfold distL
  rw [List.mem_flatMap]
  constructor
  · rintro ⟨x, hx, h⟩
    obtain ⟨y, hy, rfl⟩ := List.mem_map.1 h
    exact ⟨x, hx, y, hy, rfl⟩
  · rintro ⟨x, hx, y, hy, rfl⟩
    exact ⟨x, hx, List.mem_map.2 ⟨y, hy, rfl⟩⟩
theorem dist_flip {xs ys : List Int} {d : Int} (h : d ∈ distL xs ys) : d ∈ distL ys xs := by
  obtain ⟨x, hx, y, hy, rfl⟩ := dist_mem.1 h
  exact dist_mem.2 ⟨y, hy, x, hx, by omega⟩
theorem dist_pos {xs ys : List Int} {d : Int} (h : d ∈ distL xs ys) : 0 ≤ d := by
  obtain ⟨x, hx, y, hy, rfl⟩ := dist_mem.1 h
  omega
theorem lapL_fold (xs ys : List Int) : lapL xs ys = (distL xs ys).foldl minD (-1) := by
  unfold lapL
  generalize (-1 : Int) = m
  induction xs generalizing m with
  | nil => rfl
  | cons x xs ih =>
    rw [List.foldl_cons, ih]
    unfold distL
    rw [List.flatMap_cons, List.foldl_append]
    unfold lapRow
    rw [List.foldl_map]
theorem fold_min : ∀ (ds : List Int) (m : Int), 0 ≤ m → (∀ d ∈ ds, 0 ≤ d) → ds.foldl minD m ≤ m ∧ 0 ≤ ds.foldl minD m ∧ (∀ d ∈ ds, ds.foldl minD m ≤ d) ∧ (ds.foldl minD m = m ∨ ds.foldl minD m ∈ ds)
  | [], m, hm, _ => ⟨Int.le_refl _, hm, fun _ h => absurd h (by simp), .inl rfl⟩
  | d :: ds, m, hm, hd => by
    have h0 := hd d (List.mem_cons_self ..)
    have hmd : minD m d = min m d := by
      unfold minD
      split <;> omega
    obtain ⟨h1, h2, h3, h4⟩ := fold_min ds (minD m d) (by rw [hmd]; omega) (fun e he => hd e (List.mem_cons_of_mem _ he))
    rw [List.foldl_cons]
    refine ⟨by omega, h2, fun e he => ?_, ?_⟩
    · rcases List.mem_cons.1 he with rfl | he
      · omega
      · exact h3 e he
    · rcases h4 with h4 | h4
      · by_cases hc : m ≤ d
        · exact .inl (by omega)
        · exact .inr (List.mem_cons.2 (.inl (by omega)))
      · exact .inr (List.mem_cons.2 (.inr h4))
theorem lapL_none {xs ys : List Int} (h : xs = [] ∨ ys = []) : lapL xs ys = -1 := by
  rw [lapL_fold]
  rcases h with rfl | rfl
  · rfl
  · have : distL xs [] = [] := by
      unfold distL
      induction xs with
      | nil => rfl
      | cons x xs ih => rw [List.flatMap_cons, ih]; rfl
    rw [this]
    rfl
theorem lapL_min {xs ys : List Int} (h1 : xs ≠ []) (h2 : ys ≠ []) : 0 ≤ lapL xs ys ∧ (∀ d ∈ distL xs ys, lapL xs ys ≤ d) ∧ lapL xs ys ∈ distL xs ys := by
  obtain ⟨x, xs', rfl⟩ := List.exists_cons_of_ne_nil h1
  obtain ⟨y, ys', rfl⟩ := List.exists_cons_of_ne_nil h2
  rw [lapL_fold]
  obtain ⟨d, ds, hds⟩ : ∃ d ds, distL (x :: xs') (y :: ys') = d :: ds := ⟨_, _, rfl⟩
  have hp : ∀ e ∈ d :: ds, 0 ≤ e := fun e he => dist_pos (xs := x :: xs') (ys := y :: ys') (by rw [hds]; exact he)
  rw [hds, List.foldl_cons]
  have hd0 := hp d (List.mem_cons_self ..)
  have e0 : minD (-1) d = d := by unfold minD; rw [if_pos (.inl (by omega))]
  rw [e0]
  obtain ⟨a1, a2, a3, a4⟩ := fold_min ds d hd0 (fun e he => hp e (List.mem_cons_of_mem _ he))
  refine ⟨a2, fun e he => ?_, ?_⟩
  · rcases List.mem_cons.1 he with rfl | he
    · exact a1
    · exact a3 e he
  · rcases a4 with a4 | a4
    · exact List.mem_cons.2 (.inl a4)
    · exact List.mem_cons.2 (.inr a4)
theorem lapL_flip (xs ys : List Int) : lapL xs ys = lapL ys xs := by
  by_cases h1 : xs = []
  · rw [lapL_none (.inl h1), lapL_none (.inr h1)]
  by_cases h2 : ys = []
  · rw [lapL_none (.inr h2), lapL_none (.inl h2)]
  obtain ⟨a1, a2, a3⟩ := lapL_min h1 h2
  obtain ⟨b1, b2, b3⟩ := lapL_min h2 h1
  have := a2 _ (dist_flip b3)
  have := b2 _ (dist_flip a3)
  omega
/-- Are all distances at least lap? -/
def apartL (xs ys : List Int) (lap : Int) : Bool := xs.all fun x => ys.all fun y => decide (lap ≤ max (x - y) (y - x))
theorem apartL_iff {xs ys : List Int} {lap : Int} : apartL xs ys lap = true ↔ ∀ d ∈ distL xs ys, lap ≤ d := by
  unfold apartL
  rw [List.all_eq_true]
  constructor
  · intro h d hd
    obtain ⟨x, hx, y, hy, rfl⟩ := dist_mem.1 hd
    exact of_decide_eq_true (List.all_eq_true.1 (h x hx) y hy)
  · intro h x hx
    rw [List.all_eq_true]
    intro y hy
    exact decide_eq_true (h _ (dist_mem.2 ⟨x, hx, y, hy, rfl⟩))
theorem apart_lap {xs ys : List Int} (h1 : xs ≠ []) (h2 : ys ≠ []) : apartL xs ys (lapL xs ys) = true ∧ apartL xs ys (lapL xs ys + 1) = false := by
  obtain ⟨a1, a2, a3⟩ := lapL_min h1 h2
  refine ⟨apartL_iff.2 a2, ?_⟩
  cases e : apartL xs ys (lapL xs ys + 1) with
  | false => rfl
  | true =>
    have := apartL_iff.1 e _ a3
    omega
theorem courseAt_turn {s : ByteArray} {zs : List Course} (h : bondOk s zs = true) (k : Nat) : courseAt zs ((k : Int) + (zs.length : Int)) = courseAt zs (k : Int) := by
  unfold courseAt
  rw [show ((k : Int) + (zs.length : Int)).toNat = k + zs.length from by omega, show ((k : Int)).toNat = k from by omega, Nat.add_mod_right]
end Go.Proofs.Ytfjnhocmkafnbaa
