/-
  What is proved: plain facts on the comparison of two lists, element by element. No program in sight. No conditions.
-/
import Derived.Below
namespace Go.Proofs.Ytgobpleckeeheaa
set_option linter.unusedVariables false

def sameL {α : Type} (f : α → α → Bool) : List α → List α → Bool
  | [], [] => true
  | x :: xs, y :: ys => f x y && sameL f xs ys
  | _, _ => false
section
variable {α : Type} {f : α → α → Bool}
theorem sameL_len : ∀ {xs ys : List α}, xs.length ≠ ys.length → sameL f xs ys = false
  | [], [], h => absurd rfl h
  | [], _ :: _, _ => rfl
  | _ :: _, [], _ => rfl
  | x :: xs, y :: ys, h => by
    unfold sameL
    rw [sameL_len (xs := xs) (ys := ys) (by simpa using h), Bool.and_false]
theorem sameL_not : ∀ {xs ys : List α} {i : Nat} {x y : α}, xs[i]? = some x → ys[i]? = some y → f x y = false → sameL f xs ys = false
  | [], _, _, _, _, h, _, _ => by simp at h
  | _ :: _, [], _, _, _, _, h, _ => by simp at h
  | a :: xs, b :: ys, 0, x, y, h1, h2, hf => by
    simp at h1 h2
    subst h1 h2
    unfold sameL
    rw [hf, Bool.false_and]
  | a :: xs, b :: ys, i + 1, x, y, h1, h2, hf => by
    unfold sameL
    rw [sameL_not (i := i) (x := x) (y := y) (by simpa using h1) (by simpa using h2) hf, Bool.and_false]
theorem sameL_all : ∀ {xs ys : List α}, xs.length = ys.length → (∀ (i : Nat) (x y : α), xs[i]? = some x → ys[i]? = some y → f x y = true) → sameL f xs ys = true
  | [], [], _, _ => rfl
  | [], _ :: _, h, _ => by simp at h
  | _ :: _, [], h, _ => by simp at h
  | a :: xs, b :: ys, h, hf => by
    unfold sameL
    rw [hf 0 a b rfl rfl, Bool.true_and]
    exact sameL_all (by simpa using h) (fun i x y h1 h2 => hf (i + 1) x y (by simpa using h1) (by simpa using h2))
theorem same_more {xs ys : List α} {k : Nat} {a b : α} (h : ∀ (j : Nat) (x y : α), j < k → xs[j]? = some x → ys[j]? = some y → f x y = true) (hx : xs[k]? = some a) (hy : ys[k]? = some b) (hf : f a b = true) :
    ∀ (j : Nat) (x y : α), j < k + 1 → xs[j]? = some x → ys[j]? = some y → f x y = true := by
  intro j x y hj h1 h2
  by_cases e : j = k
  · subst e
    rw [hx] at h1
    rw [hy] at h2
    obtain rfl := Option.some.inj h1
    obtain rfl := Option.some.inj h2
    exact hf
  · exact h j x y (by omega) h1 h2
theorem sameL_self (h : ∀ x, f x x = true) (xs : List α) : sameL f xs xs = true :=
  sameL_all rfl (fun i x y h1 h2 => by
    rw [h1] at h2
    obtain rfl := Option.some.inj h2
    exact h x)
end

section
variable {α : Type} {f : α → Bool} {zs : List α}
theorem all_more {k : Nat} {a : α} (h : ∀ (j : Nat) (x : α), j < k → zs[j]? = some x → f x = true) (hx : zs[k]? = some a) (hf : f a = true) :
    ∀ (j : Nat) (x : α), j < k + 1 → zs[j]? = some x → f x = true := by
  intro j x hj h1
  by_cases e : j = k
  · subst e
    rw [hx] at h1
    obtain rfl := Option.some.inj h1
    exact hf
  · exact h j x (by omega) h1
theorem all_not {k : Nat} {a : α} (hx : zs[k]? = some a) (hf : f a = false) : zs.all f = false := by
  rw [List.all_eq_false]
  exact ⟨a, List.mem_of_getElem? hx, by simp [hf]⟩
theorem all_yes (h : ∀ (j : Nat) (x : α), zs[j]? = some x → f x = true) : zs.all f = true := by
  rw [List.all_eq_true]
  intro x hx
  obtain ⟨i, hi⟩ := List.getElem?_of_mem hx
  exact h i x hi
end
end Go.Proofs.Ytgobpleckeeheaa
