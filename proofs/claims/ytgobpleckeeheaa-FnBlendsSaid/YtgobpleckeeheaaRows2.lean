/-
  What is proved: slices of structs in memory, as plain lists: what reads, what the call owns, what a store does. No program in sight. No conditions.
-/
import Derived.Test.YtgobpleckeeheaaArgs
import Derived.Laws.OwnMore
import Derived.Laws.MakeOwn
import Derived.Deep.Draws
namespace Go.Proofs.Ytgobpleckeeheaa
open Go.RowKit
set_option linter.unusedVariables false

/-- The cells of a list of structs. -/
def flat {α : Type} (enc : α → List Value) (xs : List α) : List Value := xs.flatMap enc
section
variable {α : Type} {enc : α → List Value} {k : Nat}
theorem flat_length (hk : ∀ x, (enc x).length = k) : ∀ xs : List α, (flat enc xs).length = xs.length * k
  | [] => by simp [flat]
  | x :: xs => by
    have := flat_length hk xs
    simp only [flat, List.flatMap_cons, List.length_append, List.length_cons] at this ⊢
    rw [this, hk, Nat.add_mul]
    omega
theorem flat_append (xs ys : List α) : flat enc (xs ++ ys) = flat enc xs ++ flat enc ys := by simp [flat]
theorem flat_at (hk : ∀ x, (enc x).length = k) : ∀ (xs : List α) (i j : Nat) (x : α), xs[i]? = some x → j < k → (flat enc xs)[i * k + j]? = (enc x)[j]?
  | [], i, j, x, h, _ => by simp at h
  | y :: ys, 0, j, x, h, hj => by
    simp only [List.getElem?_cons_zero, Option.some.injEq] at h
    subst h
    simp only [flat, List.flatMap_cons, Nat.zero_mul, Nat.zero_add]
    rw [List.getElem?_append_left (by rw [hk]; exact hj)]
  | y :: ys, i + 1, j, x, h, hj => by
    have ih := flat_at hk ys i j x (by simpa using h) hj
    simp only [flat, List.flatMap_cons] at ih ⊢
    rw [List.getElem?_append_right (by rw [hk, Nat.add_mul]; omega), hk]
    rw [show (i + 1) * k + j - k = i * k + j from by rw [Nat.add_mul]; omega]
    exact ih
theorem flat_take_succ (xs : List α) (i : Nat) (x : α) (h : xs[i]? = some x) : flat enc (xs.take (i + 1)) = flat enc (xs.take i) ++ enc x := by
  obtain ⟨hi, rfl⟩ := List.getElem?_eq_some_iff.1 h
  rw [List.take_succ_eq_append_getElem hi, flat_append]
  simp [flat]
end

/-- One element more of a copy that is being filled. -/
theorem fill_step {α : Type} {enc : α → List Value} {k : Nat} (hk : ∀ x, (enc x).length = k) (xs : List α) (i : Nat) (x : α) (Z : List Value) (h : xs[i]? = some x) :
    (flat enc (xs.take i) ++ Z).take (i * k) ++ enc x ++ (flat enc (xs.take i) ++ Z).drop (i * k + k) = flat enc (xs.take (i + 1)) ++ Z.drop k := by
  have hi : i < xs.length := (List.getElem?_eq_some_iff.1 h).1
  have hl : (flat enc (xs.take i)).length = i * k := by rw [flat_length hk]; simp; rw [Nat.min_eq_left (by omega)]
  rw [flat_take_succ xs i x h]
  congr 1
  · rw [List.take_append_of_le_length (by omega), List.take_of_length_le (by omega)]
  · rw [List.drop_append, List.drop_of_length_le (by omega), hl, List.nil_append, show i * k + k - i * k = k from by omega]

/-- A slice that reads as a list of structs of k cells. -/
def Row {α : Type} (enc : α → List Value) (k : Nat) (w : World) (A : Option Addr) (xs : List α) : Prop :=
  0 < xs.length → ∃ b off, A = some ⟨b, off, none⟩ ∧ b < w.heap.size ∧ ∀ i x, xs[i]? = some x → ∀ j v, (enc x)[j]? = some v → w.cell? ⟨b, off + (i * k + j), none⟩ = some v
section
variable {α : Type} {enc : α → List Value} {k : Nat} {w w' : World} {A : Option Addr} {xs : List α}
theorem Row.nil : Row enc k w A ([] : List α) := fun h => absurd h (by simp)
theorem Row.of_arg {wf : α → Prop} {n c : Nat} (h : ArgRow enc wf k w A n c xs) : Row enc k w A xs := fun hn => h.2.2.2.2 (by rw [← h.1]; exact hn)
theorem Row.below (h : Row enc k w A xs) (hb : Below w.heap.size w w') : Row enc k w' A xs := fun hn => by
  obtain ⟨b, off, e, hlt, hc⟩ := h hn
  exact ⟨b, off, e, Nat.lt_of_lt_of_le hlt hb.size, fun i x hi j v hv => (hb.cell (p := ⟨b, off + (i * k + j), none⟩) hlt).trans (hc i x hi j v hv)⟩
theorem Row.drewN (h : Row enc k w A xs) (m : Nat) : Row enc k (w.drewN m) A xs := h
/-- It lies in old memory. -/
theorem Row.lt (h : Row enc k w A xs) (hn : 0 < xs.length) : ∀ a, A = some a → a.block < w.heap.size := by
  intro a ha
  obtain ⟨b, off, e, hlt, _⟩ := h hn
  rw [e] at ha
  obtain rfl := Option.some.inj ha
  exact hlt
theorem Row.grown {row : Option Nat} (h : Row enc k w A xs) (hg : w.grownBy w' row) (hne : ∀ a g, A = some a → row = some g → a.block ≠ g) : Row enc k w' A xs := fun hn => by
  obtain ⟨b, off, e, hlt, hc⟩ := h hn
  have hbl : w'.heap[b]? = w.heap[b]? := hg.block b hlt (fun er => hne _ b e er.symm rfl)
  exact ⟨b, off, e, Nat.lt_of_lt_of_le hlt hg.size, fun i x hi j v hv => (World.cell?_of_block (w := w) (a := ⟨b, off + (i * k + j), none⟩) hbl).trans (hc i x hi j v hv)⟩
/-- What the call owns reads. -/
theorem Row.of_own {base : Nat} {t : TypeId} {n c : Nat} (hk : ∀ x, (enc x).length = k) (hl : xs.length = n) (h : w.ownsRow base t k (.slice A n c) n (flat enc xs)) : Row enc k w A xs := fun hn => by
  rcases h.2 with ⟨hv, h0⟩ | ⟨g, cap, cur, hv, hb, hg, hnc, hcm, hsz, htk⟩
  · omega
  · injection hv with hA _ hc
    subst hA
    subst hc
    have hlt : g < w.heap.size := (Array.getElem?_eq_some_iff.1 hg).1
    refine ⟨g, 0, rfl, hlt, fun i x hi j v hv => ?_⟩
    have hjk : j < k := by
      have := (List.getElem?_eq_some_iff.1 hv).1
      rwa [hk] at this
    have hil : i < n := by rw [← hl]; exact (List.getElem?_eq_some_iff.1 hi).1
    have hlt2 : i * k + j < n * k := by
      have : (i + 1) * k ≤ n * k := Nat.mul_le_mul_right k hil
      rw [Nat.add_mul] at this
      omega
    rw [Nat.zero_add, h.cellAt _ hlt2, flat_at hk xs i j x hi hjk, hv]
end

/-- Four cells stored one behind the other. -/
theorem set_four (L : List Value) (p : Nat) (a b c d : Value) (h : p + 4 ≤ L.length) :
    (((L.set p a).set (p + 1) b).set (p + 2) c).set (p + 3) d = L.take p ++ [a, b, c, d] ++ L.drop (p + 4) := by
  apply List.ext_getElem?
  intro i
  simp only [List.getElem?_set, List.length_set]
  rcases Nat.lt_or_ge i p with h1 | h1
  · rw [if_neg (by omega), if_neg (by omega), if_neg (by omega), if_neg (by omega), List.append_assoc, List.getElem?_append_left (by simp; omega), List.getElem?_take_of_lt h1]
  · rw [List.append_assoc, List.getElem?_append_right (by simp; omega)]
    have hl : (L.take p).length = p := by simp; omega
    rw [hl]
    rcases Nat.lt_or_ge i (p + 4) with h2 | h2
    · have h3 : i = p ∨ i = p + 1 ∨ i = p + 2 ∨ i = p + 3 := by omega
      rcases h3 with rfl | rfl | rfl | rfl
      · rw [if_neg (by omega), if_neg (by omega), if_neg (by omega), if_pos rfl, if_pos (by omega)]
        simp
      · rw [if_neg (by omega), if_neg (by omega), if_pos rfl, if_pos (by omega), show p + 1 - p = 1 from by omega]
        rfl
      · rw [if_neg (by omega), if_pos rfl, if_pos (by omega), show p + 2 - p = 2 from by omega]
        rfl
      · rw [if_pos rfl, if_pos (by omega), show p + 3 - p = 3 from by omega]
        rfl
    · rw [if_neg (by omega), if_neg (by omega), if_neg (by omega), if_neg (by omega), List.getElem?_append_right (by simp; omega), List.getElem?_drop]
      congr 1
      simp
      omega
end Go.Proofs.Ytgobpleckeeheaa
