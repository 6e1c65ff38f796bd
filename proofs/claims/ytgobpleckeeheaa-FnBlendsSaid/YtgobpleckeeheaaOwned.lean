/-
  What is proved: lists that the call made, each in a range of blocks of its own; what touches one leaves the others. No program in sight. No conditions.
-/
import Derived.Test.YtgobpleckeeheaaOwn
namespace Go.Proofs.Ytgobpleckeeheaa
open Go.RowKit
set_option linter.unusedVariables false

/-- The slice (A, n, c) holds the list xs, in a block from lo on, below hi. -/
structure Own {α : Type} (t : TypeId) (k : Nat) (enc : α → List Value) (w : World) (lo hi : Nat) (A : Option Addr) (n c : Nat) (xs : List α) : Prop where
  len : xs.length = n
  own : w.ownsRow lo t k (.slice A n c) n (flat enc xs)
  up : ∀ a, A = some a → a.block < hi
  hi_le : hi ≤ w.heap.size
/-- Only blocks from lo on and below hi may have changed, and new blocks may have come. -/
structure Touch (lo hi : Nat) (w w' : World) : Prop where
  os : w'.os = w.os
  tape : w'.tape = w.tape
  output : w'.output = w.output
  size : w.heap.size ≤ w'.heap.size
  block : ∀ k, k < w.heap.size → k < lo ∨ hi ≤ k → w'.heap[k]? = w.heap[k]?
theorem Touch.refl (lo hi : Nat) (w : World) : Touch lo hi w w := ⟨rfl, rfl, rfl, Nat.le_refl _, fun _ _ _ => rfl⟩
theorem Touch.below {lo hi B : Nat} {w w' : World} (h : Touch lo hi w w') (h1 : B ≤ lo) (h2 : B ≤ w.heap.size) : Below B w w' :=
  ⟨h.os, h.tape, h.output, h.size, fun k hk => h.block k (by omega) (.inl (by omega))⟩
theorem Touch.of_grown {lo hi g : Nat} {w w' : World} (h : w.grownBy w' (some g)) (h1 : lo ≤ g) (h2 : g < hi) : Touch lo hi w w' :=
  ⟨h.os, h.tape, h.output, h.size, fun k hk hne => h.block k hk (by intro e; injection e with e; omega)⟩
section
variable {α : Type} {t : TypeId} {k : Nat} {enc : α → List Value} {w w' : World} {lo hi : Nat} {A : Option Addr} {n c : Nat} {xs : List α}
theorem Own.below (h : Own t k enc w lo hi A n c xs) (hb : Below w.heap.size w w') : Own t k enc w' lo hi A n c xs :=
  ⟨h.len, own_below h.own hb, h.up, Nat.le_trans h.hi_le hb.size⟩
theorem Own.row (hk : ∀ x, (enc x).length = k) (h : Own t k enc w lo hi A n c xs) : Row enc k w A xs := Row.of_own hk h.len h.own
theorem Own.touch {lo' hi' : Nat} (h : Own t k enc w lo hi A n c xs) (ht : Touch lo' hi' w w') (ha : hi ≤ lo' ∨ hi' ≤ lo) : Own t k enc w' lo hi A n c xs := by
  refine ⟨h.len, ⟨h.own.1, ?_⟩, h.up, Nat.le_trans h.hi_le ht.size⟩
  rcases h.own.2 with hv | ⟨g, cap, cur, hv, hb, hg, rest⟩
  · exact .inl hv
  · have hA : A = some ⟨g, 0, none⟩ := by injection hv
    have hup := h.up _ hA
    refine .inr ⟨g, cap, cur, hv, hb, ?_, rest⟩
    rw [ht.block g (Array.getElem?_eq_some_iff.1 hg).1 (by rcases ha with h1 | h1 <;> simp at hup <;> omega)]
    exact hg
theorem Own.nil (hlo : hi ≤ w.heap.size) : Own t k enc w lo hi none 0 0 ([] : List α) :=
  ⟨rfl, ⟨by simp [flat], .inl ⟨rfl, rfl⟩⟩, (fun a h => by cases h), hlo⟩
/-- Out of what the kit's laws leave. -/
theorem Own.of_row {v : Value} (hl : xs.length = n) (h : w.ownsRow lo t k v n (flat enc xs)) (hs : lo ≤ w.heap.size) : ∃ A c, v = .slice A n c ∧ Own t k enc w lo w.heap.size A n c xs := by
  rcases h.2 with ⟨rfl, h0⟩ | ⟨g, cap, cur, rfl, hb, hg, rest⟩
  · subst h0
    exact ⟨none, 0, rfl, hl, h, (fun a e => by cases e), Nat.le_refl _⟩
  · refine ⟨_, _, rfl, hl, h, fun a e => ?_, Nat.le_refl _⟩
    obtain rfl := Option.some.inj e
    exact (Array.getElem?_eq_some_iff.1 hg).1
/-- Where the list is empty or its head is a block of its own. -/
theorem Own.head (h : Own t k enc w lo hi A n c xs) : (A = none ∧ n = 0 ∧ c = 0) ∨ ∃ g, A = some ⟨g, 0, none⟩ ∧ lo ≤ g ∧ g < hi := by
  rcases h.own.2 with ⟨hv, h0⟩ | ⟨g, cap, cur, hv, hb, hg, rest⟩
  · injection hv with h1 h2 h3
    exact .inl ⟨h1, h2, h3⟩
  · have hA : A = some ⟨g, 0, none⟩ := by injection hv
    exact .inr ⟨g, hA, hb, h.up _ hA⟩
end
end Go.Proofs.Ytgobpleckeeheaa
