/-
  What is proved: one field of one element of an owned list, set anew. No program in sight. No conditions.
-/
import Derived.Test.YtgobpleckeeheaaRowSet
namespace Go.Proofs.Ytgobpleckeeheaa
open Go.RowKit
set_option linter.unusedVariables false

theorem flat_set_cell {α : Type} {enc : α → List Value} {k : Nat} (hk : ∀ x, (enc x).length = k) : ∀ (xs : List α) (i j : Nat) (x y : α) (u : Value), xs[i]? = some x → j < k → enc y = (enc x).set j u → (flat enc xs).set (i * k + j) u = flat enc (xs.set i y)
  | z :: xs, 0, j, x, y, u, hx, hj, he => by
    obtain rfl : z = x := Option.some.inj hx
    show (enc z ++ flat enc xs).set (0 * k + j) u = enc y ++ flat enc xs
    rw [Nat.zero_mul, Nat.zero_add, List.set_append, if_pos (by rw [hk]; exact hj), he]
  | z :: xs, i + 1, j, x, y, u, hx, hj, he => by
    have ih := flat_set_cell hk xs i j x y u hx hj he
    show (enc z ++ flat enc xs).set ((i + 1) * k + j) u = enc z ++ flat enc (xs.set i y)
    rw [List.set_append, if_neg (by rw [hk, Nat.succ_mul]; omega), hk, show (i + 1) * k + j - k = i * k + j from by rw [Nat.succ_mul]; omega, ih]
theorem own_field {α : Type} {enc : α → List Value} {k : Nat} (hk : ∀ x, (enc x).length = k) {w : World} {base n c g i j : Nat} {t : TypeId} {xs : List α} {x y : α} (u : Value) (h : w.ownsRow base t k (.slice (some ⟨g, 0, none⟩) n c) n (flat enc xs)) (hi : xs[i]? = some x) (hj : j < k) (he : enc y = (enc x).set j u) :
    World.ownsRow (w.setCell ⟨g, i * k + j, none⟩ u) base t k (.slice (some ⟨g, 0, none⟩) n c) n (flat enc (xs.set i y)) ∧ w.grownBy (w.setCell ⟨g, i * k + j, none⟩ u) (some g) := by
  have s := h.stored (i * k + j) u
  rw [flat_set_cell hk xs i j x y u hi hj he] at s
  exact ⟨s.1, s.2⟩
theorem owns_low {w : World} {lo lo' k n : Nat} {t : TypeId} {v : Value} {L : List Value} (h : w.ownsRow lo t k v n L) (hle : lo' ≤ lo) : w.ownsRow lo' t k v n L := by
  refine ⟨h.1, ?_⟩
  rcases h.2 with hv | ⟨g, cap, cur, hv, hb, rest⟩
  · exact .inl hv
  · exact .inr ⟨g, cap, cur, hv, Nat.le_trans hle hb, rest⟩
theorem own_field_mould {w : World} {base n c g i j : Nat} {t : TypeId} {xs : List Mould} (v : Int) (h : w.ownsRow base t 4 (.slice (some ⟨g, 0, none⟩) n c) n (flat Mould.enc xs)) (hl : xs.length = n) (hi : i < n) (hj : j < 4) :
    ∃ y : Mould, World.ownsRow (w.setCell ⟨g, i * 4 + j, none⟩ (.int .i64 v)) base t 4 (.slice (some ⟨g, 0, none⟩) n c) n (flat Mould.enc (xs.set i y)) ∧ w.grownBy (w.setCell ⟨g, i * 4 + j, none⟩ (.int .i64 v)) (some g) := by
  obtain ⟨x, hx⟩ : ∃ x, xs[i]? = some x := ⟨xs[i]'(by omega), List.getElem?_eq_getElem (by omega)⟩
  match j, hj with
  | 0, _ => exact ⟨⟨v, x.w, x.h, x.u⟩, own_field (k := 4) (j := 0) (fun _ => rfl) _ h hx (by omega) rfl⟩
  | 1, _ => exact ⟨⟨x.l, v, x.h, x.u⟩, own_field (k := 4) (j := 1) (fun _ => rfl) _ h hx (by omega) rfl⟩
  | 2, _ => exact ⟨⟨x.l, x.w, v, x.u⟩, own_field (k := 4) (j := 2) (fun _ => rfl) _ h hx (by omega) rfl⟩
  | 3, _ => exact ⟨⟨x.l, x.w, x.h, v⟩, own_field (k := 4) (j := 3) (fun _ => rfl) _ h hx (by omega) rfl⟩
end Go.Proofs.Ytgobpleckeeheaa
