/-
  What is proved: a list of structs that the call owns: what its cells hold, one element set anew, the cells as a source of an append. No program in sight. No conditions.
-/
import Derived.Test.YtgobpleckeeheaaOwned
import Derived.Laws.AppendOwn
namespace Go.Proofs.Ytgobpleckeeheaa
open Go.RowKit
set_option linter.unusedVariables false

theorem set_same {L : List Value} {p : Nat} {a : Value} (h : L[p]? = some a) : L.set p a = L := by
  apply List.ext_getElem?
  intro i
  rw [List.getElem?_set]
  split
  · rename_i e
    subst e
    split
    · exact h.symm
    · rename_i hn
      rw [List.getElem?_eq_none (by omega)]
  · rfl
theorem flat_set {α : Type} {enc : α → List Value} {k : Nat} (hk : ∀ x, (enc x).length = k) : ∀ (xs : List α) (i : Nat) (x : α), i < xs.length → flat enc (xs.set i x) = (flat enc xs).take (i * k) ++ enc x ++ (flat enc xs).drop (i * k + k)
  | y :: ys, 0, x, _ => by
    have hy := hk y
    show enc x ++ flat enc ys = (enc y ++ flat enc ys).take (0 * k) ++ enc x ++ (enc y ++ flat enc ys).drop (0 * k + k)
    rw [Nat.zero_mul, Nat.zero_add, List.take_zero, List.nil_append, ← hy, List.drop_left]
  | y :: ys, i + 1, x, h => by
    have hy := hk y
    have ih := flat_set hk ys i x (by simpa using h)
    show enc y ++ flat enc (ys.set i x) = (enc y ++ flat enc ys).take ((i + 1) * k) ++ enc x ++ (enc y ++ flat enc ys).drop ((i + 1) * k + k)
    rw [ih, Nat.succ_mul]
    generalize i * k = p
    have t1 : (enc y ++ flat enc ys).take (p + k) = enc y ++ (flat enc ys).take p := by rw [List.take_append, hy, List.take_of_length_le (by omega), show p + k - k = p by omega]
    have d1 : (enc y ++ flat enc ys).drop (p + k + k) = (flat enc ys).drop (p + k) := by rw [List.drop_append, hy, List.drop_of_length_le (by omega), show p + k + k - k = p + k by omega, List.nil_append]
    rw [t1, d1]
    simp only [List.append_assoc]
theorem row_news {α : Type} {enc : α → List Value} {k : Nat} {w : World} {ad : Addr} {xs : List α} (hk : ∀ x, (enc x).length = k) (hk0 : 0 < k) (h : Row enc k w (some ad) xs) : ∀ (j : Nat) (u : Value), (flat enc xs)[j]? = some u → w.cell? (ad.add j) = some u := by
  intro j u hj
  have hlt := (List.getElem?_eq_some_iff.1 hj).1
  rw [flat_length hk] at hlt
  have hi : j / k < xs.length := Nat.div_lt_of_lt_mul (by rwa [Nat.mul_comm])
  obtain ⟨x, hx⟩ : ∃ x, xs[j / k]? = some x := ⟨_, List.getElem?_eq_getElem hi⟩
  have hm : j % k < k := Nat.mod_lt _ hk0
  have e : j / k * k + j % k = j := by rw [Nat.mul_comm]; exact Nat.div_add_mod j k
  obtain ⟨b, off, he, hb, hc⟩ := h.at_ hx
  obtain rfl := Option.some.inj he
  have h1 := hc (j % k) u (by rw [← flat_at hk xs _ _ x hx hm, e]; exact hj)
  rw [e] at h1
  by_cases hj0 : j = 0
  · subst hj0
    simpa [Addr.add] using h1
  · simpa [Addr.add, hj0] using h1
theorem enc_oneCell {xs : List Mould} : ∀ u ∈ flat Mould.enc xs, u.oneCell' = true := by
  intro u hu
  obtain ⟨x, hx, hu⟩ := List.mem_flatMap.1 hu
  simp [Mould.enc] at hu
  rcases hu with rfl | rfl | rfl | rfl <;> rfl
theorem own_mould_at {w : World} {base n c g i : Nat} {t : TypeId} {xs : List Mould} {x0 x1 x2 x3 : Int} (h : w.ownsRow base t 4 (.slice (some ⟨g, 0, none⟩) n c) n (flat Mould.enc xs)) (hi : xs[i]? = some ⟨x0, x1, x2, x3⟩) :
    w.cell? ⟨g, i * 4, none⟩ = some (.int .i64 x0) ∧ w.cell? ⟨g, i * 4 + 1, none⟩ = some (.int .i64 x1) ∧ w.cell? ⟨g, i * 4 + 2, none⟩ = some (.int .i64 x2) ∧ w.cell? ⟨g, i * 4 + 3, none⟩ = some (.int .i64 x3) ∧
      w.frozen? ⟨g, i * 4, none⟩ = false ∧ w.frozen? ⟨g, i * 4 + 1, none⟩ = false ∧ w.frozen? ⟨g, i * 4 + 2, none⟩ = false ∧ w.frozen? ⟨g, i * 4 + 3, none⟩ = false := by
  have hl := h.1
  have hx := (List.getElem?_eq_some_iff.1 hi).1
  rw [flat_length (enc := Mould.enc) (k := 4) (fun _ => rfl)] at hl
  have hm : (i + 1) * 4 ≤ n * 4 := Nat.mul_le_mul_right 4 (by omega)
  have f := fun j hj => flat_at (enc := Mould.enc) (k := 4) (fun _ => rfl) xs i j _ hi hj
  refine ⟨?_, ?_, ?_, ?_, h.frozenAt _, h.frozenAt _, h.frozenAt _, h.frozenAt _⟩
  · rw [h.cellAt _ (by omega)]; exact f 0 (by omega)
  · rw [h.cellAt _ (by omega)]; exact f 1 (by omega)
  · rw [h.cellAt _ (by omega)]; exact f 2 (by omega)
  · rw [h.cellAt _ (by omega)]; exact f 3 (by omega)
theorem own_mould_set {w : World} {base n c g i : Nat} {t : TypeId} {xs : List Mould} (x0 x1 x2 x3 : Int) (h : w.ownsRow base t 4 (.slice (some ⟨g, 0, none⟩) n c) n (flat Mould.enc xs)) (hl : xs.length = n) (hi : i < n) :
    World.ownsRow ((((w.setCell ⟨g, i * 4, none⟩ (.int .i64 x0)).setCell ⟨g, i * 4 + 1, none⟩ (.int .i64 x1)).setCell ⟨g, i * 4 + 2, none⟩ (.int .i64 x2)).setCell ⟨g, i * 4 + 3, none⟩ (.int .i64 x3)) base t 4 (.slice (some ⟨g, 0, none⟩) n c) n (flat Mould.enc (xs.set i ⟨x0, x1, x2, x3⟩)) ∧
      w.grownBy ((((w.setCell ⟨g, i * 4, none⟩ (.int .i64 x0)).setCell ⟨g, i * 4 + 1, none⟩ (.int .i64 x1)).setCell ⟨g, i * 4 + 2, none⟩ (.int .i64 x2)).setCell ⟨g, i * 4 + 3, none⟩ (.int .i64 x3)) (some g) := by
  have s := own_store_4 (.int .i64 x0) (.int .i64 x1) (.int .i64 x2) (.int .i64 x3) h hi
  rw [flat_set (k := 4) (fun _ => rfl) xs i ⟨x0, x1, x2, x3⟩ (by omega)]
  exact s
theorem own_mould_use {w : World} {base n c g i : Nat} {t : TypeId} {xs : List Mould} {x0 x1 x2 x3 : Int} (y : Int) (h : w.ownsRow base t 4 (.slice (some ⟨g, 0, none⟩) n c) n (flat Mould.enc xs)) (hi : xs[i]? = some ⟨x0, x1, x2, x3⟩) :
    World.ownsRow (w.setCell ⟨g, i * 4 + 3, none⟩ (.int .i64 y)) base t 4 (.slice (some ⟨g, 0, none⟩) n c) n (flat Mould.enc (xs.set i ⟨x0, x1, x2, y⟩)) ∧ w.grownBy (w.setCell ⟨g, i * 4 + 3, none⟩ (.int .i64 y)) (some g) := by
  have hx := (List.getElem?_eq_some_iff.1 hi).1
  have f := fun j hj => flat_at (enc := Mould.enc) (k := 4) (fun _ => rfl) xs i j _ hi hj
  have s := h.stored (i * 4 + 3) (.int .i64 y)
  have hl := flat_length (enc := Mould.enc) (k := 4) (fun _ => rfl) xs
  have hm : (i + 1) * 4 ≤ xs.length * 4 := Nat.mul_le_mul_right 4 (by omega)
  have e : (flat Mould.enc xs).set (i * 4 + 3) (.int .i64 y) = flat Mould.enc (xs.set i ⟨x0, x1, x2, y⟩) := by
    rw [flat_set (k := 4) (fun _ => rfl) xs i ⟨x0, x1, x2, y⟩ hx]
    show _ = (flat Mould.enc xs).take (i * 4) ++ [.int .i64 x0, .int .i64 x1, .int .i64 x2, .int .i64 y] ++ (flat Mould.enc xs).drop (i * 4 + 4)
    rw [← set_four (flat Mould.enc xs) (i * 4) _ _ _ _ (by omega), set_same (show (flat Mould.enc xs)[i * 4]? = some (.int .i64 x0) from f 0 (by omega)), set_same (show (flat Mould.enc xs)[i * 4 + 1]? = some (.int .i64 x1) from f 1 (by omega)), set_same (show (flat Mould.enc xs)[i * 4 + 2]? = some (.int .i64 x2) from f 2 (by omega))]
  rw [e] at s
  exact ⟨s.1, s.2⟩
end Go.Proofs.Ytgobpleckeeheaa
