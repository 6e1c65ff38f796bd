/-
  What is proved: an element of a slice of structs, cell by cell, in the walk's own spelling; a struct stored into an element. No program in sight. No conditions.
-/
import Derived.Test.YtgobpleckeeheaaRows2
namespace Go.Proofs.Ytgobpleckeeheaa
open Go.RowKit
set_option linter.unusedVariables false

theorem int_eq {a b : Int} (h : a = b) : Value.int .i64 a = .int .i64 b := by rw [h]
theorem grown_trans {a b c : World} {row : Option Nat} (h : a.grownBy b row) (k : b.grownBy c row) : a.grownBy c row :=
  ⟨k.os.trans h.os, k.tape.trans h.tape, k.output.trans h.output, Nat.le_trans h.size k.size, fun i hi hn => (k.block i (Nat.lt_of_lt_of_le hi h.size) hn).trans (h.block i hi hn)⟩
theorem grown_of_below {a b : World} {row : Option Nat} (h : Below a.heap.size a b) : a.grownBy b row := ⟨h.os, h.tape, h.output, h.size, fun i hi _ => h.block i hi⟩
theorem grown_below {a b : World} {g B : Nat} (h : a.grownBy b (some g)) (hg : B ≤ g) (hB : B ≤ a.heap.size) : Below B a b := (Below.refl _ _).grown h hB (fun k e => by injection e with e; omega)
theorem own_below {w w' : World} {base size n : Nat} {t : TypeId} {v : Value} {xs : List Value} (h : w.ownsRow base t size v n xs) (hb : Below w.heap.size w w') : w'.ownsRow base t size v n xs :=
  h.kept (row := none) (grown_of_below hb) (by cases v.ownBlock <;> simp)
theorem own_lt {w : World} {base size n c g : Nat} {t : TypeId} {xs : List Value} (h : w.ownsRow base t size (.slice (some ⟨g, 0, none⟩) n c) n xs) : base ≤ g ∧ g < w.heap.size := h.lt g rfl
theorem Row.at_ {α : Type} {enc : α → List Value} {k : Nat} {w : World} {A : Option Addr} {xs : List α} {i : Nat} {x : α} (h : Row enc k w A xs) (hi : xs[i]? = some x) :
    ∃ b off, A = some ⟨b, off, none⟩ ∧ b < w.heap.size ∧ ∀ j v, (enc x)[j]? = some v → w.cell? ⟨b, off + (i * k + j), none⟩ = some v := by
  obtain ⟨b, off, e, hlt, hc⟩ := h (by have := (List.getElem?_eq_some_iff.1 hi).1; omega)
  exact ⟨b, off, e, hlt, fun j v hv => hc i x hi j v hv⟩

theorem set_1 (L : List Value) (p : Nat) (v0 : Value) (h : p + 1 ≤ L.length) : L.set p v0 = L.take p ++ [v0] ++ L.drop (p + 1) := by
  rw [List.set_eq_take_append_cons_drop, if_pos (by omega)]
  simp
theorem row_at_1 {α : Type} {enc : α → List Value} {w : World} {A : Option Addr} {xs : List α} {i : Nat} {x : α} {v0 : Value} (h : Row enc 1 w A xs) (hi : xs[i]? = some x) (he : enc x = [v0]) :
    ∃ b off, A = some ⟨b, off, none⟩ ∧ b < w.heap.size ∧ w.cell? ⟨b, off + i, none⟩ = some v0 := by
  obtain ⟨b, off, e, hlt, hc⟩ := h.at_ hi
  rw [he] at hc
  refine ⟨b, off, e, hlt, ?_⟩
  · have := hc 0 v0 rfl
    simpa [Nat.add_assoc] using this
theorem own_at_1 {w : World} {base n c g i : Nat} {t : TypeId} {L : List Value} (h : w.ownsRow base t 1 (.slice (some ⟨g, 0, none⟩) n c) n L) (hi : i < n) :
    ∃ v0, w.cell? ⟨g, i, none⟩ = some v0 ∧ w.frozen? ⟨g, i, none⟩ = false := by
  have hl := h.1
  have hm : (i + 1) * 1 ≤ n * 1 := Nat.mul_le_mul_right 1 hi
  refine ⟨L[i]'(by omega), ?_, h.frozenAt _⟩
  · rw [h.cellAt (i) (by omega), List.getElem?_eq_getElem (by omega)]
theorem own_store_1 {w : World} {base n c g i : Nat} {t : TypeId} {L : List Value} (v0 : Value) (h : w.ownsRow base t 1 (.slice (some ⟨g, 0, none⟩) n c) n L) (hi : i < n) :
    World.ownsRow (w.setCell ⟨g, i, none⟩ v0) base t 1 (.slice (some ⟨g, 0, none⟩) n c) n (L.take (i) ++ [v0] ++ L.drop (i + 1)) ∧ w.grownBy (w.setCell ⟨g, i, none⟩ v0) (some g) := by
  have hl := h.1
  have hm : (i + 1) * 1 ≤ n * 1 := Nat.mul_le_mul_right 1 hi
  rw [← set_1 L (i) v0 (by omega)]
  have s0 := h.stored (i) v0
  exact ⟨s0.1, s0.2⟩

theorem set_2 (L : List Value) (p : Nat) (v0 v1 : Value) (h : p + 2 ≤ L.length) :
    ((L.set p v0).set (p + 1) v1) = L.take p ++ [v0, v1] ++ L.drop (p + 2) := by
  apply List.ext_getElem?
  intro i
  simp only [List.getElem?_set, List.length_set]
  rcases Nat.lt_or_ge i p with h1 | h1
  · rw [if_neg (by omega), if_neg (by omega), List.append_assoc, List.getElem?_append_left (by simp; omega), List.getElem?_take_of_lt h1]
  · rw [List.append_assoc, List.getElem?_append_right (by simp; omega)]
    have hl : (L.take p).length = p := by simp; omega
    rw [hl]
    rcases Nat.lt_or_ge i (p + 2) with h2 | h2
    · have h3 : i = p ∨ i = p + 1 := by omega
      rcases h3 with rfl | rfl
      · rw [if_neg (by omega), if_pos rfl, if_pos (by omega)]
        simp
      · rw [if_pos rfl, if_pos (by omega), show p + 1 - p = 1 from by omega]
        rfl
    · rw [if_neg (by omega), if_neg (by omega), List.getElem?_append_right (by simp; omega), List.getElem?_drop]
      congr 1
      simp
      omega
theorem row_at_2 {α : Type} {enc : α → List Value} {w : World} {A : Option Addr} {xs : List α} {i : Nat} {x : α} {v0 v1 : Value} (h : Row enc 2 w A xs) (hi : xs[i]? = some x) (he : enc x = [v0, v1]) :
    ∃ b off, A = some ⟨b, off, none⟩ ∧ b < w.heap.size ∧ w.cell? ⟨b, off + i * 2, none⟩ = some v0 ∧ w.cell? ⟨b, off + i * 2 + 1, none⟩ = some v1 := by
  obtain ⟨b, off, e, hlt, hc⟩ := h.at_ hi
  rw [he] at hc
  refine ⟨b, off, e, hlt, ?_, ?_⟩
  · have := hc 0 v0 rfl
    simpa [Nat.add_assoc] using this
  · have := hc 1 v1 rfl
    simpa [Nat.add_assoc] using this
theorem own_at_2 {w : World} {base n c g i : Nat} {t : TypeId} {L : List Value} (h : w.ownsRow base t 2 (.slice (some ⟨g, 0, none⟩) n c) n L) (hi : i < n) :
    ∃ v0 v1, w.cell? ⟨g, i * 2, none⟩ = some v0 ∧ w.cell? ⟨g, i * 2 + 1, none⟩ = some v1 ∧ w.frozen? ⟨g, i * 2, none⟩ = false ∧ w.frozen? ⟨g, i * 2 + 1, none⟩ = false := by
  have hl := h.1
  have hm : (i + 1) * 2 ≤ n * 2 := Nat.mul_le_mul_right 2 hi
  refine ⟨L[i * 2]'(by omega), L[i * 2 + 1]'(by omega), ?_, ?_, h.frozenAt _, h.frozenAt _⟩
  · rw [h.cellAt (i * 2) (by omega), List.getElem?_eq_getElem (by omega)]
  · rw [h.cellAt (i * 2 + 1) (by omega), List.getElem?_eq_getElem (by omega)]
theorem own_store_2 {w : World} {base n c g i : Nat} {t : TypeId} {L : List Value} (v0 v1 : Value) (h : w.ownsRow base t 2 (.slice (some ⟨g, 0, none⟩) n c) n L) (hi : i < n) :
    World.ownsRow ((w.setCell ⟨g, i * 2, none⟩ v0).setCell ⟨g, i * 2 + 1, none⟩ v1) base t 2 (.slice (some ⟨g, 0, none⟩) n c) n (L.take (i * 2) ++ [v0, v1] ++ L.drop (i * 2 + 2)) ∧ w.grownBy ((w.setCell ⟨g, i * 2, none⟩ v0).setCell ⟨g, i * 2 + 1, none⟩ v1) (some g) := by
  have hl := h.1
  have hm : (i + 1) * 2 ≤ n * 2 := Nat.mul_le_mul_right 2 hi
  rw [← set_2 L (i * 2) v0 v1 (by omega)]
  have s0 := h.stored (i * 2) v0
  have s1 := s0.1.stored (i * 2 + 1) v1
  exact ⟨s1.1, grown_trans (s0.2) s1.2⟩

theorem row_at_4 {α : Type} {enc : α → List Value} {w : World} {A : Option Addr} {xs : List α} {i : Nat} {x : α} {v0 v1 v2 v3 : Value} (h : Row enc 4 w A xs) (hi : xs[i]? = some x) (he : enc x = [v0, v1, v2, v3]) :
    ∃ b off, A = some ⟨b, off, none⟩ ∧ b < w.heap.size ∧ w.cell? ⟨b, off + i * 4, none⟩ = some v0 ∧ w.cell? ⟨b, off + i * 4 + 1, none⟩ = some v1 ∧ w.cell? ⟨b, off + i * 4 + 2, none⟩ = some v2 ∧ w.cell? ⟨b, off + i * 4 + 3, none⟩ = some v3 := by
  obtain ⟨b, off, e, hlt, hc⟩ := h.at_ hi
  rw [he] at hc
  refine ⟨b, off, e, hlt, ?_, ?_, ?_, ?_⟩
  · have := hc 0 v0 rfl
    simpa [Nat.add_assoc] using this
  · have := hc 1 v1 rfl
    simpa [Nat.add_assoc] using this
  · have := hc 2 v2 rfl
    simpa [Nat.add_assoc] using this
  · have := hc 3 v3 rfl
    simpa [Nat.add_assoc] using this
theorem own_at_4 {w : World} {base n c g i : Nat} {t : TypeId} {L : List Value} (h : w.ownsRow base t 4 (.slice (some ⟨g, 0, none⟩) n c) n L) (hi : i < n) :
    ∃ v0 v1 v2 v3, w.cell? ⟨g, i * 4, none⟩ = some v0 ∧ w.cell? ⟨g, i * 4 + 1, none⟩ = some v1 ∧ w.cell? ⟨g, i * 4 + 2, none⟩ = some v2 ∧ w.cell? ⟨g, i * 4 + 3, none⟩ = some v3 ∧ w.frozen? ⟨g, i * 4, none⟩ = false ∧ w.frozen? ⟨g, i * 4 + 1, none⟩ = false ∧ w.frozen? ⟨g, i * 4 + 2, none⟩ = false ∧ w.frozen? ⟨g, i * 4 + 3, none⟩ = false := by
  have hl := h.1
  have hm : (i + 1) * 4 ≤ n * 4 := Nat.mul_le_mul_right 4 hi
  refine ⟨L[i * 4]'(by omega), L[i * 4 + 1]'(by omega), L[i * 4 + 2]'(by omega), L[i * 4 + 3]'(by omega), ?_, ?_, ?_, ?_, h.frozenAt _, h.frozenAt _, h.frozenAt _, h.frozenAt _⟩
  · rw [h.cellAt (i * 4) (by omega), List.getElem?_eq_getElem (by omega)]
  · rw [h.cellAt (i * 4 + 1) (by omega), List.getElem?_eq_getElem (by omega)]
  · rw [h.cellAt (i * 4 + 2) (by omega), List.getElem?_eq_getElem (by omega)]
  · rw [h.cellAt (i * 4 + 3) (by omega), List.getElem?_eq_getElem (by omega)]
theorem own_store_4 {w : World} {base n c g i : Nat} {t : TypeId} {L : List Value} (v0 v1 v2 v3 : Value) (h : w.ownsRow base t 4 (.slice (some ⟨g, 0, none⟩) n c) n L) (hi : i < n) :
    World.ownsRow ((((w.setCell ⟨g, i * 4, none⟩ v0).setCell ⟨g, i * 4 + 1, none⟩ v1).setCell ⟨g, i * 4 + 2, none⟩ v2).setCell ⟨g, i * 4 + 3, none⟩ v3) base t 4 (.slice (some ⟨g, 0, none⟩) n c) n (L.take (i * 4) ++ [v0, v1, v2, v3] ++ L.drop (i * 4 + 4)) ∧ w.grownBy ((((w.setCell ⟨g, i * 4, none⟩ v0).setCell ⟨g, i * 4 + 1, none⟩ v1).setCell ⟨g, i * 4 + 2, none⟩ v2).setCell ⟨g, i * 4 + 3, none⟩ v3) (some g) := by
  have hl := h.1
  have hm : (i + 1) * 4 ≤ n * 4 := Nat.mul_le_mul_right 4 hi
  rw [← set_four L (i * 4) v0 v1 v2 v3 (by omega)]
  have s0 := h.stored (i * 4) v0
  have s1 := s0.1.stored (i * 4 + 1) v1
  have s2 := s1.1.stored (i * 4 + 2) v2
  have s3 := s2.1.stored (i * 4 + 3) v3
  exact ⟨s3.1, grown_trans (grown_trans (grown_trans (s0.2) s1.2) s2.2) s3.2⟩

theorem set_5 (L : List Value) (p : Nat) (v0 v1 v2 v3 v4 : Value) (h : p + 5 ≤ L.length) :
    (((((L.set p v0).set (p + 1) v1).set (p + 2) v2).set (p + 3) v3).set (p + 4) v4) = L.take p ++ [v0, v1, v2, v3, v4] ++ L.drop (p + 5) := by
  apply List.ext_getElem?
  intro i
  simp only [List.getElem?_set, List.length_set]
  rcases Nat.lt_or_ge i p with h1 | h1
  · rw [if_neg (by omega), if_neg (by omega), if_neg (by omega), if_neg (by omega), if_neg (by omega), List.append_assoc, List.getElem?_append_left (by simp; omega), List.getElem?_take_of_lt h1]
  · rw [List.append_assoc, List.getElem?_append_right (by simp; omega)]
    have hl : (L.take p).length = p := by simp; omega
    rw [hl]
    rcases Nat.lt_or_ge i (p + 5) with h2 | h2
    · have h3 : i = p ∨ i = p + 1 ∨ i = p + 2 ∨ i = p + 3 ∨ i = p + 4 := by omega
      rcases h3 with rfl | rfl | rfl | rfl | rfl
      · rw [if_neg (by omega), if_neg (by omega), if_neg (by omega), if_neg (by omega), if_pos rfl, if_pos (by omega)]
        simp
      · rw [if_neg (by omega), if_neg (by omega), if_neg (by omega), if_pos rfl, if_pos (by omega), show p + 1 - p = 1 from by omega]
        rfl
      · rw [if_neg (by omega), if_neg (by omega), if_pos rfl, if_pos (by omega), show p + 2 - p = 2 from by omega]
        rfl
      · rw [if_neg (by omega), if_pos rfl, if_pos (by omega), show p + 3 - p = 3 from by omega]
        rfl
      · rw [if_pos rfl, if_pos (by omega), show p + 4 - p = 4 from by omega]
        rfl
    · rw [if_neg (by omega), if_neg (by omega), if_neg (by omega), if_neg (by omega), if_neg (by omega), List.getElem?_append_right (by simp; omega), List.getElem?_drop]
      congr 1
      simp
      omega
theorem row_at_5 {α : Type} {enc : α → List Value} {w : World} {A : Option Addr} {xs : List α} {i : Nat} {x : α} {v0 v1 v2 v3 v4 : Value} (h : Row enc 5 w A xs) (hi : xs[i]? = some x) (he : enc x = [v0, v1, v2, v3, v4]) :
    ∃ b off, A = some ⟨b, off, none⟩ ∧ b < w.heap.size ∧ w.cell? ⟨b, off + i * 5, none⟩ = some v0 ∧ w.cell? ⟨b, off + i * 5 + 1, none⟩ = some v1 ∧ w.cell? ⟨b, off + i * 5 + 2, none⟩ = some v2 ∧ w.cell? ⟨b, off + i * 5 + 3, none⟩ = some v3 ∧ w.cell? ⟨b, off + i * 5 + 4, none⟩ = some v4 := by
  obtain ⟨b, off, e, hlt, hc⟩ := h.at_ hi
  rw [he] at hc
  refine ⟨b, off, e, hlt, ?_, ?_, ?_, ?_, ?_⟩
  · have := hc 0 v0 rfl
    simpa [Nat.add_assoc] using this
  · have := hc 1 v1 rfl
    simpa [Nat.add_assoc] using this
  · have := hc 2 v2 rfl
    simpa [Nat.add_assoc] using this
  · have := hc 3 v3 rfl
    simpa [Nat.add_assoc] using this
  · have := hc 4 v4 rfl
    simpa [Nat.add_assoc] using this
theorem own_at_5 {w : World} {base n c g i : Nat} {t : TypeId} {L : List Value} (h : w.ownsRow base t 5 (.slice (some ⟨g, 0, none⟩) n c) n L) (hi : i < n) :
    ∃ v0 v1 v2 v3 v4, w.cell? ⟨g, i * 5, none⟩ = some v0 ∧ w.cell? ⟨g, i * 5 + 1, none⟩ = some v1 ∧ w.cell? ⟨g, i * 5 + 2, none⟩ = some v2 ∧ w.cell? ⟨g, i * 5 + 3, none⟩ = some v3 ∧ w.cell? ⟨g, i * 5 + 4, none⟩ = some v4 ∧ w.frozen? ⟨g, i * 5, none⟩ = false ∧ w.frozen? ⟨g, i * 5 + 1, none⟩ = false ∧ w.frozen? ⟨g, i * 5 + 2, none⟩ = false ∧ w.frozen? ⟨g, i * 5 + 3, none⟩ = false ∧ w.frozen? ⟨g, i * 5 + 4, none⟩ = false := by
  have hl := h.1
  have hm : (i + 1) * 5 ≤ n * 5 := Nat.mul_le_mul_right 5 hi
  refine ⟨L[i * 5]'(by omega), L[i * 5 + 1]'(by omega), L[i * 5 + 2]'(by omega), L[i * 5 + 3]'(by omega), L[i * 5 + 4]'(by omega), ?_, ?_, ?_, ?_, ?_, h.frozenAt _, h.frozenAt _, h.frozenAt _, h.frozenAt _, h.frozenAt _⟩
  · rw [h.cellAt (i * 5) (by omega), List.getElem?_eq_getElem (by omega)]
  · rw [h.cellAt (i * 5 + 1) (by omega), List.getElem?_eq_getElem (by omega)]
  · rw [h.cellAt (i * 5 + 2) (by omega), List.getElem?_eq_getElem (by omega)]
  · rw [h.cellAt (i * 5 + 3) (by omega), List.getElem?_eq_getElem (by omega)]
  · rw [h.cellAt (i * 5 + 4) (by omega), List.getElem?_eq_getElem (by omega)]
theorem own_store_5 {w : World} {base n c g i : Nat} {t : TypeId} {L : List Value} (v0 v1 v2 v3 v4 : Value) (h : w.ownsRow base t 5 (.slice (some ⟨g, 0, none⟩) n c) n L) (hi : i < n) :
    World.ownsRow (((((w.setCell ⟨g, i * 5, none⟩ v0).setCell ⟨g, i * 5 + 1, none⟩ v1).setCell ⟨g, i * 5 + 2, none⟩ v2).setCell ⟨g, i * 5 + 3, none⟩ v3).setCell ⟨g, i * 5 + 4, none⟩ v4) base t 5 (.slice (some ⟨g, 0, none⟩) n c) n (L.take (i * 5) ++ [v0, v1, v2, v3, v4] ++ L.drop (i * 5 + 5)) ∧ w.grownBy (((((w.setCell ⟨g, i * 5, none⟩ v0).setCell ⟨g, i * 5 + 1, none⟩ v1).setCell ⟨g, i * 5 + 2, none⟩ v2).setCell ⟨g, i * 5 + 3, none⟩ v3).setCell ⟨g, i * 5 + 4, none⟩ v4) (some g) := by
  have hl := h.1
  have hm : (i + 1) * 5 ≤ n * 5 := Nat.mul_le_mul_right 5 hi
  rw [← set_5 L (i * 5) v0 v1 v2 v3 v4 (by omega)]
  have s0 := h.stored (i * 5) v0
  have s1 := s0.1.stored (i * 5 + 1) v1
  have s2 := s1.1.stored (i * 5 + 2) v2
  have s3 := s2.1.stored (i * 5 + 3) v3
  have s4 := s3.1.stored (i * 5 + 4) v4
  exact ⟨s4.1, grown_trans (grown_trans (grown_trans (grown_trans (s0.2) s1.2) s2.2) s3.2) s4.2⟩

end Go.Proofs.Ytgobpleckeeheaa
