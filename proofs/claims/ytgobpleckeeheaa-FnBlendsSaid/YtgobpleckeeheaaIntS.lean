/-
  What is proved: contracts of the laws' own functions on lists of whole numbers: the comparison of equal lists, the marks. Conditions: lengths as named in each.
-/
import Derived.Test.YtgobpleckeeheaaProg
import Derived.Test.YtgobpleckeeheaaOwned
import Derived.Handy
import Derived.Lib.Hide
import Derived.BigQuiet
import Derived.Deep.QuietTactic
import Derived.StillTailTactics
import Derived.WalkSpells
namespace Go.Proofs.Ytgobpleckeeheaa
open Go.RowKit
set_option linter.unusedVariables false

def encI (x : Int) : List Value := [.int .i64 x]
/-- An empty list that was just made: '[]T{}'. -/
theorem own_empty (w : World) (base k : Nat) (t : TypeId) (hb : base ≤ w.heap.size) : (w.alloc (.cells #[] t)).ownsRow base t k (.slice (some ⟨w.heap.size, 0, none⟩) 0 0) 0 [] :=
  ⟨by simp, .inr ⟨w.heap.size, 0, #[], rfl, hb, (show (w.heap.push (.cells #[] t))[w.heap.size]? = _ from Array.getElem?_push_size), Nat.le_refl _, by unfold maxLen; omega, by simp, by simp⟩⟩
theorem cell_new_at (w : World) (v : Value) (t : TypeId) (s : Nat) (hs : w.heap.size = s) : ∀ (j : Nat) (u : Value), [v][j]? = some u → (w.alloc (.cells #[v] t)).cell? ((⟨s, 0, none⟩ : Addr).add j) = some u := by
  subst hs
  exact cell_one_new w v t
theorem flatI_push (xs : List Int) (x : Int) : flat encI xs ++ [.int .i64 x] = flat encI (xs ++ [x]) := by rw [flat_append]; rfl
theorem own_push {w : World} {base : Nat} {t : TypeId} {v : Value} {xs ys : List Int} {x : Int} (h : w.ownsRow base t 1 v (xs.length + 1) (flat encI xs ++ [.int .i64 x])) (hy : ys = xs ++ [x]) : w.ownsRow base t 1 v ys.length (flat encI ys) := by
  subst hy
  rw [← flatI_push, List.length_append]
  exact h
theorem flatI_map (xs : List Int) : flat encI xs = xs.map (Value.int .i64) := by
  induction xs with
  | nil => rfl
  | cons x xs ih => simp only [flat, List.flatMap_cons, List.map_cons] at ih ⊢; rw [ih]; rfl
theorem made_ints (n : Nat) : (madeCells (Value.int .i64 0).cells (n * 1)).toList = flat encI (List.replicate n 0) := by
  rw [flatI_map, List.map_replicate]
  apply List.ext_getElem <;> simp [madeCells, Value.cells, Nat.mod_one]
theorem own_int_at {w : World} {base n c g i : Nat} {t : TypeId} {xs : List Int} {x : Int} (h : w.ownsRow base t 1 (.slice (some ⟨g, 0, none⟩) n c) n (flat encI xs)) (hi : xs[i]? = some x) :
    w.cell? ⟨g, i, none⟩ = some (.int .i64 x) ∧ w.frozen? ⟨g, i, none⟩ = false := by
  have hl := h.1
  have hx := (List.getElem?_eq_some_iff.1 hi).1
  rw [flatI_map, List.length_map] at hl
  refine ⟨?_, h.frozenAt _⟩
  rw [h.cellAt i (by omega), flatI_map, List.getElem?_map, hi]
  rfl
theorem own_int_set {w : World} {base n c g i : Nat} {t : TypeId} {xs : List Int} (y : Int) (h : w.ownsRow base t 1 (.slice (some ⟨g, 0, none⟩) n c) n (flat encI xs)) (hi : i < n) :
    World.ownsRow (w.setCell ⟨g, i, none⟩ (.int .i64 y)) base t 1 (.slice (some ⟨g, 0, none⟩) n c) n (flat encI (xs.set i y)) ∧ w.grownBy (w.setCell ⟨g, i, none⟩ (.int .i64 y)) (some g) := by
  have s0 := h.stored i (.int .i64 y)
  rw [flatI_map, ← List.map_set, ← flatI_map] at s0
  exact ⟨s0.1, s0.2⟩
theorem below_push {w wr w1 : World} {v : Value} {o : Obj} {n : Nat} {L : List Value} {t : TypeId} {k : Nat} (hb : Below w.heap.size w wr) (hown : wr.ownsRow w.heap.size t k v n L) (hg : (wr.alloc o).grownBy w1 v.ownBlock) : Below w.heap.size w w1 :=
  (hb.alloc hb.size o).grown hg (by have := hb.size; simp; omega) (fun j hj => (hown.lt j hj).1)
/-- The marked elements, from k0 on. -/
def marksInt (k0 : Int) (n : Nat) : List Int := (List.range n).map fun i : Nat => k0 + (i : Int)
theorem marksInt_at (k0 : Int) (n i : Nat) (h : i < n) : (marksInt k0 n)[i]? = some (k0 + (i : Int)) := by
  unfold marksInt
  rw [List.getElem?_map, List.getElem?_range h]
  rfl
theorem marksInt_length (k0 : Int) (n : Nat) : (marksInt k0 n).length = n := by simp [marksInt]
end Go.Proofs.Ytgobpleckeeheaa
