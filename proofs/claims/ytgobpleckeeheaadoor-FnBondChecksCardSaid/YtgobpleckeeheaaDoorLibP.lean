/-
  What is proved: the library's texts, as a list, and the reference's own list of them. No conditions.
-/
import Derived.Test.YtgobpleckeeheaaDoorSplitW
namespace Go.Proofs.YtgobpleckeeheaaDoor
open Go.RowKit Go.PlainAid
set_option linter.unusedVariables false

def libL : List (List UInt8) := [[115, 116, 114, 101, 116, 99, 104, 101, 114, 32, 83, 32, 66, 43, 83], [104, 101, 97, 100, 101, 114, 32, 72, 32, 67, 43, 72], [101, 110, 103, 108, 105, 115, 104, 32, 83, 32, 72, 67, 43, 72], [102, 108, 101, 109, 105, 115, 104, 32, 83, 72, 32, 72, 67, 43, 83, 72], [103, 97, 114, 100, 101, 110, 32, 83, 32, 66, 43, 83, 32, 83, 32, 72, 67, 43, 72]]
def libB : List ByteArray := libL.map ba
def namesB : List ByteArray := [ba [115, 116, 114, 101, 116, 99, 104, 101, 114], ba [104, 101, 97, 100, 101, 114], ba [101, 110, 103, 108, 105, 115, 104], ba [102, 108, 101, 109, 105, 115, 104], ba [103, 97, 114, 100, 101, 110]]
theorem cell_lt {w : World} {b i : Nat} {v : Value} (h : w.cell? ⟨b, i, none⟩ = some v) : b < w.heap.size := by
  rcases Nat.lt_or_ge b w.heap.size with h1 | h1
  · exact h1
  · have e : w.heap[b]? = none := Array.getElem?_eq_none h1
    simp [World.cell?, e] at h
theorem row_built (w : World) (xs : List ByteArray) (t : TypeId) (g : Nat) (hg : w.heap.size = g) : Row encS 1 (w.alloc (.cells (xs.map Value.string).toArray t)) (some ⟨g, 0, none⟩) xs := fun _ => by
  subst hg
  refine ⟨w.heap.size, 0, rfl, by simp, fun i x hi j v hv => ?_⟩
  match j, hv with
  | 0, hv =>
    obtain rfl := Option.some.inj hv
    have hi' := hi
    simp [World.cell?_alloc_new, hi']
theorem own_lowS {w : World} {base base' size n : Nat} {t : TypeId} {v : Value} {xs : List Value} (h : w.ownsRow base t size v n xs) (hb : base' ≤ base) : w.ownsRow base' t size v n xs :=
  ⟨h.1, h.2.imp id fun ⟨g, cap, cur, h1, h2, h3⟩ => ⟨g, cap, cur, h1, Nat.le_trans hb h2, h3⟩⟩
theorem lib_at {k : Nat} {x : ByteArray} (h : libB[k]? = some x) : ∃ y, namesB[k]? = some y ∧ (splB 32 x)[0]? = some y ∧ x.size ≤ 100 := by
  match k, h with
  | 0, h => obtain rfl := Option.some.inj h; exact ⟨_, rfl, by kernel_rfl, by decide⟩
  | 1, h => obtain rfl := Option.some.inj h; exact ⟨_, rfl, by kernel_rfl, by decide⟩
  | 2, h => obtain rfl := Option.some.inj h; exact ⟨_, rfl, by kernel_rfl, by decide⟩
  | 3, h => obtain rfl := Option.some.inj h; exact ⟨_, rfl, by kernel_rfl, by decide⟩
  | 4, h => obtain rfl := Option.some.inj h; exact ⟨_, rfl, by kernel_rfl, by decide⟩
theorem spec_library (w : World) : Calls Tryd.prog 23 #[] w fun e w' => ∃ g, e = .returned (.slice (some ⟨g, 0, none⟩) 5 5) ∧ Row encS 1 w' (some ⟨g, 0, none⟩) libB ∧ Below w.heap.size w w' := by
  go_enter Tryd.func23, Tryd.ntmps23
  go_wp2
  go_ret
  exact ⟨_, rfl, row_built w libB _ _ rfl, (Below.refl _ _).alloc (Nat.le_refl _) _⟩
end Go.Proofs.YtgobpleckeeheaaDoor
