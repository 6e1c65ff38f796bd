/-
  What is proved: lists of strings in memory: marks, comparison. Conditions: lengths as named in each.
-/
import Derived.Test.YtgobpleckeeheaaDoorIntS
import Derived.Test.YtgobpleckeeheaaDoorMarkText
import Derived.Deep.RegionHeld3
namespace Go.Proofs.YtgobpleckeeheaaDoor
open Go.RowKit
set_option linter.unusedVariables false

def encS (x : ByteArray) : List Value := [.string x]
theorem flatS_push (xs : List ByteArray) (x : ByteArray) : flat encS xs ++ [.string x] = flat encS (xs ++ [x]) := by rw [flat_append]; rfl
theorem own_pushS {w : World} {base : Nat} {t : TypeId} {v : Value} {xs ys : List ByteArray} {x : ByteArray} (h : w.ownsRow base t 1 v (xs.length + 1) (flat encS xs ++ [.string x])) (hy : ys = xs ++ [x]) : w.ownsRow base t 1 v ys.length (flat encS ys) := by
  subst hy
  rw [← flatS_push, List.length_append]
  exact h
theorem info_Str : (Tryd.prog.info? 9).map (fun i => (i.zero, i.size, i.bytes)) = some (some (.string ⟨#[]⟩), 1, 16) := by kernel_rfl
theorem below_push2 {a wr w1 : World} {B : Nat} {v : Value} {o : Obj} {n : Nat} {L : List Value} {t : TypeId} {k : Nat} (hb : Below B a wr) (hB : B ≤ a.heap.size) (hown : wr.ownsRow B t k v n L) (hg : (wr.alloc o).grownBy w1 v.ownBlock) : Below B a w1 :=
  (hb.alloc (Nat.le_trans hB hb.size) o).grown hg (by have := hb.size; simp; omega) (fun j hj => (hown.lt j hj).1)
theorem own_empty_here (w : World) (base k : Nat) (t : TypeId) (g : Nat) (hg : w.heap.size = g) (hb : base ≤ w.heap.size) : (w.alloc (.cells #[] t)).ownsRow base t k (.slice (some ⟨g, 0, none⟩) 0 0) 0 [] := by
  subst hg
  exact own_empty w base k t hb
/-- The marked elements, from k0 on. -/
def marksStr (k0 : Int) (n : Nat) : List ByteArray := (List.range n).map fun i : Nat => markT (k0 + (i : Int))
theorem marksStr_at (k0 : Int) (n i : Nat) (h : i < n) : (marksStr k0 n)[i]? = some (markT (k0 + (i : Int))) := by
  unfold marksStr
  rw [List.getElem?_map, List.getElem?_range h]
  rfl
theorem marksStr_length (k0 : Int) (n : Nat) : (marksStr k0 n).length = n := by simp [marksStr]
end Go.Proofs.YtgobpleckeeheaaDoor
