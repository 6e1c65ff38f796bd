/-
  What is proved: equality of two lists of the kind Course, of the program and of the reference. Conditions: lengths that fit.
-/
import Derived.Test.YtgobpleckeeheaaDoorCourseS
import Derived.Test.YtgobpleckeeheaaDoorSameL
import Derived.Laws.StructEq
namespace Go.Proofs.YtgobpleckeeheaaDoor
open Go.RowKit
set_option linter.unusedVariables false

def Course.same (x y : Course) : Bool := x.lead.toList == y.lead.toList && (x.cycle.toList == y.cycle.toList)
theorem structCourse : Tryd.prog.underlying 33 = some (.struct (Tryd.prog.fieldsOf 33)) := by kernel_rfl
theorem stoodCourse : Tryd.prog.stoodInHeld 33 = false := by kernel_rfl
theorem guardCourse : Tryd.prog.eqGuardType Tryd.prog.depth 33 = false := by kernel_rfl
theorem neqCourse (x0 y0 : ByteArray) (x1 y1 : ByteArray) (w : World) : (binOp .neq 33 (.agg #[.string x0, .string x1]) (.agg #[.string y0, .string y1])).run Tryd.prog w = .ok (.bool (!(Course.same ⟨x0, x1⟩ ⟨y0, y1⟩))) w := by
  have us := Tryd.underlying9
  rw [run_neq_struct, show (10000 : Nat) = 9999 + 1 from rfl, run_equalIn_agg w 9999 33 _ _ structCourse stoodCourse]
  simp only [Program.fieldsOf, Tryd.underlying33]
  go_simp
  unfold Course.same
  by_cases h0 : x0.toList = y0.toList <;> by_cases h1 : x1.toList = y1.toList <;> simp [h0, h1]

end Go.Proofs.YtgobpleckeeheaaDoor
