/-
  What is proved: equality of two lists of the kind Course, of the program and of the reference. Conditions: lengths that fit.
-/
import Derived.Test.YtfjnhocmkafnbaaCourseS
import Derived.Test.YtfjnhocmkafnbaaSameL
import Derived.Laws.StructEq
namespace Go.Proofs.Ytfjnhocmkafnbaa
open Go.RowKit
set_option linter.unusedVariables false

def Course.same (x y : Course) : Bool := x.lead.toList == y.lead.toList && (x.cycle.toList == y.cycle.toList)
theorem structCourse : Try.prog.underlying 129 = some (.struct (Try.prog.fieldsOf 129)) := by kernel_rfl
theorem stoodCourse : Try.prog.stoodInHeld 129 = false := by kernel_rfl
theorem guardCourse : Try.prog.eqGuardType Try.prog.depth 129 = false := by kernel_rfl
theorem neqCourse (x0 y0 : ByteArray) (x1 y1 : ByteArray) (w : World) : (binOp .neq 129 (.agg #[.string x0, .string x1]) (.agg #[.string y0, .string y1])).run Try.prog w = .ok (.bool (!(Course.same ⟨x0, x1⟩ ⟨y0, y1⟩))) w := by
  have us := Try.underlying9
  rw [run_neq_struct, show (10000 : Nat) = 9999 + 1 from rfl, run_equalIn_agg w 9999 129 _ _ structCourse stoodCourse]
  simp only [Program.fieldsOf, Try.underlying129]
  go_simp
  unfold Course.same
  by_cases h0 : x0.toList = y0.toList <;> by_cases h1 : x1.toList = y1.toList <;> simp [h0, h1]

end Go.Proofs.Ytfjnhocmkafnbaa
