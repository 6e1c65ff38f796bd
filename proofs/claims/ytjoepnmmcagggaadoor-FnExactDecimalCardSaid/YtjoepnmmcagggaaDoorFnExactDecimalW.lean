/-
  What is proved: the law FnExactDecimal returns true and changes nothing that was there, for every number. Condition: the library's own table holds what its initialiser lays.
-/
import Derived.Test.YtjoepnmmcagggaaDoorNum
namespace Go.Proofs.YtjoepnmmcagggaaDoor
open Go.RowKit
set_option linter.unusedVariables false

theorem fnExactDecimalWalk (n : Int) (w : World) (wn : (Lit.int .i64 n).wf = true) (hp : Pow10 w) :
    Calls Tryd.prog 3 #[.int .i64 n] w fun e w' => e = .returned (.bool true) ∧ Below w.heap.size w w' := by
  have hb := i64_of wn
  have HP := hide hp
  have HB := hide hb
  have hne : ((decB n).toList != (decB n).toList) = false := by simp
  clear hp hb wn
  go_enter Tryd.func3, Tryd.ntmps3
  go_wp2_with fail
  refine (spec_decimal n _ HB.out).mono ?_
  rintro e w1 ⟨rfl, hb1⟩
  have B1 := hide hb1
  clear hb1
  go_wp2_with fail
  refine (impl_dec n _ HB.out (HP.out.below B1.out)).mono ?_
  rintro e w2 ⟨rfl, hb2⟩
  have B2 := hide (B1.out.trans (hb2.mono B1.out.size))
  clear hb2
  go_wp2
  go_ret
  exact ⟨rfl, B2.out⟩
end Go.Proofs.YtjoepnmmcagggaaDoor
