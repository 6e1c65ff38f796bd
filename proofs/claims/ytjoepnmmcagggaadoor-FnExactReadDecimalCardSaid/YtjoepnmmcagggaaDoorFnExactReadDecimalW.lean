/-
  What is proved: the law FnExactReadDecimal returns true and changes nothing that was there, for every text. Conditions: the library's own table holds what its initialiser lays, its error variable holds some error.
-/
import Derived.Test.YtjoepnmmcagggaaDoorNum
namespace Go.Proofs.YtjoepnmmcagggaaDoor
open Go.RowKit
set_option linter.unusedVariables false

theorem spec_readDec (s : ByteArray) (w : World) (hs : s.size ≤ 16777216) :
    Calls Tryd.prog 30 #[.string s] w fun e w' => e = .returned (.tuple #[.int .i64 (numV s), .bool (numB s)]) ∧ Below w.heap.size w w' := by
  go_enter Tryd.func30, Tryd.ntmps30
  go_wp2_with fail
  refine (spec_num s _ hs).mono ?_
  rintro e w1 ⟨rfl, hb1⟩
  have B1 := hide hb1
  clear hb1
  go_wp2
  go_ret2
  exact ⟨rfl, B1.out⟩
theorem fnExactReadDecimalWalk (s : ByteArray) (w : World) (ws : s.size ≤ maxLen) (hT : Pow10 w ∧ ErrSyn w) :
    Calls Tryd.prog 8 #[.string s] w fun e w' => e = .returned (.bool true) ∧ Below w.heap.size w w' := by
  have HP := hide hT.1
  have HY := hide hT.2
  clear hT
  by_cases h : 1048576 < s.size
  · have hd : decide (1048576 < (s.size : Int)) = true := by simp; omega
    go_enter Tryd.func8, Tryd.ntmps8
    go_wp2
    go_ret
    exact ⟨rfl, Below.refl _ _⟩
  have hd : decide (1048576 < (s.size : Int)) = false := by simp; omega
  have hs : s.size ≤ 16777216 := by omega
  obtain ⟨v, hv⟩ : ∃ v, numV s = v := ⟨_, rfl⟩
  obtain ⟨b, hb⟩ : ∃ b, numB s = b := ⟨_, rfl⟩
  have HV := hide hv
  have HB := hide hb
  clear hv hb h ws
  go_enter Tryd.func8, Tryd.ntmps8
  go_wp2_with fail
  refine (spec_readDec s _ hs).mono ?_
  rintro e w1 ⟨rfl, hb1⟩
  rw [HV.out, HB.out]
  have B1 := hide hb1
  clear hb1
  go_wp2_with fail
  refine (impl_readDec s _ hs (HP.out.below B1.out) (HY.out.below B1.out)).mono ?_
  rintro e w2 ⟨rfl, hb2⟩
  rw [HV.out, HB.out]
  have B2 := hide (B1.out.trans (hb2.mono B1.out.size))
  clear hb2
  cases b
  all_goals
    go_wp2
    go_ret
    exact ⟨rfl, B2.out⟩
end Go.Proofs.YtjoepnmmcagggaaDoor
