/-
  What is proved: a bond as an argument reads as plain data; its size, copy and comparison by the laws' own functions. Conditions: lengths as named in each.
-/
import Derived.Test.YtlokmkiicmpccaaDoorCourseS
import Derived.Test.YtlokmkiicmpccaaDoorCourseSame
import Derived.Lib.SmallJoins
namespace Go.Proofs.YtlokmkiicmpccaaDoor
open Go.RowKit Go.ChangeShapes Go.WideShapes Go.Deep Go.Joins
set_option linter.unusedVariables false

theorem own_low {w : World} {base base' size n : Nat} {t : TypeId} {v : Value} {xs : List Value} (h : w.ownsRow base t size v n xs) (hb : base' ≤ base) : w.ownsRow base' t size v n xs :=
  ⟨h.1, h.2.imp id fun ⟨g, cap, cur, h1, h2, h3⟩ => ⟨g, cap, cur, h1, Nat.le_trans hb h2, h3⟩⟩
set_option maxHeartbeats 1000000 in
theorem eqBond_same (s : ByteArray) (A B : Option Addr) (n c d : Nat) (zs : List Course) (w : World) (hn : n ≤ 16777216) (hl : zs.length = n) (ha : Row Course.enc 2 w A zs) (hb : Row Course.enc 2 w B zs) :
    Calls Tryd.prog 16 #[.agg #[.string s, .slice A n c], .agg #[.string s, .slice B n d]] w fun e w' => e = .returned (.bool true) ∧ Below w.heap.size w w' := by
  have HA := hide ha
  have HB := hide hb
  have HL := hide hl
  clear ha hb hl
  go_enter Tryd.func16, Tryd.ntmps16
  have HB0 := hide (((Below.refl w.heap.size w).alloc (Nat.le_refl _) (.cells #[.string s, .slice A n c] 29)).alloc (by simp) (.cells #[.string s, .slice B n d] 29))
  go_wp2_with fail
  refine (eqCourseS_same _ _ _ _ _ zs _ hn HL.out (HA.out.below HB0.out) (HB.out.below HB0.out)).mono ?_
  rintro e w1 ⟨rfl, hb1⟩
  have HB1 := hide (HB0.out.trans (hb1.mono (by simp; omega)))
  clear hb1
  go_wp2
  go_ret
  exact ⟨rfl, HB1.out⟩
end Go.Proofs.YtlokmkiicmpccaaDoor
