/-
  What is proved: helps for the law FnBonds: long codes, a bond is the same as itself, a valid bond is short. No conditions.
-/
import Derived.Test.YtlokmkiicmpccaaDoorA2B
import Derived.Test.YtlokmkiicmpccaaDoorBack
import Derived.Test.YtlokmkiicmpccaaDoorNameOk
import Derived.Test.YtlokmkiicmpccaaDoorFnExactReadBondW
namespace Go.Proofs.YtlokmkiicmpccaaDoor
open Go.RowKit Go.PlainAid
set_option linter.unusedVariables false

theorem a2Long_no (w : World) (A B : Option Addr) (n c m d : Nat) (h1 : n ≤ 3000) (h2 : m ≤ 3000) :
    Calls Tryd.prog 26 #[.slice A n c, .slice B m d] w fun e w' => e = .returned (.bool false) ∧ w = w' := by
  have d1 : decide (3000 < (n : Int)) = false := by simp; omega
  have d2 : decide (3000 < (m : Int)) = false := by simp; omega
  clear h1 h2
  go_enter Tryd.func26, Tryd.ntmps26
  go_wp2
  go_ret
  exact ⟨rfl, rfl⟩
theorem a2Long_yes (w : World) (A B : Option Addr) (n c m d : Nat) (h1 : 3000 < n) :
    Calls Tryd.prog 26 #[.slice A n c, .slice B m d] w fun e w' => e = .returned (.bool true) ∧ w = w' := by
  have d1 : decide (3000 < (n : Int)) = true := by simp; omega
  clear h1
  go_enter Tryd.func26, Tryd.ntmps26
  go_wp2
  go_ret
  exact ⟨rfl, rfl⟩
theorem bond_self (s : ByteArray) (zs : List Course) : bondSame s s zs zs = true := by
  unfold bondSame
  rw [beq_self_eq_true, sameL_self (fun x => by simp [Course.same])]
  rfl
theorem bond_texts {s : ByteArray} {zs : List Course} (h : bondOk s zs = true) : s.size ≤ maxLen ∧ zs.length ≤ 8 ∧ Texts zs := by
  have h1 := okT_size (back_ok h)
  have h2 := bond_len' h
  refine ⟨?_, h2.2, fun k z hz => ?_⟩
  · have : nameB s = true := by
      unfold bondOk at h
      rw [Bool.and_eq_true] at h
      exact h.1
    have := (of_decide_eq_true this).2.1
    unfold maxLen
    omega
  · obtain ⟨x, y⟩ := z
    obtain ⟨h3, -, h4, -⟩ := course_split (bond_at h hz)
    unfold maxLen
    constructor <;> simp <;> omega
end Go.Proofs.YtlokmkiicmpccaaDoor
