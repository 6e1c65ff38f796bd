/-
  What is proved: each name of the library names a valid bond of that name. No program in sight. No conditions.
-/
import Derived.Test.YtlokmkiicmpccaaDoorNamed
import Derived.Test.YtlokmkiicmpccaaDoorDrawB2
namespace Go.Proofs.YtlokmkiicmpccaaDoor
open Go.RowKit Go.PlainAid
set_option linter.unusedVariables false

theorem lib_name {i : Nat} {x : ByteArray} (h : libB[i]? = some x) : namesB[i]? = some (readN x) := by
  rw [readN_ok (lib_ok h)]
  match i, h with
  | 0, h => obtain rfl := Option.some.inj h; exact congrArg some (by kernel_rfl)
  | 1, h => obtain rfl := Option.some.inj h; exact congrArg some (by kernel_rfl)
  | 2, h => obtain rfl := Option.some.inj h; exact congrArg some (by kernel_rfl)
  | 3, h => obtain rfl := Option.some.inj h; exact congrArg some (by kernel_rfl)
  | 4, h => obtain rfl := Option.some.inj h; exact congrArg some (by kernel_rfl)
/-- A name that is found names its bond. -/
theorem named_found {s x : ByteArray} (h : namedT s = some x) : nameE s = 0 ∧ (nameN s).toList = s.toList ∧ bondOk (nameN s) (nameZ s) = true := by
  have hq : hitB s x = true := List.find?_some h
  obtain ⟨i, hi⟩ := List.getElem?_of_mem (List.mem_of_find?_eq_some h)
  refine ⟨by unfold nameE; rw [h], ?_, ?_⟩
  · unfold nameN
    rw [h]
    exact eq_of_beq hq
  · unfold nameN nameZ
    rw [h]
    exact lib_bond hi
theorem name_found {i : Nat} {s : ByteArray} (h : namesB[i]? = some s) : ∃ x, namedT s = some x := by
  have hi : i < libB.length := by
    have := (List.getElem?_eq_some_iff.1 h).1
    exact this
  have hx : libB[i]? = some libB[i] := List.getElem?_eq_getElem hi
  have hn := lib_name hx
  rw [h] at hn
  have e := Option.some.inj hn
  cases hf : namedT s with
  | some x => exact ⟨x, rfl⟩
  | none =>
    have := List.find?_eq_none.1 hf _ (List.mem_of_getElem? hx)
    unfold hitB at this
    rw [← e] at this
    simp at this
end Go.Proofs.YtlokmkiicmpccaaDoor
