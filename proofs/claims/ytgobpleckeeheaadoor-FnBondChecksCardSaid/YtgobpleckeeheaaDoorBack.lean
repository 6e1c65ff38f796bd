/-
  What is proved: the text of a valid bond has no problems and reads back as the bond. No program in sight. No conditions.
-/
import Derived.Test.YtgobpleckeeheaaDoorCheckI
import Derived.Test.YtgobpleckeeheaaDoorBondSame
namespace Go.Proofs.YtgobpleckeeheaaDoor
open Go.RowKit Go.PlainAid
set_option linter.unusedVariables false

theorem back_text {s : ByteArray} {zs : List Course} (h : bondOk s zs = true) : textB s zs = zs.foldl stepT s := by
  unfold textB
  rw [if_pos h]
theorem back_ok {s : ByteArray} {zs : List Course} (h : bondOk s zs = true) : okT (textB s zs) = true := by
  rw [okT_iff, back_text h, words_of h]
  exact noBad_of h
theorem back_name {s : ByteArray} {zs : List Course} (h : bondOk s zs = true) : readN (textB s zs) = s := by
  rw [readN_ok (back_ok h), back_text h, words_of h]
  exact ba_of s
theorem back_courses {s : ByteArray} {zs : List Course} (h : bondOk s zs = true) : readZ (textB s zs) = zs := by
  rw [readZ_ok (back_ok h), back_text h, words_of h]
  show (zs.map courseL).map courseOfL = zs
  rw [List.map_map]
  have key : ∀ z ∈ zs, (courseOfL ∘ courseL) z = z := fun z hz => by
    obtain ⟨i, hi, rfl⟩ := List.getElem_of_mem hz
    exact course_read (bond_at h (List.getElem?_eq_getElem hi))
  calc zs.map (courseOfL ∘ courseL) = zs.map id := List.map_congr_left key
    _ = zs := List.map_id _
theorem back_bads {s : ByteArray} {zs : List Course} (h : bondOk s zs = true) : badsP (textB s zs) = [] ∧ ¬ 400 < (textB s zs).size := by
  have h1 := okT_size (back_ok h)
  refine ⟨?_, by omega⟩
  unfold badsP
  rw [if_neg (by omega)]
  exact bads_nil.2 (back_ok h)
end Go.Proofs.YtgobpleckeeheaaDoor
