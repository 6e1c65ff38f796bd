/-
  What is proved: the text of a bond with one wrong word is short; two lists of six laid as blocks read as rows. Conditions: as named in each.
-/
import Derived.Test.YtgobpleckeeheaaDoorOneBad
import Derived.Test.YtgobpleckeeheaaDoorSrc2
namespace Go.Proofs.YtgobpleckeeheaaDoor
open Go.RowKit Go.PlainAid
set_option linter.unusedVariables false

theorem flat_len : ∀ (ws : List (List UInt8)), (∀ w ∈ ws, w.length ≤ 15) → (ws.flatMap fun w => 32 :: w).length ≤ 16 * ws.length
  | [], _ => by simp
  | w :: ws, h => by
    rw [List.flatMap_cons, List.length_append, List.length_cons, List.length_cons]
    have h1 := h w (List.mem_cons_self ..)
    have h2 := flat_len ws (fun v hv => h v (List.mem_cons_of_mem _ hv))
    omega
theorem courseL_short {c : Course} (h : c.ok = true) : (courseL c).length ≤ 15 := by
  obtain ⟨x, y⟩ := c
  obtain ⟨h1, -, ⟨h2, h3⟩, -⟩ := course_split h
  have e1 := data_size x
  have e2 := data_size y
  unfold courseL
  show ((if x.size = 0 then [] else x.data.toList ++ [43]) ++ y.data.toList).length ≤ 15
  rw [List.length_append, e2]
  split
  · simp only [List.length_nil]; omega
  · rw [List.length_append, e1, List.length_singleton]; omega
theorem oneT_size {s : ByteArray} {zs : List Course} {p i : Nat} {v : ByteArray} (h : bondOk s zs = true) (hs : s.size ≤ 24) (hv : v.size ≤ 9) : (oneT s zs p v i).size ≤ 152 := by
  have hl := (bond_len' h).2
  unfold oneT
  rw [ba_size, List.length_append, data_size]
  have hw : ∀ w ∈ ((zs.map courseL).set p v.data.toList).take i, w.length ≤ 15 := by
    intro w hw
    rcases List.mem_or_eq_of_mem_set (List.mem_of_mem_take hw) with hw | rfl
    · obtain ⟨c, hc, rfl⟩ := List.mem_map.1 hw
      obtain ⟨j, hj, rfl⟩ := List.getElem_of_mem hc
      exact courseL_short (bond_at h (List.getElem?_eq_getElem hj))
    · rw [data_size]; omega
  have h1 := flat_len _ hw
  have h2 : (((zs.map courseL).set p v.data.toList).take i).length ≤ zs.length := by
    rw [List.length_take, List.length_set, List.length_map]
    omega
  omega
theorem one_rest {c : Course} (h : c.ok = true) : (textB ⟨#[120]⟩ [c]).extract 1 (textB ⟨#[120]⟩ [c]).size = ba (32 :: courseL c) ∧ 2 ≤ (textB ⟨#[120]⟩ [c]).size ∧ (textB ⟨#[120]⟩ [c]).size ≤ 17 := by
  have e := one_text h
  have hs : (textB ⟨#[120]⟩ [c]).size = (courseL c).length + 2 := by
    rw [← data_size, e]
    simp
  have hl := courseL_short h
  refine ⟨?_, by omega, by omega⟩
  apply ByteArray.ext
  apply Array.toList_inj.1
  rw [part_data, List.take_of_length_le (by rw [data_size]; exact Nat.le_refl _), e]
  simp [ba]
/-- The two lists of six, as the law lays them. -/
theorem row_kinds {w : World} {g : Nat} (h : Blk w g 2 #[.int .i64 3, .int .i64 3, .int .i64 4, .int .i64 4, .int .i64 5, .int .i64 3]) : Row encI 1 w (some ⟨g, 0, none⟩) wrongK :=
  Row.of_own (base := g) (t := 2) (n := 6) (c := 6) (fun _ => rfl) rfl ⟨rfl, .inr ⟨g, 6, _, rfl, Nat.le_refl _, h, by decide, by decide, rfl, rfl⟩⟩
theorem row_words {w : World} {g : Nat} (h : Blk w g 9 #[.string ⟨#[120]⟩, .string ⟨#[83, 43, 83, 43, 83]⟩, .string ⟨#[43, 83]⟩, .string ⟨#[]⟩, .string ⟨#[67, 67, 67, 67, 67, 67, 67, 43, 83]⟩, .string ⟨#[67]⟩]) : Row encS 1 w (some ⟨g, 0, none⟩) wrongW :=
  Row.of_own (base := g) (t := 9) (n := 6) (c := 6) (fun _ => rfl) rfl ⟨rfl, .inr ⟨g, 6, _, rfl, Nat.le_refl _, h, by decide, by decide, rfl, rfl⟩⟩
end Go.Proofs.YtgobpleckeeheaaDoor
