/-
  What is proved: the small lemmas of 3 of our texts, joined into one file: each part's own comment says what it proves and under which conditions.
-/
import Derived.Test.YtfjdhjbfingofaaGreatDoorJoinC
import Derived.Test.YtfjdhjbfingofaaGreatDoorShelf
import Derived.Lib.OwnBridge
import Derived.PlainAid
/-
  What is proved: the library's texts, as a list, and the reference's own list of them. No conditions.
-/
namespace Go.Proofs.YtfjdhjbfingofaaGreatDoor
open Go.RowKit Go.PlainAid
set_option linter.unusedVariables false

def libL : List (List UInt8) := [[115, 116, 114, 101, 116, 99, 104, 101, 114, 32, 83, 32, 66, 43, 83], [104, 101, 97, 100, 101, 114, 32, 72, 32, 67, 43, 72], [101, 110, 103, 108, 105, 115, 104, 32, 83, 32, 72, 67, 43, 72], [102, 108, 101, 109, 105, 115, 104, 32, 83, 72, 32, 72, 67, 43, 83, 72], [103, 97, 114, 100, 101, 110, 32, 83, 32, 66, 43, 83, 32, 83, 32, 72, 67, 43, 72]]
def libB : List ByteArray := libL.map ba
def namesB : List ByteArray := [ba [115, 116, 114, 101, 116, 99, 104, 101, 114], ba [104, 101, 97, 100, 101, 114], ba [101, 110, 103, 108, 105, 115, 104], ba [102, 108, 101, 109, 105, 115, 104], ba [103, 97, 114, 100, 101, 110]]
theorem cell_lt {w : World} {b i : Nat} {v : Value} (h : w.cell? ⟨b, i, none⟩ = some v) : b < w.heap.size := by
  rcases Nat.lt_or_ge b w.heap.size with h1 | h1
  · exact h1
  · have e : w.heap[b]? = none := Array.getElem?_eq_none h1
    simp [World.cell?, e] at h
theorem row_built (w : World) (xs : List ByteArray) (t : TypeId) (g : Nat) (hg : w.heap.size = g) : Row encS 1 (w.alloc (.cells (xs.map Value.string).toArray t)) (some ⟨g, 0, none⟩) xs := fun _ => by
  subst hg
  refine ⟨w.heap.size, 0, rfl, by simp, fun i x hi j v hv => ?_⟩
  match j, hv with
  | 0, hv =>
    obtain rfl := Option.some.inj hv
    have hi' := hi
    simp [World.cell?_alloc_new, hi']
theorem own_lowS {w : World} {base base' size n : Nat} {t : TypeId} {v : Value} {xs : List Value} (h : w.ownsRow base t size v n xs) (hb : base' ≤ base) : w.ownsRow base' t size v n xs :=
  ⟨h.1, h.2.imp id fun ⟨g, cap, cur, h1, h2, h3⟩ => ⟨g, cap, cur, h1, Nat.le_trans hb h2, h3⟩⟩
end Go.Proofs.YtfjdhjbfingofaaGreatDoor

/-
  What is proved: the names of the bonds of the library, of the program and of the reference. Condition: the program's table of texts lies in its block, the library's own variable holds some number.
-/
namespace Go.Proofs.YtfjdhjbfingofaaGreatDoor
open Go.RowKit Go.PlainAid
set_option linter.unusedVariables false

/-- The library's own variable holds some number. -/
def MaxLenIs (w : World) : Prop := ∃ m, w.cell? ⟨1, 0, none⟩ = some (.int .i64 m)
theorem MaxLenIs.below {w w' : World} (h : MaxLenIs w) (hz : 1 < w.heap.size) (hb : Below w.heap.size w w') : MaxLenIs w' := by
  obtain ⟨m, hm⟩ := h
  exact ⟨m, (hb.cell (p := ⟨1, 0, none⟩) hz).trans hm⟩
end Go.Proofs.YtfjdhjbfingofaaGreatDoor

/-
  What is proved: the words of a text (the parts between blanks that are not empty), of the program and of the reference. Condition: a length that fits; the library's own variable holds some number.
-/
namespace Go.Proofs.YtfjdhjbfingofaaGreatDoor
open Go.RowKit Go.PlainAid
set_option linter.unusedVariables false

theorem flatS_map (xs : List ByteArray) : flat encS xs = xs.map Value.string := by
  induction xs with
  | nil => rfl
  | cons x xs ih => simp only [flat, List.flatMap_cons, List.map_cons] at ih ⊢; rw [ih]; rfl
theorem own_builtS (w : World) (xs : List ByteArray) (t : TypeId) (n : Nat) (hn : xs.length = n) (hm : n ≤ maxLen) :
    (w.alloc (.cells (xs.map Value.string).toArray t)).ownsRow w.heap.size t 1 (.slice (some ⟨w.heap.size, 0, none⟩) n n) n (xs.map Value.string) :=
  ⟨by rw [List.length_map]; omega, .inr ⟨w.heap.size, n, (xs.map Value.string).toArray, rfl, Nat.le_refl _, (show (w.heap.push _)[w.heap.size]? = _ from Array.getElem?_push_size), Nat.le_refl _, hm, by simp; omega, by simp [List.take_of_length_le, hn]⟩⟩
def wordsB (s : ByteArray) : List ByteArray := (splB 32 s).filter fun x => !x.toList.isEmpty
theorem wordsB_le (s : ByteArray) : (wordsB s).length ≤ s.size + 1 := Nat.le_trans (List.length_filter_le _ _) (splB_length_le 32 s)
theorem split_at (c : UInt8) (s : ByteArray) (w : World) (hs : s.size ≤ 16777216) (hm : MaxLenIs w) :
    Calls Tryz.prog 51 #[.string s, .string ⟨#[c]⟩] w fun e w' => e = .returned (.slice (some ⟨w.heap.size, 0, none⟩) (splB c s).length (splB c s).length) ∧ w' = w.alloc (.cells ((splB c s).map Value.string).toArray 9) := by
  obtain ⟨m, hm⟩ := hm
  refine (Tryz.strings_Split s ⟨#[c]⟩ m w (by omega) hm (by show 1 ≤ 1; omega)).mono fun e w' ⟨he, hw⟩ => ?_
  have ec : Lib.countB s ⟨#[c]⟩ = s.data.toList.count c := Lib.count_one c _
  have e1 : Lib.splitB ⟨#[c]⟩ 0 (Lib.countB s ⟨#[c]⟩) s = splB c s := by
    unfold splB
    apply map_ba
    rw [Lib.splitB_data, ec]
    exact splitK_all (by rw [spl_length]; exact Nat.le_refl _)
  have e2 : (splB c s).length = Lib.countB s ⟨#[c]⟩ + 1 := by rw [ec]; unfold splB; rw [List.length_map, spl_length]
  rw [e1] at hw
  exact ⟨by rw [e2]; exact he, hw⟩
end Go.Proofs.YtfjdhjbfingofaaGreatDoor
