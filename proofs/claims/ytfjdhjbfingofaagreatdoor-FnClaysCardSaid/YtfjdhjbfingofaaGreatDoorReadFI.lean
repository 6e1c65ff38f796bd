/-
  What is proved: a format and a mould read off texts by the program. Conditions: a length that fits; the library's own variables hold what they are laid with.
-/
import Derived.Test.YtfjdhjbfingofaaGreatDoorTexts
namespace Go.Proofs.YtfjdhjbfingofaaGreatDoor
open Go.RowKit Go.PlainAid
set_option linter.unusedVariables false

/-- What is read: four numbers, or none. -/
def QuadPost (o : Option (Int × Int × Int × Int)) (w : World) (e : Ending) (w' : World) : Prop :=
  Below w.heap.size w w' ∧ ((o = none ∧ e = .returned (.tuple #[.agg #[.int .i64 0, .int .i64 0, .int .i64 0, .int .i64 0], .bool false])) ∨ ∃ x y z j, o = some (x, y, z, j) ∧ e = .returned (.tuple #[.agg #[.int .i64 x, .int .i64 y, .int .i64 z, .int .i64 j], .bool true]))
theorem quad_no {o : Option (Int × Int × Int × Int)} {w w' : World} {e : Ending} (h : o = none) (he : e = .returned (.tuple #[.agg #[.int .i64 0, .int .i64 0, .int .i64 0, .int .i64 0], .bool false])) (hb : Below w.heap.size w w') : QuadPost o w e w' := ⟨hb, .inl ⟨h, he⟩⟩
theorem quad_yes {o : Option (Int × Int × Int × Int)} {w w' : World} {e : Ending} {x y z j : Int} (h : o = some (x, y, z, j)) (he : e = .returned (.tuple #[.agg #[.int .i64 x, .int .i64 y, .int .i64 z, .int .i64 j], .bool true])) (hb : Below w.heap.size w w') : QuadPost o w e w' := ⟨hb, .inr ⟨x, y, z, j, h, he⟩⟩
theorem cut_len (l sep : List UInt8) : (Lib.cut l sep).1.length ≤ l.length ∧ (Lib.cut l sep).2.1.length ≤ l.length := by
  unfold Lib.cut
  split
  · simp
    omega
  · simp
theorem cut_nil1 {c : UInt8} {sep : List UInt8} : Lib.cut [] (c :: sep) = ([], [], false) := by
  unfold Lib.cut
  have : Lib.index [] (c :: sep) = -1 := by
    unfold Lib.index
    simp
  rw [this]
  simp
theorem nums_nil : numsL 120 [] = none := nums_count (by decide)
theorem fmt_ne {l : List UInt8} {v : List Int} (h : numsL 120 (Lib.cut l [43]).1 = some v) : l ≠ [] := fun e => by
  subst e
  rw [cut_nil1, nums_nil] at h
  cases h
theorem mld_ne {l : List UInt8} {v : List Int} (h : numsL 120 (Lib.cut l usedL).1 = some v) : l ≠ [] := fun e => by
  subst e
  unfold usedL at h
  rw [cut_nil1, nums_nil] at h
  cases h
theorem fmtT_ne {s : ByteArray} {x y z j : Int} (hs : s.data.toList ≠ []) (h : ¬ (fmtB x y z j = true ∧ fText x y z j = s.data.toList)) : fmtT x y z j ≠ s := by
  intro e
  cases hb : fmtB x y z j with
  | false =>
    rw [fmtT_no hb] at e
    rw [← e] at hs
    exact hs rfl
  | true =>
    rw [fmtT_yes hb] at e
    exact h ⟨hb, by rw [← e, ba_data]⟩
theorem mldT_ne {s : ByteArray} {x y z j : Int} (hs : s.data.toList ≠ []) (h : ¬ (mldB x y z j = true ∧ mText x y z j = s.data.toList)) : mldT x y z j ≠ s := by
  intro e
  cases hb : mldB x y z j with
  | false =>
    rw [mldT_no hb] at e
    rw [← e] at hs
    exact hs rfl
  | true =>
    rw [mldT_yes hb] at e
    exact h ⟨hb, by rw [← e, ba_data]⟩
theorem fmtT_eq {s : ByteArray} {x y z j : Int} (h : fmtB x y z j = true ∧ fText x y z j = s.data.toList) : fmtT x y z j = s := by
  rw [fmtT_yes h.1, h.2, ba_of]
theorem mldT_eq {s : ByteArray} {x y z j : Int} (h : mldB x y z j = true ∧ mText x y z j = s.data.toList) : mldT x y z j = s := by
  rw [mldT_yes h.1, h.2, ba_of]
end Go.Proofs.YtfjdhjbfingofaaGreatDoor
