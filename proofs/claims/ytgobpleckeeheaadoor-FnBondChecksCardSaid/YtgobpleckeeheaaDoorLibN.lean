/-
  What is proved: the names of the bonds of the library, of the program and of the reference. Condition: the program's table of texts lies in its block, the library's own variable holds some number.
-/
import Derived.Test.YtgobpleckeeheaaDoorLibP
import Derived.Test.YtgobpleckeeheaaDoorShelf
namespace Go.Proofs.YtgobpleckeeheaaDoor
open Go.RowKit Go.PlainAid
set_option linter.unusedVariables false

/-- The library's own variable holds some number. -/
def MaxLenIs (w : World) : Prop := ∃ m, w.cell? ⟨0, 0, none⟩ = some (.int .i64 m)
theorem MaxLenIs.below {w w' : World} (h : MaxLenIs w) (hz : 0 < w.heap.size) (hb : Below w.heap.size w w') : MaxLenIs w' := by
  obtain ⟨m, hm⟩ := h
  exact ⟨m, (hb.cell (p := ⟨0, 0, none⟩) hz).trans hm⟩
theorem cut_is (s sep : ByteArray) (r : List UInt8 × List UInt8 × Bool) (w : World) (hr : Lib.cut s.data.toList sep.data.toList = r) (hs : s.size < 4294967281) (hm : MaxLenIs w) :
    Calls Tryd.prog 34 #[.string s, .string sep] w fun e w' => e = .returned (.tuple #[.string (ba r.1), .string (ba r.2.1), .bool r.2.2]) ∧ Below w.heap.size w w' := by
  subst hr
  obtain ⟨m, hm⟩ := hm
  exact (Tryd.strings_Cut s sep m w hs hm).mono fun e w' ⟨he, q, hq⟩ => ⟨he, by rw [hq]; exact below_drewN (Below.refl _ _) q⟩
end Go.Proofs.YtgobpleckeeheaaDoor
