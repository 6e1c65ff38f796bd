/-
  What is proved: the formats that the reference draws are valid, with bounds. Conditions: as for the source.
-/
import Derived.Test.YtgobpleckeeheaaDoorSrc2
import Derived.Deep.RegionHeld3
import Derived.WalkSpells
namespace Go.Proofs.YtgobpleckeeheaaDoor
open Go.RowKit
set_option linter.unusedVariables false

/-- What l02Draw leaves. -/
def DrawnF (w0 w : World) (b : Nat) (A : Option Addr) (n c k : Nat) (e : Ending) (w' : World) : Prop :=
  ∃ (l wd h j : Int) (k' : Nat), (90 ≤ wd ∧ wd ≤ 119 ∧ 0 ≤ j ∧ j ≤ 12 ∧ 50 ≤ h ∧ h ≤ 89 ∧ 2 * wd + j ≤ l ∧ l ≤ 2 * wd + j + 29) ∧
    e = .returned (.agg #[.int .i64 l, .int .i64 wd, .int .i64 h, .int .i64 j]) ∧ k' ≤ k + 10 ∧ Src w0 w' b A n c k' ∧ Only b w w'

/-- The format's cells, while it is drawn. -/
theorem four_cells {w : World} {g : Nat} {t : TypeId} {x0 x1 x2 x3 : Value} (h : Blk w g t #[x0, x1, x2, x3]) :
    w.cell? ⟨g, 0, none⟩ = some x0 ∧ w.cell? ⟨g, 1, none⟩ = some x1 ∧ w.cell? ⟨g, 2, none⟩ = some x2 ∧ w.cell? ⟨g, 3, none⟩ = some x3 ∧
    w.frozen? ⟨g, 0, none⟩ = false ∧ w.frozen? ⟨g, 1, none⟩ = false ∧ w.frozen? ⟨g, 2, none⟩ = false ∧ w.frozen? ⟨g, 3, none⟩ = false :=
  ⟨h.cell 0, h.cell 1, h.cell 2, h.cell 3, h.frozen 0, h.frozen 1, h.frozen 2, h.frozen 3⟩

end Go.Proofs.YtgobpleckeeheaaDoor
