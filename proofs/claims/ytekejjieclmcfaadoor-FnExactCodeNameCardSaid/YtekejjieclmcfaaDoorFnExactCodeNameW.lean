/-
  What is proved: impl.CodeName and spec.CodeName give the same word for every code, where the table of the program holds its words. Condition: that table.
-/
import Derived.Test.YtekejjieclmcfaaDoorProg
import Derived.Test.YtekejjieclmcfaaDoorPlain
import Derived.Handy
namespace Go.Proofs.YtekejjieclmcfaaDoor
open Go.RowKit
set_option linter.unusedVariables false

/-- The words of the table. -/
def codeWords : List (List UInt8) := [[111, 107], [105, 110, 118, 97, 108, 105, 100], [114, 97, 110, 103, 101], [110, 111, 116, 45, 102, 111, 117, 110, 100], [101, 120, 105, 115, 116, 115], [102, 117, 108, 108], [115, 116, 97, 116, 101], [115, 121, 110, 116, 97, 120], [102, 111, 114, 109, 97, 116], [99, 108, 97, 115, 104], [99, 114, 97, 99, 107, 101, 100]]
/-- The name of a code. -/
def codeName (k : Int) : ByteArray := if k = 0 then ⟨#[111, 107]⟩ else if k = 1 then ⟨#[105, 110, 118, 97, 108, 105, 100]⟩ else if k = 2 then ⟨#[114, 97, 110, 103, 101]⟩ else if k = 3 then ⟨#[110, 111, 116, 45, 102, 111, 117, 110, 100]⟩ else if k = 4 then ⟨#[101, 120, 105, 115, 116, 115]⟩ else if k = 5 then ⟨#[102, 117, 108, 108]⟩ else if k = 6 then ⟨#[115, 116, 97, 116, 101]⟩ else if k = 7 then ⟨#[115, 121, 110, 116, 97, 120]⟩ else if k = 8 then ⟨#[102, 111, 114, 109, 97, 116]⟩ else if k = 9 then ⟨#[99, 108, 97, 115, 104]⟩ else if k = 10 then ⟨#[99, 114, 97, 99, 107, 101, 100]⟩ else ⟨#[]⟩
/-- The table lies in block g. -/
def CodeTab (w : World) (g : Nat) : Prop := ∀ i, i < 11 → w.cell? ⟨g, i, none⟩ = some (.string ⟨(codeWords.getD i []).toArray⟩)

theorem impl_codeName0 (w : World) (hT : CodeTab w 0) : Calls Tryd.prog 5 #[.int .i64 0] w fun e w' => e = .returned (.string (codeName 0)) ∧ Below w.heap.size w w' := by
  have h0 : w.cell? ⟨0, 0, none⟩ = some (.string ⟨#[111, 107]⟩) := hT 0 (by omega)
  clear hT
  go_enter Tryd.func5, Tryd.ntmps5
  go_wp2
  go_ret
  exact ⟨rfl, by go_grown⟩
theorem impl_codeName1 (w : World) (hT : CodeTab w 0) : Calls Tryd.prog 5 #[.int .i64 1] w fun e w' => e = .returned (.string (codeName 1)) ∧ Below w.heap.size w w' := by
  have h0 : w.cell? ⟨0, 1, none⟩ = some (.string ⟨#[105, 110, 118, 97, 108, 105, 100]⟩) := hT 1 (by omega)
  clear hT
  go_enter Tryd.func5, Tryd.ntmps5
  go_wp2
  go_ret
  exact ⟨rfl, by go_grown⟩
theorem impl_codeName2 (w : World) (hT : CodeTab w 0) : Calls Tryd.prog 5 #[.int .i64 2] w fun e w' => e = .returned (.string (codeName 2)) ∧ Below w.heap.size w w' := by
  have h0 : w.cell? ⟨0, 2, none⟩ = some (.string ⟨#[114, 97, 110, 103, 101]⟩) := hT 2 (by omega)
  clear hT
  go_enter Tryd.func5, Tryd.ntmps5
  go_wp2
  go_ret
  exact ⟨rfl, by go_grown⟩
theorem impl_codeName3 (w : World) (hT : CodeTab w 0) : Calls Tryd.prog 5 #[.int .i64 3] w fun e w' => e = .returned (.string (codeName 3)) ∧ Below w.heap.size w w' := by
  have h0 : w.cell? ⟨0, 3, none⟩ = some (.string ⟨#[110, 111, 116, 45, 102, 111, 117, 110, 100]⟩) := hT 3 (by omega)
  clear hT
  go_enter Tryd.func5, Tryd.ntmps5
  go_wp2
  go_ret
  exact ⟨rfl, by go_grown⟩
theorem impl_codeName4 (w : World) (hT : CodeTab w 0) : Calls Tryd.prog 5 #[.int .i64 4] w fun e w' => e = .returned (.string (codeName 4)) ∧ Below w.heap.size w w' := by
  have h0 : w.cell? ⟨0, 4, none⟩ = some (.string ⟨#[101, 120, 105, 115, 116, 115]⟩) := hT 4 (by omega)
  clear hT
  go_enter Tryd.func5, Tryd.ntmps5
  go_wp2
  go_ret
  exact ⟨rfl, by go_grown⟩
theorem impl_codeName5 (w : World) (hT : CodeTab w 0) : Calls Tryd.prog 5 #[.int .i64 5] w fun e w' => e = .returned (.string (codeName 5)) ∧ Below w.heap.size w w' := by
  have h0 : w.cell? ⟨0, 5, none⟩ = some (.string ⟨#[102, 117, 108, 108]⟩) := hT 5 (by omega)
  clear hT
  go_enter Tryd.func5, Tryd.ntmps5
  go_wp2
  go_ret
  exact ⟨rfl, by go_grown⟩
theorem impl_codeName6 (w : World) (hT : CodeTab w 0) : Calls Tryd.prog 5 #[.int .i64 6] w fun e w' => e = .returned (.string (codeName 6)) ∧ Below w.heap.size w w' := by
  have h0 : w.cell? ⟨0, 6, none⟩ = some (.string ⟨#[115, 116, 97, 116, 101]⟩) := hT 6 (by omega)
  clear hT
  go_enter Tryd.func5, Tryd.ntmps5
  go_wp2
  go_ret
  exact ⟨rfl, by go_grown⟩
theorem impl_codeName7 (w : World) (hT : CodeTab w 0) : Calls Tryd.prog 5 #[.int .i64 7] w fun e w' => e = .returned (.string (codeName 7)) ∧ Below w.heap.size w w' := by
  have h0 : w.cell? ⟨0, 7, none⟩ = some (.string ⟨#[115, 121, 110, 116, 97, 120]⟩) := hT 7 (by omega)
  clear hT
  go_enter Tryd.func5, Tryd.ntmps5
  go_wp2
  go_ret
  exact ⟨rfl, by go_grown⟩
theorem impl_codeName8 (w : World) (hT : CodeTab w 0) : Calls Tryd.prog 5 #[.int .i64 8] w fun e w' => e = .returned (.string (codeName 8)) ∧ Below w.heap.size w w' := by
  have h0 : w.cell? ⟨0, 8, none⟩ = some (.string ⟨#[102, 111, 114, 109, 97, 116]⟩) := hT 8 (by omega)
  clear hT
  go_enter Tryd.func5, Tryd.ntmps5
  go_wp2
  go_ret
  exact ⟨rfl, by go_grown⟩
theorem impl_codeName9 (w : World) (hT : CodeTab w 0) : Calls Tryd.prog 5 #[.int .i64 9] w fun e w' => e = .returned (.string (codeName 9)) ∧ Below w.heap.size w w' := by
  have h0 : w.cell? ⟨0, 9, none⟩ = some (.string ⟨#[99, 108, 97, 115, 104]⟩) := hT 9 (by omega)
  clear hT
  go_enter Tryd.func5, Tryd.ntmps5
  go_wp2
  go_ret
  exact ⟨rfl, by go_grown⟩
theorem impl_codeName10 (w : World) (hT : CodeTab w 0) : Calls Tryd.prog 5 #[.int .i64 10] w fun e w' => e = .returned (.string (codeName 10)) ∧ Below w.heap.size w w' := by
  have h0 : w.cell? ⟨0, 10, none⟩ = some (.string ⟨#[99, 114, 97, 99, 107, 101, 100]⟩) := hT 10 (by omega)
  clear hT
  go_enter Tryd.func5, Tryd.ntmps5
  go_wp2
  go_ret
  exact ⟨rfl, by go_grown⟩
theorem impl_codeName_no (k : Int) (w : World) (h : ¬ (0 ≤ k ∧ k ≤ 10)) : Calls Tryd.prog 5 #[.int .i64 k] w fun e w' => e = .returned (.string ⟨#[]⟩) ∧ Below w.heap.size w w' := by
  have h2 : k < 0 ∨ (0 ≤ k ∧ 10 < k) := by omega
  clear h
  rcases h2 with h2 | ⟨h2, h3⟩
  · have d1 : decide (0 ≤ k) = false := by simp; omega
    clear h2
    go_enter Tryd.func5, Tryd.ntmps5
    go_wp2
    go_ret
    exact ⟨rfl, by go_grown⟩
  · have d1 : decide (0 ≤ k) = true := by simp; omega
    have d2 : decide (k ≤ 10) = false := by simp; omega
    clear h2 h3
    go_enter Tryd.func5, Tryd.ntmps5
    go_wp2
    go_ret
    exact ⟨rfl, by go_grown⟩
theorem impl_codeName (k : Int) (w : World) (hT : CodeTab w 0) : Calls Tryd.prog 5 #[.int .i64 k] w fun e w' => e = .returned (.string (codeName k)) ∧ Below w.heap.size w w' := by
  by_cases h : 0 ≤ k ∧ k ≤ 10
  · have h6 : k = 0 ∨ k = 1 ∨ k = 2 ∨ k = 3 ∨ k = 4 ∨ k = 5 ∨ k = 6 ∨ k = 7 ∨ k = 8 ∨ k = 9 ∨ k = 10 := by omega
    rcases h6 with rfl | rfl | rfl | rfl | rfl | rfl | rfl | rfl | rfl | rfl | rfl
    · exact impl_codeName0 w hT
    · exact impl_codeName1 w hT
    · exact impl_codeName2 w hT
    · exact impl_codeName3 w hT
    · exact impl_codeName4 w hT
    · exact impl_codeName5 w hT
    · exact impl_codeName6 w hT
    · exact impl_codeName7 w hT
    · exact impl_codeName8 w hT
    · exact impl_codeName9 w hT
    · exact impl_codeName10 w hT
  · have e : codeName k = ⟨#[]⟩ := by
      unfold codeName
      rw [if_neg (by omega), if_neg (by omega), if_neg (by omega), if_neg (by omega), if_neg (by omega), if_neg (by omega), if_neg (by omega), if_neg (by omega), if_neg (by omega), if_neg (by omega), if_neg (by omega)]
    rw [e]
    exact impl_codeName_no k w h
theorem spec_codeName0 (w : World) (hT : CodeTab w 0) : Calls Tryd.prog 4 #[.int .i64 0] w fun e w' => e = .returned (.string (codeName 0)) ∧ Below w.heap.size w w' := by
  have h0 : w.cell? ⟨0, 0, none⟩ = some (.string ⟨#[111, 107]⟩) := hT 0 (by omega)
  clear hT
  go_enter Tryd.func4, Tryd.ntmps4
  go_wp2
  go_ret
  exact ⟨rfl, by go_grown⟩
theorem spec_codeName1 (w : World) (hT : CodeTab w 0) : Calls Tryd.prog 4 #[.int .i64 1] w fun e w' => e = .returned (.string (codeName 1)) ∧ Below w.heap.size w w' := by
  have h0 : w.cell? ⟨0, 1, none⟩ = some (.string ⟨#[105, 110, 118, 97, 108, 105, 100]⟩) := hT 1 (by omega)
  clear hT
  go_enter Tryd.func4, Tryd.ntmps4
  go_wp2
  go_ret
  exact ⟨rfl, by go_grown⟩
theorem spec_codeName2 (w : World) (hT : CodeTab w 0) : Calls Tryd.prog 4 #[.int .i64 2] w fun e w' => e = .returned (.string (codeName 2)) ∧ Below w.heap.size w w' := by
  have h0 : w.cell? ⟨0, 2, none⟩ = some (.string ⟨#[114, 97, 110, 103, 101]⟩) := hT 2 (by omega)
  clear hT
  go_enter Tryd.func4, Tryd.ntmps4
  go_wp2
  go_ret
  exact ⟨rfl, by go_grown⟩
theorem spec_codeName3 (w : World) (hT : CodeTab w 0) : Calls Tryd.prog 4 #[.int .i64 3] w fun e w' => e = .returned (.string (codeName 3)) ∧ Below w.heap.size w w' := by
  have h0 : w.cell? ⟨0, 3, none⟩ = some (.string ⟨#[110, 111, 116, 45, 102, 111, 117, 110, 100]⟩) := hT 3 (by omega)
  clear hT
  go_enter Tryd.func4, Tryd.ntmps4
  go_wp2
  go_ret
  exact ⟨rfl, by go_grown⟩
theorem spec_codeName4 (w : World) (hT : CodeTab w 0) : Calls Tryd.prog 4 #[.int .i64 4] w fun e w' => e = .returned (.string (codeName 4)) ∧ Below w.heap.size w w' := by
  have h0 : w.cell? ⟨0, 4, none⟩ = some (.string ⟨#[101, 120, 105, 115, 116, 115]⟩) := hT 4 (by omega)
  clear hT
  go_enter Tryd.func4, Tryd.ntmps4
  go_wp2
  go_ret
  exact ⟨rfl, by go_grown⟩
theorem spec_codeName5 (w : World) (hT : CodeTab w 0) : Calls Tryd.prog 4 #[.int .i64 5] w fun e w' => e = .returned (.string (codeName 5)) ∧ Below w.heap.size w w' := by
  have h0 : w.cell? ⟨0, 5, none⟩ = some (.string ⟨#[102, 117, 108, 108]⟩) := hT 5 (by omega)
  clear hT
  go_enter Tryd.func4, Tryd.ntmps4
  go_wp2
  go_ret
  exact ⟨rfl, by go_grown⟩
theorem spec_codeName6 (w : World) (hT : CodeTab w 0) : Calls Tryd.prog 4 #[.int .i64 6] w fun e w' => e = .returned (.string (codeName 6)) ∧ Below w.heap.size w w' := by
  have h0 : w.cell? ⟨0, 6, none⟩ = some (.string ⟨#[115, 116, 97, 116, 101]⟩) := hT 6 (by omega)
  clear hT
  go_enter Tryd.func4, Tryd.ntmps4
  go_wp2
  go_ret
  exact ⟨rfl, by go_grown⟩
theorem spec_codeName7 (w : World) (hT : CodeTab w 0) : Calls Tryd.prog 4 #[.int .i64 7] w fun e w' => e = .returned (.string (codeName 7)) ∧ Below w.heap.size w w' := by
  have h0 : w.cell? ⟨0, 7, none⟩ = some (.string ⟨#[115, 121, 110, 116, 97, 120]⟩) := hT 7 (by omega)
  clear hT
  go_enter Tryd.func4, Tryd.ntmps4
  go_wp2
  go_ret
  exact ⟨rfl, by go_grown⟩
theorem spec_codeName8 (w : World) (hT : CodeTab w 0) : Calls Tryd.prog 4 #[.int .i64 8] w fun e w' => e = .returned (.string (codeName 8)) ∧ Below w.heap.size w w' := by
  have h0 : w.cell? ⟨0, 8, none⟩ = some (.string ⟨#[102, 111, 114, 109, 97, 116]⟩) := hT 8 (by omega)
  clear hT
  go_enter Tryd.func4, Tryd.ntmps4
  go_wp2
  go_ret
  exact ⟨rfl, by go_grown⟩
theorem spec_codeName9 (w : World) (hT : CodeTab w 0) : Calls Tryd.prog 4 #[.int .i64 9] w fun e w' => e = .returned (.string (codeName 9)) ∧ Below w.heap.size w w' := by
  have h0 : w.cell? ⟨0, 9, none⟩ = some (.string ⟨#[99, 108, 97, 115, 104]⟩) := hT 9 (by omega)
  clear hT
  go_enter Tryd.func4, Tryd.ntmps4
  go_wp2
  go_ret
  exact ⟨rfl, by go_grown⟩
theorem spec_codeName10 (w : World) (hT : CodeTab w 0) : Calls Tryd.prog 4 #[.int .i64 10] w fun e w' => e = .returned (.string (codeName 10)) ∧ Below w.heap.size w w' := by
  have h0 : w.cell? ⟨0, 10, none⟩ = some (.string ⟨#[99, 114, 97, 99, 107, 101, 100]⟩) := hT 10 (by omega)
  clear hT
  go_enter Tryd.func4, Tryd.ntmps4
  go_wp2
  go_ret
  exact ⟨rfl, by go_grown⟩
theorem spec_codeName_no (k : Int) (w : World) (h : ¬ (0 ≤ k ∧ k ≤ 10)) : Calls Tryd.prog 4 #[.int .i64 k] w fun e w' => e = .returned (.string ⟨#[]⟩) ∧ Below w.heap.size w w' := by
  have h2 : k < 0 ∨ (0 ≤ k ∧ 10 < k) := by omega
  clear h
  rcases h2 with h2 | ⟨h2, h3⟩
  · have d1 : decide (0 ≤ k) = false := by simp; omega
    clear h2
    go_enter Tryd.func4, Tryd.ntmps4
    go_wp2
    go_ret
    exact ⟨rfl, by go_grown⟩
  · have d1 : decide (0 ≤ k) = true := by simp; omega
    have d2 : decide (k ≤ 10) = false := by simp; omega
    clear h2 h3
    go_enter Tryd.func4, Tryd.ntmps4
    go_wp2
    go_ret
    exact ⟨rfl, by go_grown⟩
theorem spec_codeName (k : Int) (w : World) (hT : CodeTab w 0) : Calls Tryd.prog 4 #[.int .i64 k] w fun e w' => e = .returned (.string (codeName k)) ∧ Below w.heap.size w w' := by
  by_cases h : 0 ≤ k ∧ k ≤ 10
  · have h6 : k = 0 ∨ k = 1 ∨ k = 2 ∨ k = 3 ∨ k = 4 ∨ k = 5 ∨ k = 6 ∨ k = 7 ∨ k = 8 ∨ k = 9 ∨ k = 10 := by omega
    rcases h6 with rfl | rfl | rfl | rfl | rfl | rfl | rfl | rfl | rfl | rfl | rfl
    · exact spec_codeName0 w hT
    · exact spec_codeName1 w hT
    · exact spec_codeName2 w hT
    · exact spec_codeName3 w hT
    · exact spec_codeName4 w hT
    · exact spec_codeName5 w hT
    · exact spec_codeName6 w hT
    · exact spec_codeName7 w hT
    · exact spec_codeName8 w hT
    · exact spec_codeName9 w hT
    · exact spec_codeName10 w hT
  · have e : codeName k = ⟨#[]⟩ := by
      unfold codeName
      rw [if_neg (by omega), if_neg (by omega), if_neg (by omega), if_neg (by omega), if_neg (by omega), if_neg (by omega), if_neg (by omega), if_neg (by omega), if_neg (by omega), if_neg (by omega), if_neg (by omega)]
    rw [e]
    exact spec_codeName_no k w h

theorem CodeTab.below {w w' : World} {g : Nat} (h : CodeTab w g) (hb : Below w.heap.size w w') : CodeTab w' g := by
  intro i hi
  have h1 := h i hi
  have hlt : g < w.heap.size := World.block_lt_of_cell? _ _ h1
  exact (hb.cell (p := ⟨g, i, none⟩) hlt).trans h1

theorem fnExactCodeNameWalk (a0 : Int) (w : World) (w0 : (Lit.int .i64 a0).wf = true) (hT : CodeTab w 0) :
    Calls Tryd.prog 3 #[.int .i64 a0] w fun e w' => e = .returned (.bool true) ∧ Below w.heap.size w w' := by
  have HT := hide hT
  clear w0 hT
  go_enter Tryd.func3, Tryd.ntmps3
  go_wp2_with fail
  refine (spec_codeName _ _ HT.out).mono ?_
  rintro e w1 ⟨rfl, hb1⟩
  have HT1 := hide (HT.out.below hb1)
  go_wp2_with fail
  refine (impl_codeName _ _ HT1.out).mono ?_
  rintro e w2 ⟨rfl, hb2⟩
  generalize codeName a0 = s at *
  go_wp2
  go_ret
  exact ⟨rfl, hb1.trans (hb2.mono hb1.size)⟩
end Go.Proofs.YtekejjieclmcfaaDoor
