/-
  What is proved: contracts of A2Format, a2At and a2Long. Conditions: as named in each.
-/
import Derived.Test.YtjoepnmmcagggaaDoorDrawF
namespace Go.Proofs.YtjoepnmmcagggaaDoor
open Go.RowKit
set_option linter.unusedVariables false

def IsFormat (w : World) (e : Ending) (w' : World) : Prop :=
  ∃ (l wd h j : Int), (90 ≤ wd ∧ wd ≤ 119 ∧ 0 ≤ j ∧ j ≤ 12 ∧ 50 ≤ h ∧ h ≤ 89 ∧ 2 * wd + j ≤ l ∧ l ≤ 2 * wd + j + 29) ∧
    e = .returned (.agg #[.int .i64 l, .int .i64 wd, .int .i64 h, .int .i64 j]) ∧ Below w.heap.size w w'
set_option maxHeartbeats 400000 in
theorem a2Format (w : World) (A : Option Addr) (n c : Nat) (z : List Int) (ha : ArgInts .u8 w A n c z) :
    Calls Tryd.prog 42 #[.slice A n c] w (IsFormat w) := by
  have hz := ha.1
  have hA : ArgInts .u8 (w.alloc (.cells #[.int .i64 0, .int .i64 0, .int .i64 0, .int .i64 0] 34)) A n c z :=
    ha.below ((Below.refl _ _).alloc (Nat.le_refl _) _)
  have HA := hide hA
  clear ha hA hz
  go_enter Tryd.func42, Tryd.ntmps42
  go_wp2_with fail
  refine (src_from _ _ _ _).mono ?_
  rintro e w1 ⟨rfl, hw1⟩
  obtain ⟨hs, hb1⟩ := src_start _ _ _ _ _ hw1
  have hsz : (w.alloc (.cells #[.int .i64 0, .int .i64 0, .int .i64 0, .int .i64 0] 34)).heap.size = w.heap.size + 1 := by simp
  rw [hsz] at hs hb1
  have HS := hide hs
  have HB := hide hb1
  clear hs hb1 hw1 hsz
  go_wp2_with fail
  refine (src_l02Draw _ _ _ A n c 0 z (by omega) HA.out HS.out).mono ?_
  rintro e w2 ⟨l, wd, h, j, k', hbd, rfl, hk', hs2, ho2⟩
  have hB2 := HB.out.trans (ho2.below (Nat.le_refl _) (by have := HB.out.size; simp at this; omega))
  obtain ⟨hc2, hf2⟩ := bcell (W := w.alloc (.cells #[.int .i64 0, .int .i64 0, .int .i64 0, .int .i64 0] 34)) (hB2.mono (by go_size))
  have HB2 := hide hB2
  have hz2 : w.heap.size < w2.heap.size := by have := hB2.size; simp at this; omega
  clear hB2 ho2 hs2
  go_wp2
  refine bodyPost_ret (v := .agg #[.int .i64 l, .int .i64 wd, .int .i64 h, .int .i64 j]) ?_ rfl ?_
  · simp [results, Tryd.results42, go_sem, hc2]
  · refine ⟨l, wd, h, j, hbd, rfl, ?_⟩
    have B2 : Below w.heap.size w w2 := by
      refine Below.trans ?_ (HB2.out.mono ?_)
      · go_grown
      · go_size
    go_grown

theorem a2Long_no (w : World) (A B : Option Addr) (n c m d : Nat) (h1 : n ≤ 3000) (h2 : m ≤ 3000) :
    Calls Tryd.prog 41 #[.slice A n c, .slice B m d] w fun e w' => e = .returned (.bool false) ∧ w = w' := by
  have d1 : decide (3000 < (n : Int)) = false := by simp; omega
  have d2 : decide (3000 < (m : Int)) = false := by simp; omega
  clear h1 h2
  go_enter Tryd.func41, Tryd.ntmps41
  go_wp2
  go_ret
  exact ⟨rfl, rfl⟩
theorem a2Long_yes (w : World) (A B : Option Addr) (n c m d : Nat) (h1 : 3000 < n) :
    Calls Tryd.prog 41 #[.slice A n c, .slice B m d] w fun e w' => e = .returned (.bool true) ∧ w = w' := by
  have d1 : decide (3000 < (n : Int)) = true := by simp; omega
  clear h1
  go_enter Tryd.func41, Tryd.ntmps41
  go_wp2
  go_ret
  exact ⟨rfl, rfl⟩

/-- A number from 0 to m - 1. -/
def AtMost (m : Int) (w : World) (e : Ending) (w' : World) : Prop := ∃ v : Int, 0 ≤ v ∧ v < m ∧ e = .returned (.int .i64 v) ∧ w = w'
end Go.Proofs.YtjoepnmmcagggaaDoor
