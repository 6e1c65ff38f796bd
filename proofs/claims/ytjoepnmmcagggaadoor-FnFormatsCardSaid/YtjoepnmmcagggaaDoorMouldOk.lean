/-
  What is proved: a mould is valid, a list of moulds is valid: contracts of the program's and the reference's functions. Conditions: lengths that fit.
-/
import Derived.Test.YtjoepnmmcagggaaDoorMouldS
import Derived.Test.YtjoepnmmcagggaaDoorMould
import Derived.Test.YtjoepnmmcagggaaDoorSameL
namespace Go.Proofs.YtjoepnmmcagggaaDoor
open Go.RowKit
set_option linter.unusedVariables false

def Mould.Ok (m : Mould) : Prop := (30 ≤ m.l ∧ m.l ≤ 800) ∧ (30 ≤ m.w ∧ m.w ≤ 800) ∧ (30 ≤ m.h ∧ m.h ≤ 800) ∧ (0 ≤ m.u ∧ m.u ≤ 100000)
instance (m : Mould) : Decidable m.Ok := by unfold Mould.Ok; infer_instance
def Mould.ok (m : Mould) : Bool := decide m.Ok
/-- A list of moulds is valid. -/
def mouldsOk (zs : List Mould) : Bool := decide (zs.length ≤ 20) && zs.all Mould.ok

set_option maxHeartbeats 400000 in
theorem impl_validMould_yes (a b c d : Int) (w : World) (h0 : 30 ≤ a ∧ a ≤ 800) (h1 : 30 ≤ b ∧ b ≤ 800) (h2 : 30 ≤ c ∧ c ≤ 800) (h3 : 0 ≤ d ∧ d ≤ 100000) :
    Calls Tryd.prog 59 #[.agg #[.int .i64 a, .int .i64 b, .int .i64 c, .int .i64 d]] w fun e w' => e = .returned (.bool true) ∧ Below w.heap.size w w' := by
  go_enter Tryd.func59, Tryd.ntmps59
  go_wp2_with fail
  refine (impl_in_yes _ _ _ _ h0.1 h0.2).mono ?_
  rintro e w1 ⟨rfl, rfl⟩
  go_wp2_with fail
  refine (impl_in_yes _ _ _ _ h1.1 h1.2).mono ?_
  rintro e w1 ⟨rfl, rfl⟩
  go_wp2_with fail
  refine (impl_in_yes _ _ _ _ h2.1 h2.2).mono ?_
  rintro e w1 ⟨rfl, rfl⟩
  go_wp2_with fail
  refine (impl_in_yes _ _ _ _ h3.1 h3.2).mono ?_
  rintro e w1 ⟨rfl, rfl⟩
  go_wp2
  go_ret
  exact ⟨rfl, by go_grown⟩
set_option maxHeartbeats 400000 in
theorem impl_validMould_no0 (a b c d : Int) (w : World) (h0 : ¬ (30 ≤ a ∧ a ≤ 800)) :
    Calls Tryd.prog 59 #[.agg #[.int .i64 a, .int .i64 b, .int .i64 c, .int .i64 d]] w fun e w' => e = .returned (.bool false) ∧ Below w.heap.size w w' := by
  go_enter Tryd.func59, Tryd.ntmps59
  go_wp2_with fail
  refine (impl_in_no _ _ _ _ h0).mono ?_
  rintro e w1 ⟨rfl, rfl⟩
  go_wp2
  go_ret
  exact ⟨rfl, by go_grown⟩
set_option maxHeartbeats 400000 in
theorem impl_validMould_no1 (a b c d : Int) (w : World) (h0 : 30 ≤ a ∧ a ≤ 800) (h1 : ¬ (30 ≤ b ∧ b ≤ 800)) :
    Calls Tryd.prog 59 #[.agg #[.int .i64 a, .int .i64 b, .int .i64 c, .int .i64 d]] w fun e w' => e = .returned (.bool false) ∧ Below w.heap.size w w' := by
  go_enter Tryd.func59, Tryd.ntmps59
  go_wp2_with fail
  refine (impl_in_yes _ _ _ _ h0.1 h0.2).mono ?_
  rintro e w1 ⟨rfl, rfl⟩
  go_wp2_with fail
  refine (impl_in_no _ _ _ _ h1).mono ?_
  rintro e w1 ⟨rfl, rfl⟩
  go_wp2
  go_ret
  exact ⟨rfl, by go_grown⟩
set_option maxHeartbeats 400000 in
theorem impl_validMould_no2 (a b c d : Int) (w : World) (h0 : 30 ≤ a ∧ a ≤ 800) (h1 : 30 ≤ b ∧ b ≤ 800) (h2 : ¬ (30 ≤ c ∧ c ≤ 800)) :
    Calls Tryd.prog 59 #[.agg #[.int .i64 a, .int .i64 b, .int .i64 c, .int .i64 d]] w fun e w' => e = .returned (.bool false) ∧ Below w.heap.size w w' := by
  go_enter Tryd.func59, Tryd.ntmps59
  go_wp2_with fail
  refine (impl_in_yes _ _ _ _ h0.1 h0.2).mono ?_
  rintro e w1 ⟨rfl, rfl⟩
  go_wp2_with fail
  refine (impl_in_yes _ _ _ _ h1.1 h1.2).mono ?_
  rintro e w1 ⟨rfl, rfl⟩
  go_wp2_with fail
  refine (impl_in_no _ _ _ _ h2).mono ?_
  rintro e w1 ⟨rfl, rfl⟩
  go_wp2
  go_ret
  exact ⟨rfl, by go_grown⟩
set_option maxHeartbeats 400000 in
theorem impl_validMould_no3 (a b c d : Int) (w : World) (h0 : 30 ≤ a ∧ a ≤ 800) (h1 : 30 ≤ b ∧ b ≤ 800) (h2 : 30 ≤ c ∧ c ≤ 800) (h3 : ¬ (0 ≤ d ∧ d ≤ 100000)) :
    Calls Tryd.prog 59 #[.agg #[.int .i64 a, .int .i64 b, .int .i64 c, .int .i64 d]] w fun e w' => e = .returned (.bool false) ∧ Below w.heap.size w w' := by
  go_enter Tryd.func59, Tryd.ntmps59
  go_wp2_with fail
  refine (impl_in_yes _ _ _ _ h0.1 h0.2).mono ?_
  rintro e w1 ⟨rfl, rfl⟩
  go_wp2_with fail
  refine (impl_in_yes _ _ _ _ h1.1 h1.2).mono ?_
  rintro e w1 ⟨rfl, rfl⟩
  go_wp2_with fail
  refine (impl_in_yes _ _ _ _ h2.1 h2.2).mono ?_
  rintro e w1 ⟨rfl, rfl⟩
  go_wp2_with fail
  refine (impl_in_no _ _ _ _ h3).mono ?_
  rintro e w1 ⟨rfl, rfl⟩
  go_wp2
  go_ret
  exact ⟨rfl, by go_grown⟩
theorem impl_validMould (a b c d : Int) (w : World) :
    Calls Tryd.prog 59 #[.agg #[.int .i64 a, .int .i64 b, .int .i64 c, .int .i64 d]] w fun e w' => e = .returned (.bool (Mould.ok ⟨a, b, c, d⟩)) ∧ Below w.heap.size w w' := by
  by_cases h0 : 30 ≤ a ∧ a ≤ 800
  · by_cases h1 : 30 ≤ b ∧ b ≤ 800
    · by_cases h2 : 30 ≤ c ∧ c ≤ 800
      · by_cases h3 : 0 ≤ d ∧ d ≤ 100000
        · rw [show Mould.ok ⟨a, b, c, d⟩ = true from decide_eq_true ⟨h0, h1, h2, h3⟩]
          exact impl_validMould_yes a b c d w h0 h1 h2 h3
        · rw [show Mould.ok ⟨a, b, c, d⟩ = false from decide_eq_false (fun h => h3 h.2.2.2)]
          exact impl_validMould_no3 a b c d w h0 h1 h2 h3
      · rw [show Mould.ok ⟨a, b, c, d⟩ = false from decide_eq_false (fun h => h2 h.2.2.1)]
        exact impl_validMould_no2 a b c d w h0 h1 h2
    · rw [show Mould.ok ⟨a, b, c, d⟩ = false from decide_eq_false (fun h => h1 h.2.1)]
      exact impl_validMould_no1 a b c d w h0 h1
  · rw [show Mould.ok ⟨a, b, c, d⟩ = false from decide_eq_false (fun h => h0 h.1)]
    exact impl_validMould_no0 a b c d w h0
set_option maxHeartbeats 400000 in
theorem spec_l05One_yes (a b c d : Int) (g off : Nat) (w : World) (hc0 : w.cell? ⟨g, off, none⟩ = some (.int .i64 a)) (hc1 : w.cell? ⟨g, off + 1, none⟩ = some (.int .i64 b)) (hc2 : w.cell? ⟨g, off + 2, none⟩ = some (.int .i64 c)) (hc3 : w.cell? ⟨g, off + 3, none⟩ = some (.int .i64 d)) (h0 : 30 ≤ a ∧ a ≤ 800) (h1 : 30 ≤ b ∧ b ≤ 800) (h2 : 30 ≤ c ∧ c ≤ 800) (h3 : 0 ≤ d ∧ d ≤ 100000) :
    Calls Tryd.prog 57 #[.pointer (some ⟨g, off, none⟩)] w fun e w' => e = .returned (.bool true) ∧ w = w' := by
  go_enter Tryd.func57, Tryd.ntmps57
  go_wp2_with fail
  refine (spec_in_yes _ _ _ _ h0.1 h0.2).mono ?_
  rintro e w1 ⟨rfl, rfl⟩
  go_wp2_with fail
  refine (spec_in_yes _ _ _ _ h1.1 h1.2).mono ?_
  rintro e w1 ⟨rfl, rfl⟩
  go_wp2_with fail
  refine (spec_in_yes _ _ _ _ h2.1 h2.2).mono ?_
  rintro e w1 ⟨rfl, rfl⟩
  go_wp2_with fail
  refine (spec_in_yes _ _ _ _ h3.1 h3.2).mono ?_
  rintro e w1 ⟨rfl, rfl⟩
  go_wp2
  go_ret
  exact ⟨rfl, rfl⟩
set_option maxHeartbeats 400000 in
theorem spec_l05One_no0 (a b c d : Int) (g off : Nat) (w : World) (hc0 : w.cell? ⟨g, off, none⟩ = some (.int .i64 a)) (hc1 : w.cell? ⟨g, off + 1, none⟩ = some (.int .i64 b)) (hc2 : w.cell? ⟨g, off + 2, none⟩ = some (.int .i64 c)) (hc3 : w.cell? ⟨g, off + 3, none⟩ = some (.int .i64 d)) (h0 : ¬ (30 ≤ a ∧ a ≤ 800)) :
    Calls Tryd.prog 57 #[.pointer (some ⟨g, off, none⟩)] w fun e w' => e = .returned (.bool false) ∧ w = w' := by
  go_enter Tryd.func57, Tryd.ntmps57
  go_wp2_with fail
  refine (spec_in_no _ _ _ _ h0).mono ?_
  rintro e w1 ⟨rfl, rfl⟩
  go_wp2
  go_ret
  exact ⟨rfl, rfl⟩
set_option maxHeartbeats 400000 in
theorem spec_l05One_no1 (a b c d : Int) (g off : Nat) (w : World) (hc0 : w.cell? ⟨g, off, none⟩ = some (.int .i64 a)) (hc1 : w.cell? ⟨g, off + 1, none⟩ = some (.int .i64 b)) (hc2 : w.cell? ⟨g, off + 2, none⟩ = some (.int .i64 c)) (hc3 : w.cell? ⟨g, off + 3, none⟩ = some (.int .i64 d)) (h0 : 30 ≤ a ∧ a ≤ 800) (h1 : ¬ (30 ≤ b ∧ b ≤ 800)) :
    Calls Tryd.prog 57 #[.pointer (some ⟨g, off, none⟩)] w fun e w' => e = .returned (.bool false) ∧ w = w' := by
  go_enter Tryd.func57, Tryd.ntmps57
  go_wp2_with fail
  refine (spec_in_yes _ _ _ _ h0.1 h0.2).mono ?_
  rintro e w1 ⟨rfl, rfl⟩
  go_wp2_with fail
  refine (spec_in_no _ _ _ _ h1).mono ?_
  rintro e w1 ⟨rfl, rfl⟩
  go_wp2
  go_ret
  exact ⟨rfl, rfl⟩
set_option maxHeartbeats 400000 in
theorem spec_l05One_no2 (a b c d : Int) (g off : Nat) (w : World) (hc0 : w.cell? ⟨g, off, none⟩ = some (.int .i64 a)) (hc1 : w.cell? ⟨g, off + 1, none⟩ = some (.int .i64 b)) (hc2 : w.cell? ⟨g, off + 2, none⟩ = some (.int .i64 c)) (hc3 : w.cell? ⟨g, off + 3, none⟩ = some (.int .i64 d)) (h0 : 30 ≤ a ∧ a ≤ 800) (h1 : 30 ≤ b ∧ b ≤ 800) (h2 : ¬ (30 ≤ c ∧ c ≤ 800)) :
    Calls Tryd.prog 57 #[.pointer (some ⟨g, off, none⟩)] w fun e w' => e = .returned (.bool false) ∧ w = w' := by
  go_enter Tryd.func57, Tryd.ntmps57
  go_wp2_with fail
  refine (spec_in_yes _ _ _ _ h0.1 h0.2).mono ?_
  rintro e w1 ⟨rfl, rfl⟩
  go_wp2_with fail
  refine (spec_in_yes _ _ _ _ h1.1 h1.2).mono ?_
  rintro e w1 ⟨rfl, rfl⟩
  go_wp2_with fail
  refine (spec_in_no _ _ _ _ h2).mono ?_
  rintro e w1 ⟨rfl, rfl⟩
  go_wp2
  go_ret
  exact ⟨rfl, rfl⟩
set_option maxHeartbeats 400000 in
theorem spec_l05One_no3 (a b c d : Int) (g off : Nat) (w : World) (hc0 : w.cell? ⟨g, off, none⟩ = some (.int .i64 a)) (hc1 : w.cell? ⟨g, off + 1, none⟩ = some (.int .i64 b)) (hc2 : w.cell? ⟨g, off + 2, none⟩ = some (.int .i64 c)) (hc3 : w.cell? ⟨g, off + 3, none⟩ = some (.int .i64 d)) (h0 : 30 ≤ a ∧ a ≤ 800) (h1 : 30 ≤ b ∧ b ≤ 800) (h2 : 30 ≤ c ∧ c ≤ 800) (h3 : ¬ (0 ≤ d ∧ d ≤ 100000)) :
    Calls Tryd.prog 57 #[.pointer (some ⟨g, off, none⟩)] w fun e w' => e = .returned (.bool false) ∧ w = w' := by
  go_enter Tryd.func57, Tryd.ntmps57
  go_wp2_with fail
  refine (spec_in_yes _ _ _ _ h0.1 h0.2).mono ?_
  rintro e w1 ⟨rfl, rfl⟩
  go_wp2_with fail
  refine (spec_in_yes _ _ _ _ h1.1 h1.2).mono ?_
  rintro e w1 ⟨rfl, rfl⟩
  go_wp2_with fail
  refine (spec_in_yes _ _ _ _ h2.1 h2.2).mono ?_
  rintro e w1 ⟨rfl, rfl⟩
  go_wp2_with fail
  refine (spec_in_no _ _ _ _ h3).mono ?_
  rintro e w1 ⟨rfl, rfl⟩
  go_wp2
  go_ret
  exact ⟨rfl, rfl⟩
theorem spec_l05One (a b c d : Int) (g off : Nat) (w : World) (hc0 : w.cell? ⟨g, off, none⟩ = some (.int .i64 a)) (hc1 : w.cell? ⟨g, off + 1, none⟩ = some (.int .i64 b)) (hc2 : w.cell? ⟨g, off + 2, none⟩ = some (.int .i64 c)) (hc3 : w.cell? ⟨g, off + 3, none⟩ = some (.int .i64 d)) :
    Calls Tryd.prog 57 #[.pointer (some ⟨g, off, none⟩)] w fun e w' => e = .returned (.bool (Mould.ok ⟨a, b, c, d⟩)) ∧ w = w' := by
  by_cases h0 : 30 ≤ a ∧ a ≤ 800
  · by_cases h1 : 30 ≤ b ∧ b ≤ 800
    · by_cases h2 : 30 ≤ c ∧ c ≤ 800
      · by_cases h3 : 0 ≤ d ∧ d ≤ 100000
        · rw [show Mould.ok ⟨a, b, c, d⟩ = true from decide_eq_true ⟨h0, h1, h2, h3⟩]
          exact spec_l05One_yes a b c d g off w hc0 hc1 hc2 hc3 h0 h1 h2 h3
        · rw [show Mould.ok ⟨a, b, c, d⟩ = false from decide_eq_false (fun h => h3 h.2.2.2)]
          exact spec_l05One_no3 a b c d g off w hc0 hc1 hc2 hc3 h0 h1 h2 h3
      · rw [show Mould.ok ⟨a, b, c, d⟩ = false from decide_eq_false (fun h => h2 h.2.2.1)]
        exact spec_l05One_no2 a b c d g off w hc0 hc1 hc2 hc3 h0 h1 h2
    · rw [show Mould.ok ⟨a, b, c, d⟩ = false from decide_eq_false (fun h => h1 h.2.1)]
      exact spec_l05One_no1 a b c d g off w hc0 hc1 hc2 hc3 h0 h1
  · rw [show Mould.ok ⟨a, b, c, d⟩ = false from decide_eq_false (fun h => h0 h.1)]
    exact spec_l05One_no0 a b c d g off w hc0 hc1 hc2 hc3 h0
end Go.Proofs.YtjoepnmmcagggaaDoor
