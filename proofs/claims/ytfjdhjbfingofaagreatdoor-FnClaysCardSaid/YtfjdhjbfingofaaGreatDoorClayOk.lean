/-
  What is proved: a clay is valid, of the program and of the reference. Conditions: a name that fits in memory.
-/
import Derived.Test.YtfjdhjbfingofaaGreatDoorJoinB
import Derived.Test.YtfjdhjbfingofaaGreatDoorJoinD
namespace Go.Proofs.YtfjdhjbfingofaaGreatDoor
open Go.RowKit
set_option linter.unusedVariables false

def Clay.Ok (c : Clay) : Prop := nameB c.n = true ∧ (0 ≤ c.s ∧ c.s ≤ 200) ∧ (0 ≤ c.l ∧ c.l ≤ 1000) ∧ (0 ≤ c.d ∧ c.d ≤ 1000) ∧ (0 ≤ c.p ∧ c.p ≤ 10000)
instance decClayOk (c : Clay) : Decidable c.Ok := by unfold Clay.Ok; infer_instance
def Clay.ok (c : Clay) : Bool := decide c.Ok
theorem spec_mille_yes (n : Int) (w : World) (h0 : 0 ≤ n) (h1 : n ≤ 1000) : Calls Tryz.prog 74 #[.int .i64 n] w fun e w' => e = .returned (.bool true) ∧ w = w' := by
  go_enter Tryz.func74, Tryz.ntmps74
  go_wp2_with fail
  refine (spec_in_yes _ _ _ _ h0 h1).mono ?_
  rintro e w1 ⟨rfl, rfl⟩
  go_wp2
  go_ret
  exact ⟨rfl, rfl⟩
theorem spec_mille_no (n : Int) (w : World) (h : ¬ (0 ≤ n ∧ n ≤ 1000)) : Calls Tryz.prog 74 #[.int .i64 n] w fun e w' => e = .returned (.bool false) ∧ w = w' := by
  go_enter Tryz.func74, Tryz.ntmps74
  go_wp2_with fail
  refine (spec_in_no _ _ _ _ h).mono ?_
  rintro e w1 ⟨rfl, rfl⟩
  go_wp2
  go_ret
  exact ⟨rfl, rfl⟩
set_option maxHeartbeats 400000 in
theorem impl_isClay_yes (x0 : ByteArray) (x1 x2 x3 x4 : Int) (w : World) (hs : x0.size ≤ maxLen) (h0 : nameB x0 = true) (h1 : 0 ≤ x1 ∧ x1 ≤ 200) (h2 : 0 ≤ x2 ∧ x2 ≤ 1000) (h3 : 0 ≤ x3 ∧ x3 ≤ 1000) (h4 : 0 ≤ x4 ∧ x4 ≤ 10000) :
    Calls Tryz.prog 45 #[.agg #[.string x0, .int .i64 x1, .int .i64 x2, .int .i64 x3, .int .i64 x4]] w fun e w' => e = .returned (.bool true) ∧ Below w.heap.size w w' := by
  go_enter Tryz.func45, Tryz.ntmps45
  go_wp2_with fail
  refine (impl_isName x0 _ hs).mono ?_
  rintro e u0 ⟨rfl, rfl⟩
  rw [h0]
  go_wp2_with fail
  refine (impl_in_yes _ _ _ _ h1.1 h1.2).mono ?_
  rintro e u1 ⟨rfl, rfl⟩
  go_wp2_with fail
  refine (impl_in_yes _ _ _ _ h2.1 h2.2).mono ?_
  rintro e u2 ⟨rfl, rfl⟩
  go_wp2_with fail
  refine (impl_in_yes _ _ _ _ h3.1 h3.2).mono ?_
  rintro e u3 ⟨rfl, rfl⟩
  go_wp2_with fail
  refine (impl_in_yes _ _ _ _ h4.1 h4.2).mono ?_
  rintro e u4 ⟨rfl, rfl⟩
  go_wp2
  go_ret
  exact ⟨rfl, by go_grown⟩
set_option maxHeartbeats 400000 in
theorem impl_isClay_no0 (x0 : ByteArray) (x1 x2 x3 x4 : Int) (w : World) (hs : x0.size ≤ maxLen) (h0 : nameB x0 = false) :
    Calls Tryz.prog 45 #[.agg #[.string x0, .int .i64 x1, .int .i64 x2, .int .i64 x3, .int .i64 x4]] w fun e w' => e = .returned (.bool false) ∧ Below w.heap.size w w' := by
  go_enter Tryz.func45, Tryz.ntmps45
  go_wp2_with fail
  refine (impl_isName x0 _ hs).mono ?_
  rintro e u0 ⟨rfl, rfl⟩
  rw [h0]
  go_wp2
  go_ret
  exact ⟨rfl, by go_grown⟩
set_option maxHeartbeats 400000 in
theorem impl_isClay_no1 (x0 : ByteArray) (x1 x2 x3 x4 : Int) (w : World) (hs : x0.size ≤ maxLen) (h0 : nameB x0 = true) (h1 : ¬ (0 ≤ x1 ∧ x1 ≤ 200)) :
    Calls Tryz.prog 45 #[.agg #[.string x0, .int .i64 x1, .int .i64 x2, .int .i64 x3, .int .i64 x4]] w fun e w' => e = .returned (.bool false) ∧ Below w.heap.size w w' := by
  go_enter Tryz.func45, Tryz.ntmps45
  go_wp2_with fail
  refine (impl_isName x0 _ hs).mono ?_
  rintro e u0 ⟨rfl, rfl⟩
  rw [h0]
  go_wp2_with fail
  refine (impl_in_no _ _ _ _ h1).mono ?_
  rintro e u1 ⟨rfl, rfl⟩
  go_wp2
  go_ret
  exact ⟨rfl, by go_grown⟩
set_option maxHeartbeats 400000 in
theorem impl_isClay_no2 (x0 : ByteArray) (x1 x2 x3 x4 : Int) (w : World) (hs : x0.size ≤ maxLen) (h0 : nameB x0 = true) (h1 : 0 ≤ x1 ∧ x1 ≤ 200) (h2 : ¬ (0 ≤ x2 ∧ x2 ≤ 1000)) :
    Calls Tryz.prog 45 #[.agg #[.string x0, .int .i64 x1, .int .i64 x2, .int .i64 x3, .int .i64 x4]] w fun e w' => e = .returned (.bool false) ∧ Below w.heap.size w w' := by
  go_enter Tryz.func45, Tryz.ntmps45
  go_wp2_with fail
  refine (impl_isName x0 _ hs).mono ?_
  rintro e u0 ⟨rfl, rfl⟩
  rw [h0]
  go_wp2_with fail
  refine (impl_in_yes _ _ _ _ h1.1 h1.2).mono ?_
  rintro e u1 ⟨rfl, rfl⟩
  go_wp2_with fail
  refine (impl_in_no _ _ _ _ h2).mono ?_
  rintro e u2 ⟨rfl, rfl⟩
  go_wp2
  go_ret
  exact ⟨rfl, by go_grown⟩
set_option maxHeartbeats 400000 in
theorem impl_isClay_no3 (x0 : ByteArray) (x1 x2 x3 x4 : Int) (w : World) (hs : x0.size ≤ maxLen) (h0 : nameB x0 = true) (h1 : 0 ≤ x1 ∧ x1 ≤ 200) (h2 : 0 ≤ x2 ∧ x2 ≤ 1000) (h3 : ¬ (0 ≤ x3 ∧ x3 ≤ 1000)) :
    Calls Tryz.prog 45 #[.agg #[.string x0, .int .i64 x1, .int .i64 x2, .int .i64 x3, .int .i64 x4]] w fun e w' => e = .returned (.bool false) ∧ Below w.heap.size w w' := by
  go_enter Tryz.func45, Tryz.ntmps45
  go_wp2_with fail
  refine (impl_isName x0 _ hs).mono ?_
  rintro e u0 ⟨rfl, rfl⟩
  rw [h0]
  go_wp2_with fail
  refine (impl_in_yes _ _ _ _ h1.1 h1.2).mono ?_
  rintro e u1 ⟨rfl, rfl⟩
  go_wp2_with fail
  refine (impl_in_yes _ _ _ _ h2.1 h2.2).mono ?_
  rintro e u2 ⟨rfl, rfl⟩
  go_wp2_with fail
  refine (impl_in_no _ _ _ _ h3).mono ?_
  rintro e u3 ⟨rfl, rfl⟩
  go_wp2
  go_ret
  exact ⟨rfl, by go_grown⟩
set_option maxHeartbeats 400000 in
theorem impl_isClay_no4 (x0 : ByteArray) (x1 x2 x3 x4 : Int) (w : World) (hs : x0.size ≤ maxLen) (h0 : nameB x0 = true) (h1 : 0 ≤ x1 ∧ x1 ≤ 200) (h2 : 0 ≤ x2 ∧ x2 ≤ 1000) (h3 : 0 ≤ x3 ∧ x3 ≤ 1000) (h4 : ¬ (0 ≤ x4 ∧ x4 ≤ 10000)) :
    Calls Tryz.prog 45 #[.agg #[.string x0, .int .i64 x1, .int .i64 x2, .int .i64 x3, .int .i64 x4]] w fun e w' => e = .returned (.bool false) ∧ Below w.heap.size w w' := by
  go_enter Tryz.func45, Tryz.ntmps45
  go_wp2_with fail
  refine (impl_isName x0 _ hs).mono ?_
  rintro e u0 ⟨rfl, rfl⟩
  rw [h0]
  go_wp2_with fail
  refine (impl_in_yes _ _ _ _ h1.1 h1.2).mono ?_
  rintro e u1 ⟨rfl, rfl⟩
  go_wp2_with fail
  refine (impl_in_yes _ _ _ _ h2.1 h2.2).mono ?_
  rintro e u2 ⟨rfl, rfl⟩
  go_wp2_with fail
  refine (impl_in_yes _ _ _ _ h3.1 h3.2).mono ?_
  rintro e u3 ⟨rfl, rfl⟩
  go_wp2_with fail
  refine (impl_in_no _ _ _ _ h4).mono ?_
  rintro e u4 ⟨rfl, rfl⟩
  go_wp2
  go_ret
  exact ⟨rfl, by go_grown⟩
theorem impl_isClay (x0 : ByteArray) (x1 x2 x3 x4 : Int) (w : World) (hs : x0.size ≤ maxLen) :
    Calls Tryz.prog 45 #[.agg #[.string x0, .int .i64 x1, .int .i64 x2, .int .i64 x3, .int .i64 x4]] w fun e w' => e = .returned (.bool (Clay.ok ⟨x0, x1, x2, x3, x4⟩)) ∧ Below w.heap.size w w' := by
  by_cases h0 : nameB x0 = true
  case neg =>
    rw [show Clay.ok ⟨x0, x1, x2, x3, x4⟩ = false from decide_eq_false (fun h => h0 h.1)]
    exact impl_isClay_no0 x0 x1 x2 x3 x4 w hs (by simpa using h0)
  by_cases h1 : 0 ≤ x1 ∧ x1 ≤ 200
  case neg =>
    rw [show Clay.ok ⟨x0, x1, x2, x3, x4⟩ = false from decide_eq_false (fun h => h1 h.2.1)]
    exact impl_isClay_no1 x0 x1 x2 x3 x4 w hs h0 h1
  by_cases h2 : 0 ≤ x2 ∧ x2 ≤ 1000
  case neg =>
    rw [show Clay.ok ⟨x0, x1, x2, x3, x4⟩ = false from decide_eq_false (fun h => h2 h.2.2.1)]
    exact impl_isClay_no2 x0 x1 x2 x3 x4 w hs h0 h1 h2
  by_cases h3 : 0 ≤ x3 ∧ x3 ≤ 1000
  case neg =>
    rw [show Clay.ok ⟨x0, x1, x2, x3, x4⟩ = false from decide_eq_false (fun h => h3 h.2.2.2.1)]
    exact impl_isClay_no3 x0 x1 x2 x3 x4 w hs h0 h1 h2 h3
  by_cases h4 : 0 ≤ x4 ∧ x4 ≤ 10000
  case neg =>
    rw [show Clay.ok ⟨x0, x1, x2, x3, x4⟩ = false from decide_eq_false (fun h => h4 h.2.2.2.2)]
    exact impl_isClay_no4 x0 x1 x2 x3 x4 w hs h0 h1 h2 h3 h4
  rw [show Clay.ok ⟨x0, x1, x2, x3, x4⟩ = true from decide_eq_true ⟨h0, h1, h2, h3, h4⟩]
  exact impl_isClay_yes x0 x1 x2 x3 x4 w hs h0 h1 h2 h3 h4
set_option maxHeartbeats 400000 in
theorem spec_isClay_yes (x0 : ByteArray) (x1 x2 x3 x4 : Int) (g off : Nat) (w : World) (hs : x0.size ≤ maxLen) (hc0 : w.cell? ⟨g, off, none⟩ = some (.string x0)) (hc1 : w.cell? ⟨g, off + 1, none⟩ = some (.int .i64 x1)) (hc2 : w.cell? ⟨g, off + 2, none⟩ = some (.int .i64 x2)) (hc3 : w.cell? ⟨g, off + 3, none⟩ = some (.int .i64 x3)) (hc4 : w.cell? ⟨g, off + 4, none⟩ = some (.int .i64 x4)) (h0 : nameB x0 = true) (h1 : 0 ≤ x1 ∧ x1 ≤ 200) (h2 : 0 ≤ x2 ∧ x2 ≤ 1000) (h3 : 0 ≤ x3 ∧ x3 ≤ 1000) (h4 : 0 ≤ x4 ∧ x4 ≤ 10000) :
    Calls Tryz.prog 49 #[.pointer (some ⟨g, off, none⟩)] w fun e w' => e = .returned (.bool true) ∧ w = w' := by
  go_enter Tryz.func49, Tryz.ntmps49
  go_wp2_with fail
  refine (spec_isName x0 _ hs).mono ?_
  rintro e u0 ⟨rfl, rfl⟩
  rw [h0]
  go_wp2_with fail
  refine (spec_in_yes _ _ _ _ h1.1 h1.2).mono ?_
  rintro e u1 ⟨rfl, rfl⟩
  go_wp2_with fail
  refine (spec_mille_yes _ _ h2.1 h2.2).mono ?_
  rintro e u2 ⟨rfl, rfl⟩
  go_wp2_with fail
  refine (spec_mille_yes _ _ h3.1 h3.2).mono ?_
  rintro e u3 ⟨rfl, rfl⟩
  go_wp2_with fail
  refine (spec_in_yes _ _ _ _ h4.1 h4.2).mono ?_
  rintro e u4 ⟨rfl, rfl⟩
  go_wp2
  go_ret
  exact ⟨rfl, rfl⟩
set_option maxHeartbeats 400000 in
theorem spec_isClay_no0 (x0 : ByteArray) (x1 x2 x3 x4 : Int) (g off : Nat) (w : World) (hs : x0.size ≤ maxLen) (hc0 : w.cell? ⟨g, off, none⟩ = some (.string x0)) (hc1 : w.cell? ⟨g, off + 1, none⟩ = some (.int .i64 x1)) (hc2 : w.cell? ⟨g, off + 2, none⟩ = some (.int .i64 x2)) (hc3 : w.cell? ⟨g, off + 3, none⟩ = some (.int .i64 x3)) (hc4 : w.cell? ⟨g, off + 4, none⟩ = some (.int .i64 x4)) (h0 : nameB x0 = false) :
    Calls Tryz.prog 49 #[.pointer (some ⟨g, off, none⟩)] w fun e w' => e = .returned (.bool false) ∧ w = w' := by
  go_enter Tryz.func49, Tryz.ntmps49
  go_wp2_with fail
  refine (spec_isName x0 _ hs).mono ?_
  rintro e u0 ⟨rfl, rfl⟩
  rw [h0]
  go_wp2
  go_ret
  exact ⟨rfl, rfl⟩
set_option maxHeartbeats 400000 in
theorem spec_isClay_no1 (x0 : ByteArray) (x1 x2 x3 x4 : Int) (g off : Nat) (w : World) (hs : x0.size ≤ maxLen) (hc0 : w.cell? ⟨g, off, none⟩ = some (.string x0)) (hc1 : w.cell? ⟨g, off + 1, none⟩ = some (.int .i64 x1)) (hc2 : w.cell? ⟨g, off + 2, none⟩ = some (.int .i64 x2)) (hc3 : w.cell? ⟨g, off + 3, none⟩ = some (.int .i64 x3)) (hc4 : w.cell? ⟨g, off + 4, none⟩ = some (.int .i64 x4)) (h0 : nameB x0 = true) (h1 : ¬ (0 ≤ x1 ∧ x1 ≤ 200)) :
    Calls Tryz.prog 49 #[.pointer (some ⟨g, off, none⟩)] w fun e w' => e = .returned (.bool false) ∧ w = w' := by
  go_enter Tryz.func49, Tryz.ntmps49
  go_wp2_with fail
  refine (spec_isName x0 _ hs).mono ?_
  rintro e u0 ⟨rfl, rfl⟩
  rw [h0]
  go_wp2_with fail
  refine (spec_in_no _ _ _ _ h1).mono ?_
  rintro e u1 ⟨rfl, rfl⟩
  go_wp2
  go_ret
  exact ⟨rfl, rfl⟩
set_option maxHeartbeats 400000 in
theorem spec_isClay_no2 (x0 : ByteArray) (x1 x2 x3 x4 : Int) (g off : Nat) (w : World) (hs : x0.size ≤ maxLen) (hc0 : w.cell? ⟨g, off, none⟩ = some (.string x0)) (hc1 : w.cell? ⟨g, off + 1, none⟩ = some (.int .i64 x1)) (hc2 : w.cell? ⟨g, off + 2, none⟩ = some (.int .i64 x2)) (hc3 : w.cell? ⟨g, off + 3, none⟩ = some (.int .i64 x3)) (hc4 : w.cell? ⟨g, off + 4, none⟩ = some (.int .i64 x4)) (h0 : nameB x0 = true) (h1 : 0 ≤ x1 ∧ x1 ≤ 200) (h2 : ¬ (0 ≤ x2 ∧ x2 ≤ 1000)) :
    Calls Tryz.prog 49 #[.pointer (some ⟨g, off, none⟩)] w fun e w' => e = .returned (.bool false) ∧ w = w' := by
  go_enter Tryz.func49, Tryz.ntmps49
  go_wp2_with fail
  refine (spec_isName x0 _ hs).mono ?_
  rintro e u0 ⟨rfl, rfl⟩
  rw [h0]
  go_wp2_with fail
  refine (spec_in_yes _ _ _ _ h1.1 h1.2).mono ?_
  rintro e u1 ⟨rfl, rfl⟩
  go_wp2_with fail
  refine (spec_mille_no _ _ h2).mono ?_
  rintro e u2 ⟨rfl, rfl⟩
  go_wp2
  go_ret
  exact ⟨rfl, rfl⟩
set_option maxHeartbeats 400000 in
theorem spec_isClay_no3 (x0 : ByteArray) (x1 x2 x3 x4 : Int) (g off : Nat) (w : World) (hs : x0.size ≤ maxLen) (hc0 : w.cell? ⟨g, off, none⟩ = some (.string x0)) (hc1 : w.cell? ⟨g, off + 1, none⟩ = some (.int .i64 x1)) (hc2 : w.cell? ⟨g, off + 2, none⟩ = some (.int .i64 x2)) (hc3 : w.cell? ⟨g, off + 3, none⟩ = some (.int .i64 x3)) (hc4 : w.cell? ⟨g, off + 4, none⟩ = some (.int .i64 x4)) (h0 : nameB x0 = true) (h1 : 0 ≤ x1 ∧ x1 ≤ 200) (h2 : 0 ≤ x2 ∧ x2 ≤ 1000) (h3 : ¬ (0 ≤ x3 ∧ x3 ≤ 1000)) :
    Calls Tryz.prog 49 #[.pointer (some ⟨g, off, none⟩)] w fun e w' => e = .returned (.bool false) ∧ w = w' := by
  go_enter Tryz.func49, Tryz.ntmps49
  go_wp2_with fail
  refine (spec_isName x0 _ hs).mono ?_
  rintro e u0 ⟨rfl, rfl⟩
  rw [h0]
  go_wp2_with fail
  refine (spec_in_yes _ _ _ _ h1.1 h1.2).mono ?_
  rintro e u1 ⟨rfl, rfl⟩
  go_wp2_with fail
  refine (spec_mille_yes _ _ h2.1 h2.2).mono ?_
  rintro e u2 ⟨rfl, rfl⟩
  go_wp2_with fail
  refine (spec_mille_no _ _ h3).mono ?_
  rintro e u3 ⟨rfl, rfl⟩
  go_wp2
  go_ret
  exact ⟨rfl, rfl⟩
set_option maxHeartbeats 400000 in
theorem spec_isClay_no4 (x0 : ByteArray) (x1 x2 x3 x4 : Int) (g off : Nat) (w : World) (hs : x0.size ≤ maxLen) (hc0 : w.cell? ⟨g, off, none⟩ = some (.string x0)) (hc1 : w.cell? ⟨g, off + 1, none⟩ = some (.int .i64 x1)) (hc2 : w.cell? ⟨g, off + 2, none⟩ = some (.int .i64 x2)) (hc3 : w.cell? ⟨g, off + 3, none⟩ = some (.int .i64 x3)) (hc4 : w.cell? ⟨g, off + 4, none⟩ = some (.int .i64 x4)) (h0 : nameB x0 = true) (h1 : 0 ≤ x1 ∧ x1 ≤ 200) (h2 : 0 ≤ x2 ∧ x2 ≤ 1000) (h3 : 0 ≤ x3 ∧ x3 ≤ 1000) (h4 : ¬ (0 ≤ x4 ∧ x4 ≤ 10000)) :
    Calls Tryz.prog 49 #[.pointer (some ⟨g, off, none⟩)] w fun e w' => e = .returned (.bool false) ∧ w = w' := by
  go_enter Tryz.func49, Tryz.ntmps49
  go_wp2_with fail
  refine (spec_isName x0 _ hs).mono ?_
  rintro e u0 ⟨rfl, rfl⟩
  rw [h0]
  go_wp2_with fail
  refine (spec_in_yes _ _ _ _ h1.1 h1.2).mono ?_
  rintro e u1 ⟨rfl, rfl⟩
  go_wp2_with fail
  refine (spec_mille_yes _ _ h2.1 h2.2).mono ?_
  rintro e u2 ⟨rfl, rfl⟩
  go_wp2_with fail
  refine (spec_mille_yes _ _ h3.1 h3.2).mono ?_
  rintro e u3 ⟨rfl, rfl⟩
  go_wp2_with fail
  refine (spec_in_no _ _ _ _ h4).mono ?_
  rintro e u4 ⟨rfl, rfl⟩
  go_wp2
  go_ret
  exact ⟨rfl, rfl⟩
theorem spec_isClay (x0 : ByteArray) (x1 x2 x3 x4 : Int) (g off : Nat) (w : World) (hs : x0.size ≤ maxLen) (hc0 : w.cell? ⟨g, off, none⟩ = some (.string x0)) (hc1 : w.cell? ⟨g, off + 1, none⟩ = some (.int .i64 x1)) (hc2 : w.cell? ⟨g, off + 2, none⟩ = some (.int .i64 x2)) (hc3 : w.cell? ⟨g, off + 3, none⟩ = some (.int .i64 x3)) (hc4 : w.cell? ⟨g, off + 4, none⟩ = some (.int .i64 x4)) :
    Calls Tryz.prog 49 #[.pointer (some ⟨g, off, none⟩)] w fun e w' => e = .returned (.bool (Clay.ok ⟨x0, x1, x2, x3, x4⟩)) ∧ w = w' := by
  by_cases h0 : nameB x0 = true
  case neg =>
    rw [show Clay.ok ⟨x0, x1, x2, x3, x4⟩ = false from decide_eq_false (fun h => h0 h.1)]
    exact spec_isClay_no0 x0 x1 x2 x3 x4 g off w hs hc0 hc1 hc2 hc3 hc4 (by simpa using h0)
  by_cases h1 : 0 ≤ x1 ∧ x1 ≤ 200
  case neg =>
    rw [show Clay.ok ⟨x0, x1, x2, x3, x4⟩ = false from decide_eq_false (fun h => h1 h.2.1)]
    exact spec_isClay_no1 x0 x1 x2 x3 x4 g off w hs hc0 hc1 hc2 hc3 hc4 h0 h1
  by_cases h2 : 0 ≤ x2 ∧ x2 ≤ 1000
  case neg =>
    rw [show Clay.ok ⟨x0, x1, x2, x3, x4⟩ = false from decide_eq_false (fun h => h2 h.2.2.1)]
    exact spec_isClay_no2 x0 x1 x2 x3 x4 g off w hs hc0 hc1 hc2 hc3 hc4 h0 h1 h2
  by_cases h3 : 0 ≤ x3 ∧ x3 ≤ 1000
  case neg =>
    rw [show Clay.ok ⟨x0, x1, x2, x3, x4⟩ = false from decide_eq_false (fun h => h3 h.2.2.2.1)]
    exact spec_isClay_no3 x0 x1 x2 x3 x4 g off w hs hc0 hc1 hc2 hc3 hc4 h0 h1 h2 h3
  by_cases h4 : 0 ≤ x4 ∧ x4 ≤ 10000
  case neg =>
    rw [show Clay.ok ⟨x0, x1, x2, x3, x4⟩ = false from decide_eq_false (fun h => h4 h.2.2.2.2)]
    exact spec_isClay_no4 x0 x1 x2 x3 x4 g off w hs hc0 hc1 hc2 hc3 hc4 h0 h1 h2 h3 h4
  rw [show Clay.ok ⟨x0, x1, x2, x3, x4⟩ = true from decide_eq_true ⟨h0, h1, h2, h3, h4⟩]
  exact spec_isClay_yes x0 x1 x2 x3 x4 g off w hs hc0 hc1 hc2 hc3 hc4 h0 h1 h2 h3 h4
end Go.Proofs.YtfjdhjbfingofaaGreatDoor
