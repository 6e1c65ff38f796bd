/-
  What is proved: the first limit that a blend does not keep, of the program and of the reference. Conditions: valid clays, parts and limits.
-/
import Derived.Test.YtgobpleckeeheaaMeans
import Derived.Deep.RegionWith
namespace Go.Proofs.Ytgobpleckeeheaa
open Go.RowKit
set_option linter.unusedVariables false

def LimOk (l h m s : Int) : Prop := 0 ≤ l ∧ l ≤ h ∧ h ≤ 1000 ∧ (0 ≤ m ∧ m ≤ 1000) ∧ (0 ≤ s ∧ s ≤ 1000)
instance (l h m s : Int) : Decidable (LimOk l h m s) := by unfold LimOk; infer_instance
def limB (l h m s : Int) : Bool := decide (LimOk l h m s)
def bfault (zs : List Clay) (ps : List Int) (l h m s : Int) : ByteArray := if totK (valOf 0) zs ps ps.length < l * sumK ps ps.length then ⟨#[108, 105, 116, 116, 108, 101]⟩ else if h * sumK ps ps.length < totK (valOf 0) zs ps ps.length then ⟨#[109, 117, 99, 104]⟩ else if m * sumK ps ps.length < totK (valOf 1) zs ps ps.length then ⟨#[108, 105, 109, 101]⟩ else if s * sumK ps ps.length < totK (valOf 2) zs ps ps.length then ⟨#[115, 97, 110, 100]⟩ else ⟨#[110, 111, 110, 101]⟩
set_option maxHeartbeats 1000000 in
theorem impl_isLimits (l h m s : Int) (w : World) :
    Calls Try.prog 51 #[.agg #[.int .i64 l, .int .i64 h, .int .i64 m, .int .i64 s]] w fun e w' => e = .returned (.bool (limB l h m s)) ∧ Below w.heap.size w w' := by
  go_enter Try.func51, Try.ntmps51
  go_wp2
  all_goals go_ret
  all_goals refine ⟨ret_bool ?_, by go_grown⟩
  all_goals first | exact (decide_eq_false (by unfold LimOk; omega)).symm | exact decide_eq_decide.2 (by unfold LimOk; omega) | exact (decide_eq_true (by unfold LimOk; omega)).symm
set_option maxHeartbeats 1000000 in
theorem spec_l03Limits (l h m s : Int) (g : Nat) (w : World) (r0 : w.cell? ⟨g, 0, none⟩ = some (.int .i64 l)) (r1 : w.cell? ⟨g, 1, none⟩ = some (.int .i64 h)) (r2 : w.cell? ⟨g, 2, none⟩ = some (.int .i64 m)) (r3 : w.cell? ⟨g, 3, none⟩ = some (.int .i64 s)) :
    Calls Try.prog 55 #[.pointer (some ⟨g, 0, none⟩)] w fun e w' => e = .returned (.bool (limB l h m s)) ∧ Below w.heap.size w w' := by
  by_cases h0 : 0 ≤ l ∧ l ≤ 1000
  case neg =>
    rw [show limB l h m s = false from decide_eq_false (by unfold LimOk; omega)]
    go_enter Try.func55, Try.ntmps55
    go_wp2
    go_quiet (first
      | (go_at_call_of 100 (Value.int IntKind.i64 l); exact Calls.quiet_of_same ((spec_mille_no l _ h0).mono fun _ _ hh => ⟨hh.1, hh.2.symm⟩)))
    go_wp2
    go_ret
    exact ⟨rfl, below_drewN (Below.refl _ _) _⟩
  by_cases h1 : l ≤ h ∧ h ≤ 1000
  case neg =>
    rw [show limB l h m s = false from decide_eq_false (by unfold LimOk; omega)]
    go_enter Try.func55, Try.ntmps55
    go_wp2
    go_quiet (first
      | (go_at_call_of 100 (Value.int IntKind.i64 l); exact Calls.quiet_of_same ((spec_mille_yes l _ h0.1 h0.2).mono fun _ _ hh => ⟨hh.1, hh.2.symm⟩))
      | exact Calls.quiet_of_same ((spec_in_no h l 1000 _ h1).mono fun _ _ hh => ⟨hh.1, hh.2.symm⟩))
    go_wp2
    go_ret
    exact ⟨rfl, below_drewN (Below.refl _ _) _⟩
  by_cases h2 : 0 ≤ m ∧ m ≤ 1000
  case neg =>
    rw [show limB l h m s = false from decide_eq_false (by unfold LimOk; omega)]
    go_enter Try.func55, Try.ntmps55
    go_wp2
    go_quiet (first
      | (go_at_call_of 100 (Value.int IntKind.i64 l); exact Calls.quiet_of_same ((spec_mille_yes l _ h0.1 h0.2).mono fun _ _ hh => ⟨hh.1, hh.2.symm⟩))
      | exact Calls.quiet_of_same ((spec_in_yes h l 1000 _ h1.1 h1.2).mono fun _ _ hh => ⟨hh.1, hh.2.symm⟩)
      | (go_at_call_of 100 (Value.int IntKind.i64 m); exact Calls.quiet_of_same ((spec_mille_no m _ h2).mono fun _ _ hh => ⟨hh.1, hh.2.symm⟩)))
    go_wp2
    go_ret
    exact ⟨rfl, below_drewN (Below.refl _ _) _⟩
  by_cases h3 : 0 ≤ s ∧ s ≤ 1000
  case neg =>
    rw [show limB l h m s = false from decide_eq_false (by unfold LimOk; omega)]
    go_enter Try.func55, Try.ntmps55
    go_wp2
    go_quiet (first
      | (go_at_call_of 100 (Value.int IntKind.i64 l); exact Calls.quiet_of_same ((spec_mille_yes l _ h0.1 h0.2).mono fun _ _ hh => ⟨hh.1, hh.2.symm⟩))
      | exact Calls.quiet_of_same ((spec_in_yes h l 1000 _ h1.1 h1.2).mono fun _ _ hh => ⟨hh.1, hh.2.symm⟩)
      | (go_at_call_of 100 (Value.int IntKind.i64 m); exact Calls.quiet_of_same ((spec_mille_yes m _ h2.1 h2.2).mono fun _ _ hh => ⟨hh.1, hh.2.symm⟩))
      | (go_at_call_of 100 (Value.int IntKind.i64 s); exact Calls.quiet_of_same ((spec_mille_no s _ h3).mono fun _ _ hh => ⟨hh.1, hh.2.symm⟩)))
    go_wp2
    go_ret
    exact ⟨rfl, below_drewN (Below.refl _ _) _⟩
  rw [show limB l h m s = true from decide_eq_true (by unfold LimOk; omega)]
  go_enter Try.func55, Try.ntmps55
  go_wp2
  go_quiet (first
    | (go_at_call_of 100 (Value.int IntKind.i64 l); exact Calls.quiet_of_same ((spec_mille_yes l _ h0.1 h0.2).mono fun _ _ hh => ⟨hh.1, hh.2.symm⟩))
    | exact Calls.quiet_of_same ((spec_in_yes h l 1000 _ h1.1 h1.2).mono fun _ _ hh => ⟨hh.1, hh.2.symm⟩)
    | (go_at_call_of 100 (Value.int IntKind.i64 m); exact Calls.quiet_of_same ((spec_mille_yes m _ h2.1 h2.2).mono fun _ _ hh => ⟨hh.1, hh.2.symm⟩))
    | (go_at_call_of 100 (Value.int IntKind.i64 s); exact Calls.quiet_of_same ((spec_mille_yes s _ h3.1 h3.2).mono fun _ _ hh => ⟨hh.1, hh.2.symm⟩)))
  go_wp2
  go_ret
  exact ⟨rfl, below_drewN (Below.refl _ _) _⟩
end Go.Proofs.Ytgobpleckeeheaa
