/-
  What is proved: a mould is valid, a list of moulds is valid: contracts of the program's and the reference's functions. Conditions: lengths that fit.
-/
import Derived.Test.YtgobpleckeeheaaMouldS
import Derived.Test.YtgobpleckeeheaaMould
import Derived.Test.YtgobpleckeeheaaSameL
namespace Go.Proofs.Ytgobpleckeeheaa
open Go.RowKit
set_option linter.unusedVariables false

def Mould.Ok (m : Mould) : Prop := (30 ≤ m.l ∧ m.l ≤ 800) ∧ (30 ≤ m.w ∧ m.w ≤ 800) ∧ (30 ≤ m.h ∧ m.h ≤ 800) ∧ (0 ≤ m.u ∧ m.u ≤ 100000)
instance (m : Mould) : Decidable m.Ok := by unfold Mould.Ok; infer_instance
def Mould.ok (m : Mould) : Bool := decide m.Ok
/-- A list of moulds is valid. -/
def mouldsOk (zs : List Mould) : Bool := decide (zs.length ≤ 20) && zs.all Mould.ok

set_option maxHeartbeats 400000 in
theorem impl_validMould_yes (a b c d : Int) (w : World) (h0 : 30 ≤ a ∧ a ≤ 800) (h1 : 30 ≤ b ∧ b ≤ 800) (h2 : 30 ≤ c ∧ c ≤ 800) (h3 : 0 ≤ d ∧ d ≤ 100000) :
    Calls Try.prog 90 #[.agg #[.int .i64 a, .int .i64 b, .int .i64 c, .int .i64 d]] w fun e w' => e = .returned (.bool true) ∧ Below w.heap.size w w' := by
  go_enter Try.func90, Try.ntmps90
  go_wp2_with fail
  refine (impl_in_yes _ _ _ _ h0.1 h0.2).mono ?_
  rintro e w1 ⟨rfl, rfl⟩
  go_wp2_with fail
  refine (impl_in_yes _ _ _ _ h1.1 h1.2).mono ?_
  rintro e w1 ⟨rfl, rfl⟩
  go_wp2_with fail
  refine (impl_in_yes _ _ _ _ h2.1 h2.2).mono ?_
  rintro e w1 ⟨rfl, rfl⟩
  go_wp2_with fail
  refine (impl_in_yes _ _ _ _ h3.1 h3.2).mono ?_
  rintro e w1 ⟨rfl, rfl⟩
  go_wp2
  go_ret
  exact ⟨rfl, by go_grown⟩
set_option maxHeartbeats 400000 in
theorem impl_validMould_no0 (a b c d : Int) (w : World) (h0 : ¬ (30 ≤ a ∧ a ≤ 800)) :
    Calls Try.prog 90 #[.agg #[.int .i64 a, .int .i64 b, .int .i64 c, .int .i64 d]] w fun e w' => e = .returned (.bool false) ∧ Below w.heap.size w w' := by
  go_enter Try.func90, Try.ntmps90
  go_wp2_with fail
  refine (impl_in_no _ _ _ _ h0).mono ?_
  rintro e w1 ⟨rfl, rfl⟩
  go_wp2
  go_ret
  exact ⟨rfl, by go_grown⟩
set_option maxHeartbeats 400000 in
theorem impl_validMould_no1 (a b c d : Int) (w : World) (h0 : 30 ≤ a ∧ a ≤ 800) (h1 : ¬ (30 ≤ b ∧ b ≤ 800)) :
    Calls Try.prog 90 #[.agg #[.int .i64 a, .int .i64 b, .int .i64 c, .int .i64 d]] w fun e w' => e = .returned (.bool false) ∧ Below w.heap.size w w' := by
  go_enter Try.func90, Try.ntmps90
  go_wp2_with fail
  refine (impl_in_yes _ _ _ _ h0.1 h0.2).mono ?_
  rintro e w1 ⟨rfl, rfl⟩
  go_wp2_with fail
  refine (impl_in_no _ _ _ _ h1).mono ?_
  rintro e w1 ⟨rfl, rfl⟩
  go_wp2
  go_ret
  exact ⟨rfl, by go_grown⟩
set_option maxHeartbeats 400000 in
theorem impl_validMould_no2 (a b c d : Int) (w : World) (h0 : 30 ≤ a ∧ a ≤ 800) (h1 : 30 ≤ b ∧ b ≤ 800) (h2 : ¬ (30 ≤ c ∧ c ≤ 800)) :
    Calls Try.prog 90 #[.agg #[.int .i64 a, .int .i64 b, .int .i64 c, .int .i64 d]] w fun e w' => e = .returned (.bool false) ∧ Below w.heap.size w w' := by
  go_enter Try.func90, Try.ntmps90
  go_wp2_with fail
  refine (impl_in_yes _ _ _ _ h0.1 h0.2).mono ?_
  rintro e w1 ⟨rfl, rfl⟩
  go_wp2_with fail
  refine (impl_in_yes _ _ _ _ h1.1 h1.2).mono ?_
  rintro e w1 ⟨rfl, rfl⟩
  go_wp2_with fail
  refine (impl_in_no _ _ _ _ h2).mono ?_
  rintro e w1 ⟨rfl, rfl⟩
  go_wp2
  go_ret
  exact ⟨rfl, by go_grown⟩
set_option maxHeartbeats 400000 in
theorem impl_validMould_no3 (a b c d : Int) (w : World) (h0 : 30 ≤ a ∧ a ≤ 800) (h1 : 30 ≤ b ∧ b ≤ 800) (h2 : 30 ≤ c ∧ c ≤ 800) (h3 : ¬ (0 ≤ d ∧ d ≤ 100000)) :
    Calls Try.prog 90 #[.agg #[.int .i64 a, .int .i64 b, .int .i64 c, .int .i64 d]] w fun e w' => e = .returned (.bool false) ∧ Below w.heap.size w w' := by
  go_enter Try.func90, Try.ntmps90
  go_wp2_with fail
  refine (impl_in_yes _ _ _ _ h0.1 h0.2).mono ?_
  rintro e w1 ⟨rfl, rfl⟩
  go_wp2_with fail
  refine (impl_in_yes _ _ _ _ h1.1 h1.2).mono ?_
  rintro e w1 ⟨rfl, rfl⟩
  go_wp2_with fail
  refine (impl_in_yes _ _ _ _ h2.1 h2.2).mono ?_
  rintro e w1 ⟨rfl, rfl⟩
  go_wp2_with fail
  refine (impl_in_no _ _ _ _ h3).mono ?_
  rintro e w1 ⟨rfl, rfl⟩
  go_wp2
  go_ret
  exact ⟨rfl, by go_grown⟩
theorem impl_validMould (a b c d : Int) (w : World) :
    Calls Try.prog 90 #[.agg #[.int .i64 a, .int .i64 b, .int .i64 c, .int .i64 d]] w fun e w' => e = .returned (.bool (Mould.ok ⟨a, b, c, d⟩)) ∧ Below w.heap.size w w' := by
  by_cases h0 : 30 ≤ a ∧ a ≤ 800
  · by_cases h1 : 30 ≤ b ∧ b ≤ 800
    · by_cases h2 : 30 ≤ c ∧ c ≤ 800
      · by_cases h3 : 0 ≤ d ∧ d ≤ 100000
        · rw [show Mould.ok ⟨a, b, c, d⟩ = true from decide_eq_true ⟨h0, h1, h2, h3⟩]
          exact impl_validMould_yes a b c d w h0 h1 h2 h3
        · rw [show Mould.ok ⟨a, b, c, d⟩ = false from decide_eq_false (fun h => h3 h.2.2.2)]
          exact impl_validMould_no3 a b c d w h0 h1 h2 h3
      · rw [show Mould.ok ⟨a, b, c, d⟩ = false from decide_eq_false (fun h => h2 h.2.2.1)]
        exact impl_validMould_no2 a b c d w h0 h1 h2
    · rw [show Mould.ok ⟨a, b, c, d⟩ = false from decide_eq_false (fun h => h1 h.2.1)]
      exact impl_validMould_no1 a b c d w h0 h1
  · rw [show Mould.ok ⟨a, b, c, d⟩ = false from decide_eq_false (fun h => h0 h.1)]
    exact impl_validMould_no0 a b c d w h0
set_option maxHeartbeats 400000 in
theorem spec_l05One_yes (a b c d : Int) (g off : Nat) (w : World) (hc0 : w.cell? ⟨g, off, none⟩ = some (.int .i64 a)) (hc1 : w.cell? ⟨g, off + 1, none⟩ = some (.int .i64 b)) (hc2 : w.cell? ⟨g, off + 2, none⟩ = some (.int .i64 c)) (hc3 : w.cell? ⟨g, off + 3, none⟩ = some (.int .i64 d)) (h0 : 30 ≤ a ∧ a ≤ 800) (h1 : 30 ≤ b ∧ b ≤ 800) (h2 : 30 ≤ c ∧ c ≤ 800) (h3 : 0 ≤ d ∧ d ≤ 100000) :
    Calls Try.prog 85 #[.pointer (some ⟨g, off, none⟩)] w fun e w' => e = .returned (.bool true) ∧ w = w' := by
  go_enter Try.func85, Try.ntmps85
  go_wp2_with fail
  refine (spec_in_yes _ _ _ _ h0.1 h0.2).mono ?_
  rintro e w1 ⟨rfl, rfl⟩
  go_wp2_with fail
  refine (spec_in_yes _ _ _ _ h1.1 h1.2).mono ?_
  rintro e w1 ⟨rfl, rfl⟩
  go_wp2_with fail
  refine (spec_in_yes _ _ _ _ h2.1 h2.2).mono ?_
  rintro e w1 ⟨rfl, rfl⟩
  go_wp2_with fail
  refine (spec_in_yes _ _ _ _ h3.1 h3.2).mono ?_
  rintro e w1 ⟨rfl, rfl⟩
  go_wp2
  go_ret
  exact ⟨rfl, rfl⟩
set_option maxHeartbeats 400000 in
theorem spec_l05One_no0 (a b c d : Int) (g off : Nat) (w : World) (hc0 : w.cell? ⟨g, off, none⟩ = some (.int .i64 a)) (hc1 : w.cell? ⟨g, off + 1, none⟩ = some (.int .i64 b)) (hc2 : w.cell? ⟨g, off + 2, none⟩ = some (.int .i64 c)) (hc3 : w.cell? ⟨g, off + 3, none⟩ = some (.int .i64 d)) (h0 : ¬ (30 ≤ a ∧ a ≤ 800)) :
    Calls Try.prog 85 #[.pointer (some ⟨g, off, none⟩)] w fun e w' => e = .returned (.bool false) ∧ w = w' := by
  go_enter Try.func85, Try.ntmps85
  go_wp2_with fail
  refine (spec_in_no _ _ _ _ h0).mono ?_
  rintro e w1 ⟨rfl, rfl⟩
  go_wp2
  go_ret
  exact ⟨rfl, rfl⟩
set_option maxHeartbeats 400000 in
theorem spec_l05One_no1 (a b c d : Int) (g off : Nat) (w : World) (hc0 : w.cell? ⟨g, off, none⟩ = some (.int .i64 a)) (hc1 : w.cell? ⟨g, off + 1, none⟩ = some (.int .i64 b)) (hc2 : w.cell? ⟨g, off + 2, none⟩ = some (.int .i64 c)) (hc3 : w.cell? ⟨g, off + 3, none⟩ = some (.int .i64 d)) (h0 : 30 ≤ a ∧ a ≤ 800) (h1 : ¬ (30 ≤ b ∧ b ≤ 800)) :
    Calls Try.prog 85 #[.pointer (some ⟨g, off, none⟩)] w fun e w' => e = .returned (.bool false) ∧ w = w' := by
  go_enter Try.func85, Try.ntmps85
  go_wp2_with fail
  refine (spec_in_yes _ _ _ _ h0.1 h0.2).mono ?_
  rintro e w1 ⟨rfl, rfl⟩
  go_wp2_with fail
  refine (spec_in_no _ _ _ _ h1).mono ?_
  rintro e w1 ⟨rfl, rfl⟩
  go_wp2
  go_ret
  exact ⟨rfl, rfl⟩
set_option maxHeartbeats 400000 in
theorem spec_l05One_no2 (a b c d : Int) (g off : Nat) (w : World) (hc0 : w.cell? ⟨g, off, none⟩ = some (.int .i64 a)) (hc1 : w.cell? ⟨g, off + 1, none⟩ = some (.int .i64 b)) (hc2 : w.cell? ⟨g, off + 2, none⟩ = some (.int .i64 c)) (hc3 : w.cell? ⟨g, off + 3, none⟩ = some (.int .i64 d)) (h0 : 30 ≤ a ∧ a ≤ 800) (h1 : 30 ≤ b ∧ b ≤ 800) (h2 : ¬ (30 ≤ c ∧ c ≤ 800)) :
    Calls Try.prog 85 #[.pointer (some ⟨g, off, none⟩)] w fun e w' => e = .returned (.bool false) ∧ w = w' := by
  go_enter Try.func85, Try.ntmps85
  go_wp2_with fail
  refine (spec_in_yes _ _ _ _ h0.1 h0.2).mono ?_
  rintro e w1 ⟨rfl, rfl⟩
  go_wp2_with fail
  refine (spec_in_yes _ _ _ _ h1.1 h1.2).mono ?_
  rintro e w1 ⟨rfl, rfl⟩
  go_wp2_with fail
  refine (spec_in_no _ _ _ _ h2).mono ?_
  rintro e w1 ⟨rfl, rfl⟩
  go_wp2
  go_ret
  exact ⟨rfl, rfl⟩
set_option maxHeartbeats 400000 in
theorem spec_l05One_no3 (a b c d : Int) (g off : Nat) (w : World) (hc0 : w.cell? ⟨g, off, none⟩ = some (.int .i64 a)) (hc1 : w.cell? ⟨g, off + 1, none⟩ = some (.int .i64 b)) (hc2 : w.cell? ⟨g, off + 2, none⟩ = some (.int .i64 c)) (hc3 : w.cell? ⟨g, off + 3, none⟩ = some (.int .i64 d)) (h0 : 30 ≤ a ∧ a ≤ 800) (h1 : 30 ≤ b ∧ b ≤ 800) (h2 : 30 ≤ c ∧ c ≤ 800) (h3 : ¬ (0 ≤ d ∧ d ≤ 100000)) :
    Calls Try.prog 85 #[.pointer (some ⟨g, off, none⟩)] w fun e w' => e = .returned (.bool false) ∧ w = w' := by
  go_enter Try.func85, Try.ntmps85
  go_wp2_with fail
  refine (spec_in_yes _ _ _ _ h0.1 h0.2).mono ?_
  rintro e w1 ⟨rfl, rfl⟩
  go_wp2_with fail
  refine (spec_in_yes _ _ _ _ h1.1 h1.2).mono ?_
  rintro e w1 ⟨rfl, rfl⟩
  go_wp2_with fail
  refine (spec_in_yes _ _ _ _ h2.1 h2.2).mono ?_
  rintro e w1 ⟨rfl, rfl⟩
  go_wp2_with fail
  refine (spec_in_no _ _ _ _ h3).mono ?_
  rintro e w1 ⟨rfl, rfl⟩
  go_wp2
  go_ret
  exact ⟨rfl, rfl⟩
theorem spec_l05One (a b c d : Int) (g off : Nat) (w : World) (hc0 : w.cell? ⟨g, off, none⟩ = some (.int .i64 a)) (hc1 : w.cell? ⟨g, off + 1, none⟩ = some (.int .i64 b)) (hc2 : w.cell? ⟨g, off + 2, none⟩ = some (.int .i64 c)) (hc3 : w.cell? ⟨g, off + 3, none⟩ = some (.int .i64 d)) :
    Calls Try.prog 85 #[.pointer (some ⟨g, off, none⟩)] w fun e w' => e = .returned (.bool (Mould.ok ⟨a, b, c, d⟩)) ∧ w = w' := by
  by_cases h0 : 30 ≤ a ∧ a ≤ 800
  · by_cases h1 : 30 ≤ b ∧ b ≤ 800
    · by_cases h2 : 30 ≤ c ∧ c ≤ 800
      · by_cases h3 : 0 ≤ d ∧ d ≤ 100000
        · rw [show Mould.ok ⟨a, b, c, d⟩ = true from decide_eq_true ⟨h0, h1, h2, h3⟩]
          exact spec_l05One_yes a b c d g off w hc0 hc1 hc2 hc3 h0 h1 h2 h3
        · rw [show Mould.ok ⟨a, b, c, d⟩ = false from decide_eq_false (fun h => h3 h.2.2.2)]
          exact spec_l05One_no3 a b c d g off w hc0 hc1 hc2 hc3 h0 h1 h2 h3
      · rw [show Mould.ok ⟨a, b, c, d⟩ = false from decide_eq_false (fun h => h2 h.2.2.1)]
        exact spec_l05One_no2 a b c d g off w hc0 hc1 hc2 hc3 h0 h1 h2
    · rw [show Mould.ok ⟨a, b, c, d⟩ = false from decide_eq_false (fun h => h1 h.2.1)]
      exact spec_l05One_no1 a b c d g off w hc0 hc1 hc2 hc3 h0 h1
  · rw [show Mould.ok ⟨a, b, c, d⟩ = false from decide_eq_false (fun h => h0 h.1)]
    exact spec_l05One_no0 a b c d g off w hc0 hc1 hc2 hc3 h0
theorem impl_validMoulds1 (a b c d : Int) (w : World) :
    Calls Try.prog 89 #[.agg #[.int .i64 a, .int .i64 b, .int .i64 c, .int .i64 d]] w fun e w' => e = .returned (.bool (!(Mould.ok ⟨a, b, c, d⟩))) ∧ Below w.heap.size w w' := by
  go_enter Try.func89, Try.ntmps89
  go_wp2_with fail
  refine (impl_validMould _ _ _ _ _).mono ?_
  rintro e w1 ⟨rfl, hb1⟩
  have B1 : Below w.heap.size w w1 := by
    refine Below.trans ?_ (hb1.mono ?_)
    · go_grown
    · go_size
  go_wp2
  go_ret
  exact ⟨rfl, B1⟩
set_option maxHeartbeats 1000000 in
/-- The first mould that is not valid, or -1. -/
theorem indexBad (A : Option Addr) (n c : Nat) (zs : List Mould) (w : World) (hn : n ≤ 16777216) (hl : zs.length = n) (h : Row Mould.enc 4 w A zs) :
    Calls Try.prog 113 #[.slice A n c, .func (.func 89) #[] #[]] w fun e w' => (∃ v : Int, e = .returned (.int .i64 v) ∧ decide (0 ≤ v) = !(zs.all Mould.ok)) ∧ Below w.heap.size w w' := by
  have HA := hide h
  have HL := hide hl
  have hnm : n ≤ 9223372036854775807 := by omega
  clear h hl
  go_enter Try.func113, Try.ntmps113
  go_wp2
  go_loopw [8] (fun i wr => ∃ k : Nat, k ≤ n ∧ i = .int .i64 k ∧ Hid (∀ j x, j < k → zs[j]? = some x → Mould.ok x = true) ∧ Hid (Below w.heap.size w wr)) (fun i _ => n - (intOf i).toNat)
  case atStart => exact ⟨0, by omega, rfl, hide (fun j x hj => absurd hj (by omega)), hide (Below.refl _ _)⟩
  case round =>
    obtain ⟨k, hk, rfl, HS, HB⟩ := hrel
    by_cases hlt : k < n
    · obtain ⟨⟨x0, x1, x2, x3⟩, hzk⟩ : ∃ z, zs[k]? = some z := ⟨zs[k]'(by have := HL.out; omega), List.getElem?_eq_getElem (by have := HL.out; omega)⟩
      obtain ⟨b, off, rfl, hb, a0, a1, a2, a3⟩ := row_at_4 (HA.out.below HB.out) hzk rfl
      have HZ := hide hzk
      clear hzk
      have hki : (k : Int) < (n : Int) := by omega
      by_cases hok : Mould.ok ⟨x0, x1, x2, x3⟩ = true
      · go_wp2_with fail
        refine (impl_validMoulds1 _ _ _ _ _).mono ?_
        rintro e w1 ⟨rfl, hb1⟩
        have HB1 := hide hb1
        have HO := hide hok
        clear hb1
        go_wp2
        go_roundw
        case rel => exact ⟨k + 1, by omega, by go_num, hide (all_more HS.out HZ.out HO.out), hide (HB.out.trans (HB1.out.mono HB.out.size))⟩
        case measure => simp [intOf]; omega
      · have hok' : Mould.ok ⟨x0, x1, x2, x3⟩ = false := by simpa using hok
        have HN := hide (all_not (f := Mould.ok) HZ.out hok')
        clear hok
        go_wp2_with fail
        refine (impl_validMoulds1 _ _ _ _ _).mono ?_
        rintro e w1 ⟨rfl, hb1⟩
        have HB1 := hide hb1
        clear hb1
        go_wp2
        go_ret
        exact ⟨⟨k, rfl, by rw [HN.out]; simp⟩, HB.out.trans (HB1.out.mono HB.out.size)⟩
    · have HN := hide (all_yes (f := Mould.ok) (zs := zs) (fun j x hx => HS.out j x (by have := (List.getElem?_eq_some_iff.1 hx).1; have := HL.out; omega) hx))
      go_wp2
      go_ret
      exact ⟨⟨-1, rfl, by rw [HN.out]; decide⟩, HB.out⟩
theorem containsBad (A : Option Addr) (n c : Nat) (zs : List Mould) (w : World) (hn : n ≤ 16777216) (hl : zs.length = n) (h : Row Mould.enc 4 w A zs) :
    Calls Try.prog 88 #[.slice A n c, .func (.func 89) #[] #[]] w fun e w' => e = .returned (.bool (!(zs.all Mould.ok))) ∧ Below w.heap.size w w' := by
  have HA := hide h
  have HL := hide hl
  clear h hl
  go_enter Try.func88, Try.ntmps88
  go_wp2_with fail
  refine (indexBad _ _ _ zs _ hn HL.out HA.out).mono ?_
  rintro e w1 ⟨⟨v, rfl, hv⟩, hb1⟩
  have HV := hide hv
  have HB1 := hide hb1
  clear hv hb1
  go_wp2
  go_ret
  exact ⟨ret_bool HV.out, HB1.out⟩
set_option maxHeartbeats 400000 in
theorem impl_validMoulds (A : Option Addr) (n c : Nat) (zs : List Mould) (w : World) (hn : n ≤ 16777216) (hl : zs.length = n) (h : Row Mould.enc 4 w A zs) :
    Calls Try.prog 35 #[.slice A n c] w fun e w' => e = .returned (.bool (mouldsOk zs)) ∧ Below w.heap.size w w' := by
  have HA := hide h
  have HL := hide hl
  have hnm : n ≤ 9223372036854775807 := by omega
  clear h
  by_cases h20 : n ≤ 20
  · have d : decide ((n : Int) ≤ 20) = true := by simp; omega
    have HM := hide (show mouldsOk zs = zs.all Mould.ok from by unfold mouldsOk; rw [decide_eq_true (by omega), Bool.true_and])
    rw [HM.out]
    clear hl h20
    go_enter Try.func35, Try.ntmps35
    go_wp2_with fail
    refine (containsBad _ _ _ zs _ hn HL.out HA.out).mono ?_
    rintro e w1 ⟨rfl, hb1⟩
    have HB1 := hide hb1
    clear hb1
    go_wp2
    go_ret
    exact ⟨rfl, HB1.out⟩
  · have d : decide ((n : Int) ≤ 20) = false := by simp; omega
    have HM := hide (show mouldsOk zs = false from by unfold mouldsOk; rw [decide_eq_false (by omega), Bool.false_and])
    rw [HM.out]
    clear hl h20
    go_enter Try.func35, Try.ntmps35
    go_wp2
    go_ret
    exact ⟨rfl, Below.refl _ _⟩
set_option maxHeartbeats 1000000 in
theorem spec_l05Ok (A : Option Addr) (n c : Nat) (zs : List Mould) (w : World) (hn : n ≤ 16777216) (hl : zs.length = n) (h : Row Mould.enc 4 w A zs) :
    Calls Try.prog 74 #[.slice A n c] w fun e w' => e = .returned (.bool (mouldsOk zs)) ∧ w = w' := by
  have HA := hide h
  have HL := hide hl
  have hnm : n ≤ 9223372036854775807 := by omega
  clear h hl
  go_enter Try.func74, Try.ntmps74
  go_wp2
  go_loop [3] (fun i => ∃ k : Nat, k ≤ n ∧ i = .int .i64 k ∧ Hid (∀ j x, j < k → zs[j]? = some x → Mould.ok x = true)) (fun i => n - (intOf i).toNat)
  case atStart => exact ⟨0, by omega, rfl, hide (fun j x hj => absurd hj (by omega))⟩
  case round =>
    obtain ⟨k, hk, rfl, HS⟩ := hrel
    by_cases hlt : k < n
    · obtain ⟨⟨x0, x1, x2, x3⟩, hzk⟩ : ∃ z, zs[k]? = some z := ⟨zs[k]'(by have := HL.out; omega), List.getElem?_eq_getElem (by have := HL.out; omega)⟩
      obtain ⟨b, off, rfl, hb, a0, a1, a2, a3⟩ := row_at_4 HA.out hzk rfl
      have HZ := hide hzk
      clear hzk
      have hki : (k : Int) < (n : Int) := by omega
      by_cases hok : Mould.ok ⟨x0, x1, x2, x3⟩ = true
      · have HO := hide hok
        go_wp2_with fail
        refine (spec_l05One x0 x1 x2 x3 _ _ _ a0 a1 a2 a3).mono ?_
        rintro e w1 ⟨rfl, rfl⟩
        go_wp2
        go_round
        case rel => exact ⟨k + 1, by omega, by go_num, hide (all_more HS.out HZ.out HO.out)⟩
        case measure => simp [intOf]; omega
      · have hok' : Mould.ok ⟨x0, x1, x2, x3⟩ = false := by simpa using hok
        have HN := hide (show mouldsOk zs = false from by unfold mouldsOk; rw [all_not (f := Mould.ok) HZ.out hok', Bool.and_false])
        clear hok
        go_wp2_with fail
        refine (spec_l05One x0 x1 x2 x3 _ _ _ a0 a1 a2 a3).mono ?_
        rintro e w1 ⟨rfl, rfl⟩
        go_wp2
        go_ret
        exact ⟨ret_bool HN.out.symm, rfl⟩
    · have HN := hide (show decide ((n : Int) ≤ 20) = mouldsOk zs from by
        unfold mouldsOk
        rw [all_yes (f := Mould.ok) (zs := zs) (fun j x hx => HS.out j x (by have := (List.getElem?_eq_some_iff.1 hx).1; have := HL.out; omega) hx), Bool.and_true, HL.out]
        exact decide_eq_decide.2 (by omega))
      go_wp2
      go_ret
      exact ⟨ret_bool HN.out, rfl⟩
theorem spec_validMoulds (A : Option Addr) (n c : Nat) (zs : List Mould) (w : World) (hn : n ≤ 16777216) (hl : zs.length = n) (h : Row Mould.enc 4 w A zs) :
    Calls Try.prog 36 #[.slice A n c] w fun e w' => e = .returned (.bool (mouldsOk zs)) ∧ w = w' := by
  have HA := hide h
  have HL := hide hl
  clear h hl
  go_enter Try.func36, Try.ntmps36
  go_wp2_with fail
  refine (spec_l05Ok _ _ _ zs _ hn HL.out HA.out).mono ?_
  rintro e w1 ⟨rfl, rfl⟩
  go_wp2
  go_ret
  exact ⟨rfl, rfl⟩
end Go.Proofs.Ytgobpleckeeheaa
