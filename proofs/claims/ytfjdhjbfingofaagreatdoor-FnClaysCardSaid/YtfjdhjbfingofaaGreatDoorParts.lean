/-
  What is proved: parts of clays: in range, their sum, their code, of the program and of the reference. Conditions: lengths that fit.
-/
import Derived.Test.YtfjdhjbfingofaaGreatDoorJoinB
import Derived.Test.YtfjdhjbfingofaaGreatDoorClayV2
namespace Go.Proofs.YtfjdhjbfingofaaGreatDoor
open Go.RowKit
set_option linter.unusedVariables false

def inP (lo hi : Int) (x : Int) : Bool := decide (lo ≤ x ∧ x ≤ hi)
theorem impl_outside1 (x lo hi : Int) (g h : Nat) (w : World) (hg : g < w.heap.size) (hh : h < w.heap.size) (hc : w.cell? ⟨g, 0, none⟩ = some (.int .i64 lo)) (hd : w.cell? ⟨h, 0, none⟩ = some (.int .i64 hi)) :
    Calls Tryz.prog 85 #[.int .i64 x, .pointer (some ⟨g, 0, none⟩), .pointer (some ⟨h, 0, none⟩)] w fun e w' => e = .returned (.bool (!(inP lo hi x))) ∧ w = w' := by
  by_cases hx : lo ≤ x ∧ x ≤ hi
  · rw [show inP lo hi x = true from decide_eq_true hx]
    go_enter Tryz.func85, Tryz.ntmps85
    go_wp2_with fail
    refine (impl_in_yes _ _ _ _ hx.1 hx.2).mono ?_
    rintro e w1 ⟨rfl, rfl⟩
    go_wp2
    go_ret
    exact ⟨rfl, rfl⟩
  · rw [show inP lo hi x = false from decide_eq_false hx]
    go_enter Tryz.func85, Tryz.ntmps85
    go_wp2_with fail
    refine (impl_in_no _ _ _ _ hx).mono ?_
    rintro e w1 ⟨rfl, rfl⟩
    go_wp2
    go_ret
    exact ⟨rfl, rfl⟩
set_option maxHeartbeats 1000000 in
theorem indexInt (A : Option Addr) (n c : Nat) (zs : List Int) (lo hi : Int) (g h : Nat) (w : World) (hn : n ≤ 16777216) (hl : zs.length = n) (hr : Row encI 1 w A zs) (hg : g < w.heap.size) (hh : h < w.heap.size) (hc : w.cell? ⟨g, 0, none⟩ = some (.int .i64 lo)) (hd : w.cell? ⟨h, 0, none⟩ = some (.int .i64 hi)) :
    Calls Tryz.prog 95 #[.slice A n c, .func (.func 85) #[] #[.pointer (some ⟨g, 0, none⟩), .pointer (some ⟨h, 0, none⟩)]] w fun e w' => (∃ v : Int, e = .returned (.int .i64 v) ∧ decide (0 ≤ v) = !(zs.all (inP lo hi))) ∧ w = w' := by
  have HA := hide hr
  have HL := hide hl
  have hnm : n ≤ 9223372036854775807 := by omega
  clear hr hl
  go_enter Tryz.func95, Tryz.ntmps95
  go_wp2
  go_loop [8] (fun i => ∃ k : Nat, k ≤ n ∧ i = .int .i64 k ∧ Hid (∀ (j : Nat) (x : Int), j < k → zs[j]? = some x → inP lo hi x = true)) (fun i => n - (intOf i).toNat)
  case atStart => exact ⟨0, by omega, rfl, hide (fun j x hj => absurd hj (by omega))⟩
  case round =>
    obtain ⟨k, hk, rfl, HS⟩ := hrel
    by_cases hlt : k < n
    · obtain ⟨x, hzk⟩ : ∃ z, zs[k]? = some z := ⟨zs[k]'(by have := HL.out; omega), List.getElem?_eq_getElem (by have := HL.out; omega)⟩
      obtain ⟨b, off, rfl, hb, a0⟩ := row_at_1 HA.out hzk rfl
      have HZ := hide hzk
      clear hzk
      have hki : (k : Int) < (n : Int) := by omega
      by_cases hok : inP lo hi x = true
      · have HS' := hide (all_more HS.out HZ.out hok)
        go_wp2_with fail
        refine (impl_outside1 x lo hi g h _ hg hh hc hd).mono ?_
        rintro e w1 ⟨rfl, rfl⟩
        rw [hok]
        clear hok
        go_wp2
        go_round
        case rel => exact ⟨k + 1, by omega, by go_num, HS'⟩
        case measure => simp [intOf]; omega
      · have hok' : inP lo hi x = false := by simpa using hok
        have HN := hide (all_not (f := inP lo hi) HZ.out hok')
        clear hok
        go_wp2_with fail
        refine (impl_outside1 x lo hi g h _ hg hh hc hd).mono ?_
        rintro e w1 ⟨rfl, rfl⟩
        rw [hok']
        clear hok'
        go_wp2
        go_ret
        exact ⟨⟨k, rfl, by rw [HN.out]; simp⟩, rfl⟩
    · have HN := hide (all_yes (f := inP lo hi) (zs := zs) (fun j x hx => HS.out j x (by have := (List.getElem?_eq_some_iff.1 hx).1; have := HL.out; omega) hx))
      go_wp2
      go_ret
      exact ⟨⟨-1, rfl, by rw [HN.out]; decide⟩, rfl⟩
theorem containsInt (A : Option Addr) (n c : Nat) (zs : List Int) (lo hi : Int) (g h : Nat) (w : World) (hn : n ≤ 16777216) (hl : zs.length = n) (hr : Row encI 1 w A zs) (hg : g < w.heap.size) (hh : h < w.heap.size) (hc : w.cell? ⟨g, 0, none⟩ = some (.int .i64 lo)) (hd : w.cell? ⟨h, 0, none⟩ = some (.int .i64 hi)) :
    Calls Tryz.prog 84 #[.slice A n c, .func (.func 85) #[] #[.pointer (some ⟨g, 0, none⟩), .pointer (some ⟨h, 0, none⟩)]] w fun e w' => e = .returned (.bool (!(zs.all (inP lo hi)))) ∧ w = w' := by
  have HA := hide hr
  have HL := hide hl
  clear hr hl
  go_enter Tryz.func84, Tryz.ntmps84
  go_wp2_with fail
  refine (indexInt _ _ _ zs lo hi g h _ hn HL.out HA.out hg hh hc hd).mono ?_
  rintro e w1 ⟨⟨v, rfl, hv⟩, rfl⟩
  have HV := hide hv
  clear hv
  go_wp2
  go_ret
  exact ⟨ret_bool HV.out, rfl⟩
theorem impl_outside (A : Option Addr) (n c : Nat) (zs : List Int) (lo hi : Int) (w : World) (hn : n ≤ 16777216) (hl : zs.length = n) (hr : Row encI 1 w A zs) :
    Calls Tryz.prog 67 #[.slice A n c, .int .i64 lo, .int .i64 hi] w fun e w' => e = .returned (.bool (!(zs.all (inP lo hi)))) ∧ Below w.heap.size w w' := by
  have HA := hide hr
  have HL := hide hl
  clear hr hl
  go_enter Tryz.func67, Tryz.ntmps67
  have HB0 := hide (((Below.refl w.heap.size w).alloc (Nat.le_refl _) (.cells #[.int .i64 lo] 2)).alloc (by simp) (.cells #[.int .i64 hi] 2))
  go_wp2_with fail
  refine (containsInt _ _ _ zs lo hi _ _ _ hn HL.out (HA.out.below HB0.out) (by simp <;> omega) (by simp <;> omega) (by simp [go_sem]) (by simp [go_sem])).mono ?_
  rintro e w1 ⟨rfl, rfl⟩
  go_wp2
  go_ret
  exact ⟨rfl, HB0.out⟩
end Go.Proofs.YtfjdhjbfingofaaGreatDoor
