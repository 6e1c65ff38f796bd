/-
  What is proved: contracts of the laws' own functions on lists of the kind Problem: the copy, the comparison of equal lists, the marks. Conditions: lengths as named in each.
-/
import Derived.Test.YtlokmkiicmpccaaDoorProg
import Derived.Test.YtlokmkiicmpccaaDoorOwned
import Derived.Test.YtlokmkiicmpccaaDoorCheck
import Derived.Handy
import Derived.Lib.Hide
import Derived.BigQuiet
import Derived.Deep.QuietTactic
import Derived.StillTailTactics
import Derived.WalkSpells
namespace Go.Proofs.YtlokmkiicmpccaaDoor
open Go.RowKit
set_option linter.unusedVariables false

theorem info_Problem : (Tryd.prog.info? 53).map (fun i => (i.zero, i.size, i.bytes)) = some (some (.agg #[.int .i64 0, .int .i64 0]), 2, 16) := by kernel_rfl

theorem eqProblem_same (x0 : Int) (x1 : Int) (w : World) :
    Calls Tryd.prog 47 #[.agg #[.int .i64 x0, .int .i64 x1], .agg #[.int .i64 x0, .int .i64 x1]] w fun e w' => e = .returned (.bool true) ∧ Below w.heap.size w w' := by
  go_enter Tryd.func47, Tryd.ntmps47
  go_wp2
  go_ret
  exact ⟨rfl, by go_grown⟩
set_option maxRecDepth 100000 in
set_option maxHeartbeats 1000000 in
theorem eqProblemS_same (A B : Option Addr) (n c d : Nat) (zs : List Prob) (w : World) (hn : n ≤ 16777216) (hl : zs.length = n) (ha : Row Prob.enc 2 w A zs) (hb : Row Prob.enc 2 w B zs) :
    Calls Tryd.prog 23 #[.slice A n c, .slice B n d] w fun e w' => e = .returned (.bool true) ∧ Below w.heap.size w w' := by
  have HA := hide ha
  have HB := hide hb
  have HL := hide hl
  have hnm : n ≤ 9223372036854775807 := by omega
  clear ha hb hl
  go_enter Tryd.func23, Tryd.ntmps23
  go_wp2
  go_loopw [5] (fun i wr => ∃ k : Nat, k ≤ n ∧ i = .int .i64 k ∧ Hid (Below w.heap.size w wr)) (fun i _ => n - (intOf i).toNat)
  case atStart => exact ⟨0, by omega, rfl, hide (Below.refl _ _)⟩
  case round =>
    obtain ⟨k, hk, rfl, HW⟩ := hrel
    by_cases hlt : k < n
    · obtain ⟨⟨x0, x1⟩, hzk⟩ : ∃ z, zs[k]? = some z := ⟨zs[k]'(by have := HL.out; omega), List.getElem?_eq_getElem (by have := HL.out; omega)⟩
      obtain ⟨ba, offa, rfl, hba, a0, a1⟩ := row_at_2 (HA.out.below HW.out) hzk rfl
      obtain ⟨bb, offb, rfl, hbb, b0, b1⟩ := row_at_2 (HB.out.below HW.out) hzk rfl
      clear hzk
      have hki : (k : Int) < (n : Int) := by omega
      go_wp2
      refine wp_region_still_tail 8 (by kernel_rfl) (by kernel_rfl) ?_
      simp only [List.take_succ_cons, List.take_zero, List.drop_succ_cons, List.drop_zero]
      still_step
      still_step
      still_step
      still_step
      repeat still_step
      refine wpStill_nil ?_
      change wpList _ _ _ _ _ wr.drew
      go_wp2_with fail
      refine (eqProblem_same _ _ _).mono ?_
      rintro e w2 ⟨rfl, hb2⟩
      have HB2 := hide hb2
      clear hb2
      go_wp2
      go_roundw
      case rel => exact ⟨k + 1, by omega, by go_num, hide (HW.out.drew.trans (HB2.out.mono HW.out.size))⟩
      case measure => simp [intOf]; omega
    · go_wp2
      go_ret
      exact ⟨rfl, HW.out⟩
/-- The marked elements, from k0 on. -/
def marksProblem (k0 : Int) (n : Nat) : List Prob := (List.range n).map fun i : Nat => ⟨k0 + 2 * (i : Int), k0 + 2 * (i : Int) + 1⟩
theorem marksProblem_at (k0 : Int) (n i : Nat) (h : i < n) : (marksProblem k0 n)[i]? = some ⟨k0 + 2 * (i : Int), k0 + 2 * (i : Int) + 1⟩ := by
  unfold marksProblem
  rw [List.getElem?_map, List.getElem?_range h]
  rfl
theorem marksProblem_length (k0 : Int) (n : Nat) : (marksProblem k0 n).length = n := by simp [marksProblem]
theorem marksProblem_take (k0 : Int) (n i : Nat) (h : i ≤ n) : (marksProblem k0 n).take i = marksProblem k0 i := by
  unfold marksProblem
  rw [← List.map_take, List.take_range, Nat.min_eq_left h]
set_option maxHeartbeats 1000000 in
theorem markProblemS_ok (g base n c : Nat) (k0 : Int) (L : List Value) (w : World) (hn : n ≤ 16777216) (h0 : 0 ≤ k0) (h1 : k0 ≤ 1000000000000) (h : w.ownsRow base 53 2 (.slice (some ⟨g, 0, none⟩) n c) n L) :
    Calls Tryd.prog 24 #[.slice (some ⟨g, 0, none⟩) n c, .int .i64 k0] w fun e w' => e = .returned (.int .i64 (k0 + 2 * n)) ∧ w'.ownsRow base 53 2 (.slice (some ⟨g, 0, none⟩) n c) n (flat Prob.enc (marksProblem k0 n)) ∧ w.grownBy w' (some g) := by
  have HA := hide h
  have hnm : n ≤ 9223372036854775807 := by omega
  clear h
  go_enter Tryd.func24, Tryd.ntmps24
  go_wp2
  go_loopw [1, 5] (fun q i wr => ∃ k : Nat, k ≤ n ∧ i = .int .i64 k ∧ q = .int .i64 (k0 + 2 * k) ∧ Hid (∃ Z : List Value, Z.length = (n - k) * 2 ∧ wr.ownsRow base 53 2 (.slice (some ⟨g, 0, none⟩) n c) n (flat Prob.enc ((marksProblem k0 n).take k) ++ Z)) ∧ Hid (w.grownBy wr (some g))) (fun _ i _ => n - (intOf i).toNat)
  case atStart => exact ⟨0, by omega, rfl, by simp, hide ⟨_, HA.out.1.trans (by rw [Nat.sub_zero]), by simpa [flat] using HA.out⟩, hide (World.grownBy.refl _ _)⟩
  case round =>
    obtain ⟨k, hk, rfl, rfl, HO, HB⟩ := hrel
    by_cases hlt : k < n
    · obtain ⟨Z, hZ, hown⟩ := HO.out
      obtain ⟨o0, o1, p0, p1, q0, q1⟩ := own_at_2 hown hlt
      have hg := own_lt hown
      have HW := hide hown
      have HZl := hide hZ
      clear hZ hown
      go_wp2
      go_roundw
      case rel =>
        have h1 := own_store_2 (.int .i64 (k0 + 2 * (k : Int))) (.int .i64 (k0 + 2 * (k : Int) + 1)) HW.out hlt
        have h2 := fill_step (enc := Prob.enc) (k := 2) (fun _ => rfl) (marksProblem k0 n) k _ Z (marksProblem_at k0 n k hlt)
        refine ⟨k + 1, by omega, by go_num, int_eq (by omega), hide ⟨Z.drop 2, by rw [List.length_drop, HZl.out]; omega, ?_⟩, hide (grown_trans HB.out h1.2)⟩
        rw [← h2]
        exact h1.1
      case measure => simp [intOf]; omega
    · obtain ⟨Z, hZ, hown⟩ := HO.out
      have hz0 : Z = [] := List.eq_nil_of_length_eq_zero (by rw [hZ]; omega)
      have htk : (marksProblem k0 n).take k = marksProblem k0 n := List.take_of_length_le (by rw [marksProblem_length]; omega)
      rw [hz0, htk, List.append_nil] at hown
      have HW := hide hown
      obtain rfl : k = n := by omega
      clear hZ hown hz0 htk
      go_wp2
      go_ret
      exact ⟨rfl, HW.out, HB.out⟩
set_option maxHeartbeats 1000000 in
theorem heldProblemS_ok (A : Option Addr) (n c : Nat) (k0 : Int) (w : World) (hn : n ≤ 16777216) (h0 : 0 ≤ k0) (h1 : k0 ≤ 1000000000000) (h : Row Prob.enc 2 w A (marksProblem k0 n)) :
    Calls Tryd.prog 25 #[.slice A n c, .int .i64 k0] w fun e w' => e = .returned (.int .i64 (k0 + 2 * n)) ∧ w = w' := by
  have HA := hide h
  have hnm : n ≤ 9223372036854775807 := by omega
  clear h
  go_enter Tryd.func25, Tryd.ntmps25
  go_wp2
  go_loop [1, 5] (fun q i => ∃ k : Nat, k ≤ n ∧ i = .int .i64 k ∧ q = .int .i64 (k0 + 2 * k)) (fun _ i => n - (intOf i).toNat)
  case atStart => exact ⟨0, by omega, rfl, by simp⟩
  case round =>
    obtain ⟨k, hk, rfl, rfl⟩ := hrel
    by_cases hlt : k < n
    · obtain ⟨b, off, rfl, hb, a0, a1⟩ := row_at_2 HA.out (marksProblem_at k0 n k hlt) rfl
      go_wp2
      go_round
      case rel => exact ⟨k + 1, by omega, by go_num, int_eq (by omega)⟩
      case measure => simp [intOf]; omega
    · obtain rfl : k = n := by omega
      go_wp2
      go_ret
      exact ⟨rfl, rfl⟩
set_option maxHeartbeats 400000 in
theorem markProblemS_own (lo hi : Nat) (A : Option Addr) (n c : Nat) (k0 : Int) (xs : List Prob) (w : World) (hn : n ≤ 16777216) (h0 : 0 ≤ k0) (h1 : k0 ≤ 1000000000000) (h : Own 53 2 Prob.enc w lo hi A n c xs) :
    Calls Tryd.prog 24 #[.slice A n c, .int .i64 k0] w fun e w' => e = .returned (.int .i64 (k0 + 2 * n)) ∧ Own 53 2 Prob.enc w' lo hi A n c (marksProblem k0 n) ∧ Touch lo hi w w' := by
  rcases h.head with ⟨rfl, rfl, rfl⟩ | ⟨g, rfl, hg1, hg2⟩
  · have HI := hide h.hi_le
    clear h
    go_enter Tryd.func24, Tryd.ntmps24
    go_wp2
    refine wp_loop_rounds 1 ?_
    rw [rounds_succ]
    go_wp2
    go_ret
    exact ⟨ret_int (by omega), Own.nil HI.out, Touch.refl _ _ _⟩
  · refine (markProblemS_ok g lo n c k0 _ w hn h0 h1 h.own).mono fun e w' ⟨he, ho, hb⟩ => ⟨he, ⟨marksProblem_length _ _, ho, h.up, Nat.le_trans h.hi_le hb.size⟩, Touch.of_grown hb hg1 hg2⟩
end Go.Proofs.YtlokmkiicmpccaaDoor
