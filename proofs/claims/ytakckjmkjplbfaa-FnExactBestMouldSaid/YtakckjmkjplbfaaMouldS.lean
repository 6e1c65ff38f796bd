/-
  What is proved: contracts of the laws' own functions on lists of the kind Mould: the copy, the comparison of equal lists, the marks. Conditions: lengths as named in each.
-/
import Derived.Test.YtakckjmkjplbfaaProg
import Derived.Test.YtakckjmkjplbfaaOwned
import Derived.Handy
import Derived.Lib.Hide
import Derived.BigQuiet
import Derived.Deep.QuietTactic
import Derived.StillTailTactics
import Derived.WalkSpells
namespace Go.Proofs.Ytakckjmkjplbfaa
open Go.RowKit
set_option linter.unusedVariables false

theorem szMouldS_ok (A : Option Addr) (n c : Nat) (left : Int) (w : World) (h0 : 0 ≤ left) (h1 : left ≤ 1048576) (hn : n ≤ maxLen) :
    Calls Try.prog 12 #[.slice A n c, .int .i64 left] w fun e w' => e = .returned (.int .i64 (if left < n then -1 else left - n)) ∧ w = w' := by
  unfold maxLen at hn
  by_cases h : left < n
  · have d : decide (left - (n : Int) < 0) = true := by simp; omega
    rw [if_pos h]
    go_enter Try.func12, Try.ntmps12
    go_wp2
    go_ret
    exact ⟨rfl, rfl⟩
  · have d : decide (left - (n : Int) < 0) = false := by simp; omega
    rw [if_neg h]
    go_enter Try.func12, Try.ntmps12
    go_wp2
    go_ret
    exact ⟨rfl, rfl⟩
theorem toMould_ok (x0 : Int) (x1 : Int) (x2 : Int) (x3 : Int) (w : World) :
    Calls Try.prog 20 #[.agg #[.int .i64 x0, .int .i64 x1, .int .i64 x2, .int .i64 x3]] w fun e w' => e = .returned (.agg #[.int .i64 x0, .int .i64 x1, .int .i64 x2, .int .i64 x3]) ∧ Below w.heap.size w w' := by
  go_enter Try.func20, Try.ntmps20
  go_wp2
  exact bodyPost_ret (v := .agg #[.int .i64 x0, .int .i64 x1, .int .i64 x2, .int .i64 x3]) (by simp [results, Try.results20, go_sem]) rfl ⟨rfl, by go_grown⟩
theorem info_Mould : (Try.prog.info? 35).map (fun i => (i.zero, i.size, i.bytes)) = some (some (.agg #[.int .i64 0, .int .i64 0, .int .i64 0, .int .i64 0]), 4, 32) := by kernel_rfl

set_option maxHeartbeats 1000000 in
theorem toMouldS_ok (A : Option Addr) (n c : Nat) (zs : List Mould) (w : World) (hn : n ≤ 1048576) (h : ArgRow Mould.enc Mould.Wf 4 w A n c zs) :
    Calls Try.prog 14 #[.slice A n c] w fun e w' => ∃ g, e = .returned (.slice (some ⟨g, 0, none⟩) n n) ∧ w'.ownsRow w.heap.size 35 4 (.slice (some ⟨g, 0, none⟩) n n) n (flat Mould.enc zs) ∧ Below w.heap.size w w' := by
  obtain ⟨i0, hi0, hz0, hz1, hz2⟩ := info_parts info_Mould
  have HA := hide h
  have hnm : n ≤ 9223372036854775807 := by omega
  clear h
  go_enter Try.func14, Try.ntmps14
  go_wp2_with (at_make; refine wpList_make_full _ rfl _ _ _ rfl w.heap.size 35 i0 _ 4 Try.underlying25 hi0 hz0 hz1 .i64 .i64 _ _ n rfl rfl rfl rfl (by rw [hz2]; omega) (by unfold maxLen; omega) (Nat.le_refl _) ?_; intro w1 hown1 hg1)
  clear hi0 hz0 hz1 hz2
  go_loopw [4] (fun i wr => ∃ k : Nat, k ≤ n ∧ i = .int .i64 k ∧ Hid (∃ Z : List Value, Z.length = (n - k) * 4 ∧ wr.ownsRow w.heap.size 35 4 (.slice (some ⟨w.heap.size, 0, none⟩) n n) n (flat Mould.enc (zs.take k) ++ Z)) ∧ Hid (Below w.heap.size w wr)) (fun i _ => n - (intOf i).toNat)
  case atStart => exact ⟨0, by omega, rfl, hide ⟨_, hown1.1.trans (by rw [Nat.sub_zero]), by simpa [flat] using hown1⟩, hide ((Below.refl _ _).grown hg1 (Nat.le_refl _) (by simp))⟩
  case round =>
    obtain ⟨k, hk, rfl, HO, HB⟩ := hrel
    by_cases hlt : k < n
    · obtain ⟨⟨x0, x1, x2, x3⟩, hzk⟩ : ∃ z, zs[k]? = some z := ⟨zs[k]'(by have := HA.out.1; omega), List.getElem?_eq_getElem (by have := HA.out.1; omega)⟩
      obtain ⟨b, off, rfl, hb, a0, a1, a2, a3⟩ := row_at_4 ((Row.of_arg HA.out).below HB.out) hzk rfl
      obtain ⟨Z, hZ, hown⟩ := HO.out
      obtain ⟨o0, o1, o2, o3, p0, p1, p2, p3, q0, q1, q2, q3⟩ := own_at_4 hown hlt
      have hg := own_lt hown
      have HZ := hide hzk
      have HW := hide hown
      have HZl := hide hZ
      clear hzk hZ hown
      go_wp2_with fail
      refine (toMould_ok _ _ _ _ _).mono ?_
      rintro e w2 ⟨rfl, hb2⟩
      obtain ⟨hc2, hf2⟩ := bcell hb2
      have hz2 := hb2.size
      have HB2 := hide hb2
      clear hb2
      go_wp2
      go_roundw
      case rel =>
        have h1 := own_store_4 (.int .i64 x0) (.int .i64 x1) (.int .i64 x2) (.int .i64 x3) (own_below HW.out HB2.out) hlt
        have h2 := fill_step (enc := Mould.enc) (k := 4) (fun _ => rfl) zs k ⟨x0, x1, x2, x3⟩ Z HZ.out
        refine ⟨k + 1, by omega, by go_num, hide ⟨Z.drop 4, by rw [List.length_drop, HZl.out]; omega, ?_⟩, hide ?_⟩
        · rw [← h2]
          exact h1.1
        · exact ((HB.out).trans (HB2.out.mono (by omega))).trans (grown_below h1.2 (Nat.le_refl _) (by omega))
      case measure => simp [intOf]; omega
    · obtain ⟨Z, hZ, hown⟩ := HO.out
      have hz0 : Z = [] := List.eq_nil_of_length_eq_zero (by rw [hZ]; omega)
      have hzl := HA.out.1
      have htk : zs.take k = zs := List.take_of_length_le (by omega)
      rw [hz0, htk, List.append_nil] at hown
      have HW := hide hown
      clear hZ hown hz0 hzl htk
      go_wp2
      go_ret
      exact ⟨w.heap.size, rfl, HW.out, HB.out⟩
theorem eqMould_same (x0 : Int) (x1 : Int) (x2 : Int) (x3 : Int) (w : World) :
    Calls Try.prog 47 #[.agg #[.int .i64 x0, .int .i64 x1, .int .i64 x2, .int .i64 x3], .agg #[.int .i64 x0, .int .i64 x1, .int .i64 x2, .int .i64 x3]] w fun e w' => e = .returned (.bool true) ∧ Below w.heap.size w w' := by
  go_enter Try.func47, Try.ntmps47
  go_wp2
  go_ret
  exact ⟨rfl, by go_grown⟩
set_option maxHeartbeats 1000000 in
theorem eqMouldS_same (A B : Option Addr) (n c d : Nat) (zs : List Mould) (w : World) (hn : n ≤ 16777216) (hl : zs.length = n) (ha : Row Mould.enc 4 w A zs) (hb : Row Mould.enc 4 w B zs) :
    Calls Try.prog 16 #[.slice A n c, .slice B n d] w fun e w' => e = .returned (.bool true) ∧ Below w.heap.size w w' := by
  have HA := hide ha
  have HB := hide hb
  have HL := hide hl
  have hnm : n ≤ 9223372036854775807 := by omega
  clear ha hb hl
  go_enter Try.func16, Try.ntmps16
  go_wp2
  go_loopw [5] (fun i wr => ∃ k : Nat, k ≤ n ∧ i = .int .i64 k ∧ Hid (Below w.heap.size w wr)) (fun i _ => n - (intOf i).toNat)
  case atStart => exact ⟨0, by omega, rfl, hide (Below.refl _ _)⟩
  case round =>
    obtain ⟨k, hk, rfl, HW⟩ := hrel
    by_cases hlt : k < n
    · obtain ⟨⟨x0, x1, x2, x3⟩, hzk⟩ : ∃ z, zs[k]? = some z := ⟨zs[k]'(by have := HL.out; omega), List.getElem?_eq_getElem (by have := HL.out; omega)⟩
      obtain ⟨ba, offa, rfl, hba, a0, a1, a2, a3⟩ := row_at_4 (HA.out.below HW.out) hzk rfl
      obtain ⟨bb, offb, rfl, hbb, b0, b1, b2, b3⟩ := row_at_4 (HB.out.below HW.out) hzk rfl
      clear hzk
      have hki : (k : Int) < (n : Int) := by omega
      go_wp2
      refine wp_region_still_tail 8 (by kernel_rfl) (by kernel_rfl) ?_
      simp only [List.take_succ_cons, List.take_zero, List.drop_succ_cons, List.drop_zero]
      still_step
      still_step
      still_step
      still_step
      repeat still_step
      refine wpStill_nil ?_
      change wpList _ _ _ _ _ wr.drew
      go_wp2_with fail
      refine (eqMould_same _ _ _ _ _).mono ?_
      rintro e w2 ⟨rfl, hb2⟩
      have HB2 := hide hb2
      clear hb2
      go_wp2
      go_roundw
      case rel => exact ⟨k + 1, by omega, by go_num, hide (HW.out.drew.trans (HB2.out.mono HW.out.size))⟩
      case measure => simp [intOf]; omega
    · go_wp2
      go_ret
      exact ⟨rfl, HW.out⟩
/-- The marked elements, from k0 on. -/
def marksMould (k0 : Int) (n : Nat) : List Mould := (List.range n).map fun i : Nat => ⟨k0 + 4 * (i : Int), k0 + 4 * (i : Int) + 1, k0 + 4 * (i : Int) + 1 + 1, k0 + 4 * (i : Int) + 1 + 1 + 1⟩
theorem marksMould_at (k0 : Int) (n i : Nat) (h : i < n) : (marksMould k0 n)[i]? = some ⟨k0 + 4 * (i : Int), k0 + 4 * (i : Int) + 1, k0 + 4 * (i : Int) + 1 + 1, k0 + 4 * (i : Int) + 1 + 1 + 1⟩ := by
  unfold marksMould
  rw [List.getElem?_map, List.getElem?_range h]
  rfl
theorem marksMould_length (k0 : Int) (n : Nat) : (marksMould k0 n).length = n := by simp [marksMould]
theorem marksMould_take (k0 : Int) (n i : Nat) (h : i ≤ n) : (marksMould k0 n).take i = marksMould k0 i := by
  unfold marksMould
  rw [← List.map_take, List.take_range, Nat.min_eq_left h]
set_option maxHeartbeats 1000000 in
theorem markMouldS_ok (g base n c : Nat) (k0 : Int) (L : List Value) (w : World) (hn : n ≤ 16777216) (h0 : 0 ≤ k0) (h1 : k0 ≤ 1000000000000) (h : w.ownsRow base 35 4 (.slice (some ⟨g, 0, none⟩) n c) n L) :
    Calls Try.prog 30 #[.slice (some ⟨g, 0, none⟩) n c, .int .i64 k0] w fun e w' => e = .returned (.int .i64 (k0 + 4 * n)) ∧ w'.ownsRow base 35 4 (.slice (some ⟨g, 0, none⟩) n c) n (flat Mould.enc (marksMould k0 n)) ∧ w.grownBy w' (some g) := by
  have HA := hide h
  have hnm : n ≤ 9223372036854775807 := by omega
  clear h
  go_enter Try.func30, Try.ntmps30
  go_wp2
  go_loopw [1, 5] (fun q i wr => ∃ k : Nat, k ≤ n ∧ i = .int .i64 k ∧ q = .int .i64 (k0 + 4 * k) ∧ Hid (∃ Z : List Value, Z.length = (n - k) * 4 ∧ wr.ownsRow base 35 4 (.slice (some ⟨g, 0, none⟩) n c) n (flat Mould.enc ((marksMould k0 n).take k) ++ Z)) ∧ Hid (w.grownBy wr (some g))) (fun _ i _ => n - (intOf i).toNat)
  case atStart => exact ⟨0, by omega, rfl, by simp, hide ⟨_, HA.out.1.trans (by rw [Nat.sub_zero]), by simpa [flat] using HA.out⟩, hide (World.grownBy.refl _ _)⟩
  case round =>
    obtain ⟨k, hk, rfl, rfl, HO, HB⟩ := hrel
    by_cases hlt : k < n
    · obtain ⟨Z, hZ, hown⟩ := HO.out
      obtain ⟨o0, o1, o2, o3, p0, p1, p2, p3, q0, q1, q2, q3⟩ := own_at_4 hown hlt
      have hg := own_lt hown
      have HW := hide hown
      have HZl := hide hZ
      clear hZ hown
      go_wp2
      go_roundw
      case rel =>
        have h1 := own_store_4 (.int .i64 (k0 + 4 * (k : Int))) (.int .i64 (k0 + 4 * (k : Int) + 1)) (.int .i64 (k0 + 4 * (k : Int) + 1 + 1)) (.int .i64 (k0 + 4 * (k : Int) + 1 + 1 + 1)) HW.out hlt
        have h2 := fill_step (enc := Mould.enc) (k := 4) (fun _ => rfl) (marksMould k0 n) k _ Z (marksMould_at k0 n k hlt)
        refine ⟨k + 1, by omega, by go_num, int_eq (by omega), hide ⟨Z.drop 4, by rw [List.length_drop, HZl.out]; omega, ?_⟩, hide (grown_trans HB.out h1.2)⟩
        rw [← h2]
        exact h1.1
      case measure => simp [intOf]; omega
    · obtain ⟨Z, hZ, hown⟩ := HO.out
      have hz0 : Z = [] := List.eq_nil_of_length_eq_zero (by rw [hZ]; omega)
      have htk : (marksMould k0 n).take k = marksMould k0 n := List.take_of_length_le (by rw [marksMould_length]; omega)
      rw [hz0, htk, List.append_nil] at hown
      have HW := hide hown
      obtain rfl : k = n := by omega
      clear hZ hown hz0 htk
      go_wp2
      go_ret
      exact ⟨rfl, HW.out, HB.out⟩
set_option maxHeartbeats 1000000 in
theorem heldMouldS_ok (A : Option Addr) (n c : Nat) (k0 : Int) (w : World) (hn : n ≤ 16777216) (h0 : 0 ≤ k0) (h1 : k0 ≤ 1000000000000) (h : Row Mould.enc 4 w A (marksMould k0 n)) :
    Calls Try.prog 33 #[.slice A n c, .int .i64 k0] w fun e w' => e = .returned (.int .i64 (k0 + 4 * n)) ∧ w = w' := by
  have HA := hide h
  have hnm : n ≤ 9223372036854775807 := by omega
  clear h
  go_enter Try.func33, Try.ntmps33
  go_wp2
  go_loop [1, 5] (fun q i => ∃ k : Nat, k ≤ n ∧ i = .int .i64 k ∧ q = .int .i64 (k0 + 4 * k)) (fun _ i => n - (intOf i).toNat)
  case atStart => exact ⟨0, by omega, rfl, by simp⟩
  case round =>
    obtain ⟨k, hk, rfl, rfl⟩ := hrel
    by_cases hlt : k < n
    · obtain ⟨b, off, rfl, hb, a0, a1, a2, a3⟩ := row_at_4 HA.out (marksMould_at k0 n k hlt) rfl
      go_wp2
      go_round
      case rel => exact ⟨k + 1, by omega, by go_num, int_eq (by omega)⟩
      case measure => simp [intOf]; omega
    · obtain rfl : k = n := by omega
      go_wp2
      go_ret
      exact ⟨rfl, rfl⟩
theorem toMouldS_own (A : Option Addr) (n c : Nat) (zs : List Mould) (w : World) (hn : n ≤ 1048576) (h : ArgRow Mould.enc Mould.Wf 4 w A n c zs) :
    Calls Try.prog 14 #[.slice A n c] w fun e w' => ∃ A' c', e = .returned (.slice A' n c') ∧ Own 35 4 Mould.enc w' w.heap.size w'.heap.size A' n c' zs ∧ Below w.heap.size w w' :=
  (toMouldS_ok A n c zs w hn h).mono fun e w' ⟨g, he, ho, hb⟩ => ⟨_, _, he, ⟨h.1, ho, fun a ha => by
    obtain rfl := Option.some.inj ha
    exact (own_lt ho).2, Nat.le_refl _⟩, hb⟩
set_option maxHeartbeats 400000 in
theorem markMouldS_own (lo hi : Nat) (A : Option Addr) (n c : Nat) (k0 : Int) (xs : List Mould) (w : World) (hn : n ≤ 16777216) (h0 : 0 ≤ k0) (h1 : k0 ≤ 1000000000000) (h : Own 35 4 Mould.enc w lo hi A n c xs) :
    Calls Try.prog 30 #[.slice A n c, .int .i64 k0] w fun e w' => e = .returned (.int .i64 (k0 + 4 * n)) ∧ Own 35 4 Mould.enc w' lo hi A n c (marksMould k0 n) ∧ Touch lo hi w w' := by
  rcases h.head with ⟨rfl, rfl, rfl⟩ | ⟨g, rfl, hg1, hg2⟩
  · have HI := hide h.hi_le
    clear h
    go_enter Try.func30, Try.ntmps30
    go_wp2
    refine wp_loop_rounds 1 ?_
    rw [rounds_succ]
    go_wp2
    go_ret
    exact ⟨ret_int (by omega), Own.nil HI.out, Touch.refl _ _ _⟩
  · refine (markMouldS_ok g lo n c k0 _ w hn h0 h1 h.own).mono fun e w' ⟨he, ho, hb⟩ => ⟨he, ⟨marksMould_length _ _, ho, h.up, Nat.le_trans h.hi_le hb.size⟩, Touch.of_grown hb hg1 hg2⟩
end Go.Proofs.Ytakckjmkjplbfaa
