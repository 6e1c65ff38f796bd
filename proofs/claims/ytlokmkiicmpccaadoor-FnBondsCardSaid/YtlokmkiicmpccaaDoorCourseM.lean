/-
  What is proved: marks of lists of courses and of bonds. Conditions: lengths as named in each.
-/
import Derived.Test.YtlokmkiicmpccaaDoorBond
import Derived.Deep.RegionHeld3
namespace Go.Proofs.YtlokmkiicmpccaaDoor
open Go.RowKit
set_option linter.unusedVariables false

set_option maxRecDepth 100000 in
set_option maxHeartbeats 1000000 in
theorem markCourseS_ok (g base n c : Nat) (k0 : Int) (L : List Value) (w : World) (hn : n ≤ 16777216) (h0 : 0 < k0) (h1 : k0 ≤ 1000000000000) (h : w.ownsRow base 51 2 (.slice (some ⟨g, 0, none⟩) n c) n L) :
    Calls Tryd.prog 42 #[.slice (some ⟨g, 0, none⟩) n c, .int .i64 k0] w fun e w' => e = .returned (.int .i64 (k0 + 2 * n)) ∧ w'.ownsRow base 51 2 (.slice (some ⟨g, 0, none⟩) n c) n (flat Course.enc (marksCourse k0 n)) ∧ w.grownBy w' (some g) := by
  have HA := hide h
  have hnm : n ≤ 9223372036854775807 := by omega
  clear h
  go_enter Tryd.func42, Tryd.ntmps42
  go_wp2
  go_loopw [1, 5] (fun q i wr => ∃ k : Nat, k ≤ n ∧ i = .int .i64 k ∧ q = .int .i64 (k0 + 2 * k) ∧ Hid (∃ Z : List Value, Z.length = (n - k) * 2 ∧ wr.ownsRow base 51 2 (.slice (some ⟨g, 0, none⟩) n c) n (flat Course.enc ((marksCourse k0 n).take k) ++ Z)) ∧ Hid (w.grownBy wr (some g))) (fun _ i _ => n - (intOf i).toNat)
  case atStart => exact ⟨0, by omega, rfl, by simp, hide ⟨_, HA.out.1.trans (by rw [Nat.sub_zero]), by simpa [flat] using HA.out⟩, hide (World.grownBy.refl _ _)⟩
  case round =>
    obtain ⟨k, hk, rfl, rfl, HO, HB⟩ := hrel
    by_cases hlt : k < n
    · obtain ⟨Z, hZ, hown⟩ := HO.out
      have hg := own_lt hown
      have HW := hide hown
      have HZl := hide hZ
      clear hZ hown
      go_wp2_with fail
      refine (markText_ok (k0 + 2 * (k : Int)) _ (by omega) (by omega)).mono ?_
      rintro e w2 ⟨rfl, hb2⟩
      have hs2 := hb2.size
      have HW2 := hide (own_below HW.out hb2)
      have HG2 := hide (grown_trans HB.out (grown_of_below hb2))
      obtain ⟨o0, o1, p0, p1, q0, q1⟩ := own_at_2 HW2.out hlt
      clear hb2
      have HS0 := hide (HW2.out.stored (k * 2) (.string (markT (k0 + 2 * (k : Int)))))
      go_wp2_with fail
      refine (markText_ok (k0 + 2 * (k : Int) + 1) _ (by omega) (by omega)).mono ?_
      rintro e w3 ⟨rfl, hb3⟩
      have hs3 : w2.heap.size ≤ w3.heap.size := Nat.le_trans HS0.out.2.size hb3.size
      have HW3 := hide (own_below HS0.out.1 hb3)
      have HG3 := hide (grown_trans (grown_trans HG2.out HS0.out.2) (grown_of_below hb3))
      clear hb3 p0 p1 q0 q1
      obtain ⟨o0', o1', p0, p1, q0, q1⟩ := own_at_2 HW3.out hlt
      go_wp2
      go_roundw
      case rel =>
        have s1 := HW3.out.stored (k * 2 + 1) (.string (markT (k0 + 2 * (k : Int) + 1)))
        have hl := HW2.out.1
        have hm : (k + 1) * 2 ≤ n * 2 := Nat.mul_le_mul_right 2 hlt
        have h2 := fill_step (enc := Course.enc) (k := 2) (fun _ => rfl) (marksCourse k0 n) k _ Z (marksCourse_at k0 n k hlt)
        refine ⟨k + 1, by omega, by go_num, int_eq (by omega), hide ⟨Z.drop 2, by rw [List.length_drop, HZl.out]; omega, ?_⟩, hide (grown_trans HG3.out s1.2)⟩
        rw [← h2]
        have s2 := s1.1
        rw [set_2 _ (k * 2) _ _ (by omega)] at s2
        exact s2
      case measure => simp [intOf]; omega
    · obtain ⟨Z, hZ, hown⟩ := HO.out
      have hz0 : Z = [] := List.eq_nil_of_length_eq_zero (by rw [hZ]; omega)
      have htk : (marksCourse k0 n).take k = marksCourse k0 n := List.take_of_length_le (by rw [marksCourse_length]; omega)
      rw [hz0, htk, List.append_nil] at hown
      have HW := hide hown
      obtain rfl : k = n := by omega
      clear hZ hown hz0 htk
      go_wp2
      go_ret
      exact ⟨rfl, HW.out, HB.out⟩
set_option maxHeartbeats 400000 in
theorem markCourseS_own (lo hi : Nat) (A : Option Addr) (n c : Nat) (k0 : Int) (xs : List Course) (w : World) (hn : n ≤ 16777216) (h0 : 0 < k0) (h1 : k0 ≤ 1000000000000) (h : Own 51 2 Course.enc w lo hi A n c xs) :
    Calls Tryd.prog 42 #[.slice A n c, .int .i64 k0] w fun e w' => e = .returned (.int .i64 (k0 + 2 * n)) ∧ Own 51 2 Course.enc w' lo hi A n c (marksCourse k0 n) ∧ Touch lo hi w w' := by
  rcases h.head with ⟨rfl, rfl, rfl⟩ | ⟨g, rfl, hg1, hg2⟩
  · have HI := hide h.hi_le
    clear h
    go_enter Tryd.func42, Tryd.ntmps42
    go_wp2
    refine wp_loop_rounds 1 ?_
    rw [rounds_succ]
    go_wp2
    go_ret
    exact ⟨ret_int (by omega), Own.nil HI.out, Touch.refl _ _ _⟩
  · refine (markCourseS_ok g lo n c k0 _ w hn h0 h1 h.own).mono fun e w' ⟨he, ho, hb⟩ => ⟨he, ⟨marksCourse_length _ _, ho, h.up, Nat.le_trans h.hi_le hb.size⟩, Touch.of_grown hb hg1 hg2⟩
theorem Touch.after {lo hi : Nat} {w w1 w2 : World} {o : Obj} (h : Touch lo hi (w.alloc o) w2) : Touch lo hi w w2 :=
  ⟨h.os, h.tape, h.output, Nat.le_trans (by simp) h.size, fun k hk hne => (h.block k (by simp; omega) hne).trans (Below.heap_alloc w o k hk)⟩
theorem markBond_own (s : ByteArray) (lo hi : Nat) (A : Option Addr) (n c : Nat) (k0 : Int) (xs : List Course) (w : World) (hn : n ≤ 16777216) (h0 : 0 < k0) (h1 : k0 ≤ 1000000000000) (h : Own 51 2 Course.enc w lo hi A n c xs) :
    Calls Tryd.prog 17 #[.agg #[.string s, .slice A n c], .int .i64 k0] w fun e w' => e = .returned (.int .i64 (k0 + 2 * n)) ∧ Own 51 2 Course.enc w' lo hi A n c (marksCourse k0 n) ∧ Touch lo hi w w' := by
  have HO := hide h
  have HB0 := hide ((Below.refl w.heap.size w).alloc (Nat.le_refl _) (.cells #[.string s, .slice A n c] 29))
  clear h
  go_enter Tryd.func17, Tryd.ntmps17
  go_wp2_with fail
  refine (markCourseS_own lo hi A n c k0 xs _ hn h0 h1 (HO.out.below HB0.out)).mono ?_
  rintro e w1 ⟨rfl, ho, hb1⟩
  have HO1 := hide ho
  have HT := hide hb1
  clear ho hb1
  go_wp2
  go_ret
  exact ⟨rfl, HO1.out, Touch.after (w1 := w) HT.out⟩
set_option maxRecDepth 100000 in
set_option maxHeartbeats 2000000 in
theorem heldCourseS_ok (A : Option Addr) (n c : Nat) (k0 : Int) (w : World) (hn : n ≤ 16777216) (h0 : 0 < k0) (h1 : k0 ≤ 1000000000000) (h : Row Course.enc 2 w A (marksCourse k0 n)) :
    Calls Tryd.prog 43 #[.slice A n c, .int .i64 k0] w fun e w' => e = .returned (.int .i64 (k0 + 2 * n)) ∧ Below w.heap.size w w' := by
  have HA := hide h
  have hnm : n ≤ 9223372036854775807 := by omega
  clear h
  go_enter Tryd.func43, Tryd.ntmps43
  go_wp2
  go_loopw [1, 5] (fun q i wr => ∃ k : Nat, k ≤ n ∧ i = .int .i64 k ∧ q = .int .i64 (k0 + 2 * k) ∧ Hid (Below w.heap.size w wr)) (fun _ i _ => n - (intOf i).toNat)
  case atStart => exact ⟨0, by omega, rfl, by simp, hide (Below.refl _ _)⟩
  case round =>
    obtain ⟨k, hk, rfl, rfl, HB⟩ := hrel
    by_cases hlt : k < n
    · obtain ⟨b, off, rfl, hb, a0, a1⟩ := row_at_2 (HA.out.below HB.out) (marksCourse_at k0 n k hlt) rfl
      have hki : (k : Int) < (n : Int) := by omega
      have hneq : ∀ s : ByteArray, (s.toList != s.toList) = false := fun s => by simp
      go_wp2
      go_region_held3 (fun w' => w'.cell? ⟨b, off + k * 2, none⟩ = some (.string (markT (k0 + 2 * (k : Int)))))
        (first
          | go_keep
          | exact a0)
        (first
          | (go_at_call 37
             refine (markText_ok (k0 + 2 * (k : Int)) _ (by omega) (by omega)).mono ?_
             rintro e w2 ⟨rfl, hb2⟩
             replace a0 := (hb2.cell (p := ⟨b, off + k * 2, none⟩) hb).trans a0
             replace a1 := (hb2.cell (p := ⟨b, off + k * 2 + 1, none⟩) hb).trans a1
             have HB2 := hide (HB.out.drew.trans (hb2.mono HB.out.size))
             have hbw2 : b < w2.heap.size := Nat.lt_of_lt_of_le hb hb2.size
             clear hb2))
      go_wp2
      go_region_held3 (fun w' => w'.cell? ⟨b, off + k * 2 + 1, none⟩ = some (.string (markT (k0 + 2 * (k : Int) + 1))))
        (first
          | go_keep
          | exact a1)
        (first
          | (go_at_call 37
             refine (markText_ok (k0 + 2 * (k : Int) + 1) _ (by omega) (by omega)).mono ?_
             rintro e w3 ⟨rfl, hb3⟩
             replace a1 := (hb3.cell (p := ⟨b, off + k * 2 + 1, none⟩) hbw2).trans a1
             have HB3 := hide (HB2.out.drew.trans (hb3.mono HB2.out.size))
             clear hb3))
      go_wp2
      go_roundw
      case rel => exact ⟨k + 1, by omega, by go_num, int_eq (by omega), HB3⟩
      case measure => simp [intOf]; omega
    · obtain rfl : k = n := by omega
      go_wp2
      go_ret
      exact ⟨rfl, HB.out⟩
theorem heldBond_ok (s : ByteArray) (A : Option Addr) (n c : Nat) (k0 : Int) (w : World) (hn : n ≤ 16777216) (h0 : 0 < k0) (h1 : k0 ≤ 1000000000000) (h : Row Course.enc 2 w A (marksCourse k0 n)) :
    Calls Tryd.prog 18 #[.agg #[.string s, .slice A n c], .int .i64 k0] w fun e w' => e = .returned (.int .i64 (k0 + 2 * n)) ∧ Below w.heap.size w w' := by
  have HA := hide h
  have HB0 := hide ((Below.refl w.heap.size w).alloc (Nat.le_refl _) (.cells #[.string s, .slice A n c] 29))
  clear h
  have hd : decide (k0 + 2 * (n : Int) < 0) = false := by simp; omega
  go_enter Tryd.func18, Tryd.ntmps18
  go_wp2_with fail
  refine (heldCourseS_ok A n c k0 _ hn h0 h1 (HA.out.below HB0.out)).mono ?_
  rintro e w1 ⟨rfl, hb1⟩
  have HB1 := hide (HB0.out.trans (hb1.mono (by simp)))
  clear hb1
  go_wp2
  go_ret
  exact ⟨rfl, HB1.out⟩
end Go.Proofs.YtlokmkiicmpccaaDoor
