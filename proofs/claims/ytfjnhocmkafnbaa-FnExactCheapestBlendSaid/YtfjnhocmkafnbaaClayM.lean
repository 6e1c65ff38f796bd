/-
  What is proved: sizes and marks of lists of clays. Conditions: lengths as named in each.
-/
import Derived.Test.YtfjnhocmkafnbaaClayS
import Derived.Deep.RegionWith
namespace Go.Proofs.Ytfjnhocmkafnbaa
open Go.RowKit
set_option linter.unusedVariables false

theorem szClay_ok (x0 : ByteArray) (x1 x2 x3 x4 : Int) (left : Int) (w : World) (h0 : 0 ≤ left) (h1 : left ≤ 1048576) (hs : x0.size ≤ maxLen) :
    Calls Try.prog 94 #[.agg #[.string x0, .int .i64 x1, .int .i64 x2, .int .i64 x3, .int .i64 x4], .int .i64 left] w fun e w' => (∃ v : Int, e = .returned (.int .i64 v) ∧ (v = -1 ∨ (0 ≤ v ∧ v ≤ left))) ∧ Below w.heap.size w w' := by
  unfold maxLen at hs
  by_cases h : left < x0.size
  · have d : decide (left - (x0.size : Int) < 0) = true := by simp; omega
    have e := Go.IntWalk.i64_in (left - (x0.size : Int)) ⟨by omega, by omega⟩
    go_enter Try.func94, Try.ntmps94
    go_wp2
    go_ret
    exact ⟨⟨-1, rfl, .inl rfl⟩, by go_grown⟩
  · have d : decide (left - (x0.size : Int) < 0) = false := by simp; omega
    have e := Go.IntWalk.i64_in (left - (x0.size : Int)) ⟨by omega, by omega⟩
    go_enter Try.func94, Try.ntmps94
    go_wp2
    go_ret
    exact ⟨⟨_, rfl, .inr ⟨by omega, by omega⟩⟩, by go_grown⟩
set_option maxHeartbeats 1000000 in
theorem szClayS_ok (A : Option Addr) (n c : Nat) (zs : List Clay) (left : Int) (w : World) (h0 : 0 ≤ left) (h1 : left ≤ 1048576) (h : ArgRow Clay.enc Clay.Wf 5 w A n c zs) :
    Calls Try.prog 23 #[.slice A n c, .int .i64 left] w fun e w' => (∃ v : Int, e = .returned (.int .i64 v) ∧ (v = -1 ∨ (0 ≤ v ∧ v ≤ left - n))) ∧ Below w.heap.size w w' := by
  have hnm : n ≤ maxLen := Nat.le_trans h.2.1 h.2.2.1
  have HA := hide h
  clear h
  unfold maxLen at hnm
  have e := Go.IntWalk.i64_in (left - (n : Int)) ⟨by omega, by omega⟩
  by_cases h : left < n
  · have d : decide (left - (n : Int) < 0) = true := by simp; omega
    go_enter Try.func23, Try.ntmps23
    go_wp2
    go_ret
    exact ⟨⟨-1, rfl, .inl rfl⟩, Below.refl _ _⟩
  · have d : decide (left - (n : Int) < 0) = false := by simp; omega
    go_enter Try.func23, Try.ntmps23
    go_wp2
    go_loopw [1, 5] (fun q i wr => ∃ (k : Nat) (v : Int), k ≤ n ∧ i = .int .i64 k ∧ q = .int .i64 v ∧ 0 ≤ v ∧ v ≤ left - n ∧ Hid (Below w.heap.size w wr)) (fun _ i _ => n - (intOf i).toNat)
    case atStart => exact ⟨0, left - n, by omega, rfl, rfl, by omega, by omega, hide (Below.refl _ _)⟩
    case round =>
      obtain ⟨k, v, hk, rfl, rfl, hv0, hv1, HB⟩ := hrel
      by_cases hlt : k < n
      · obtain ⟨⟨x0, x1, x2, x3, x4⟩, hzk⟩ : ∃ z, zs[k]? = some z := ⟨zs[k]'(by have := HA.out.1; omega), List.getElem?_eq_getElem (by have := HA.out.1; omega)⟩
        have hw := HA.out.2.2.2.1 _ (List.mem_of_getElem? hzk)
        have hsz : x0.size ≤ maxLen := hw.1
        obtain ⟨b, off, rfl, hb, a0, a1, a2, a3, a4⟩ := row_at_5 ((Row.of_arg HA.out).below HB.out) hzk rfl
        clear hw hzk
        have hki : (k : Int) < (n : Int) := by omega
        go_wp2_with fail
        refine (szClay_ok x0 x1 x2 x3 x4 v _ hv0 (by omega) hsz).mono ?_
        rintro e u1 ⟨⟨t, rfl, ht⟩, hb1⟩
        have HB1 := hide (HB.out.trans (hb1.mono HB.out.size))
        clear hb1
        rcases ht with rfl | ⟨ht0, ht1⟩
        · go_wp2
          go_ret
          exact ⟨⟨_, rfl, .inl rfl⟩, HB1.out⟩
        · have dt : decide (t < 0) = false := by simp; omega
          go_wp2
          go_roundw
          case rel => exact ⟨k + 1, t, by omega, by go_num, rfl, ht0, by omega, HB1⟩
          case measure => simp [intOf]; omega
      · go_wp2
        go_ret
        exact ⟨⟨_, rfl, .inr ⟨by omega, by omega⟩⟩, HB.out⟩
set_option maxRecDepth 100000 in
set_option maxHeartbeats 1000000 in
theorem markClayS_ok (g base n c : Nat) (k0 : Int) (L : List Value) (w : World) (hn : n ≤ 16777216) (h0 : 0 < k0) (h1 : k0 ≤ 1000000000000) (h : w.ownsRow base 39 5 (.slice (some ⟨g, 0, none⟩) n c) n L) :
    Calls Try.prog 28 #[.slice (some ⟨g, 0, none⟩) n c, .int .i64 k0] w fun e w' => e = .returned (.int .i64 (k0 + 5 * n)) ∧ w'.ownsRow base 39 5 (.slice (some ⟨g, 0, none⟩) n c) n (flat Clay.enc (marksClay k0 n)) ∧ w.grownBy w' (some g) := by
  have HA := hide h
  have hnm : n ≤ 9223372036854775807 := by omega
  clear h
  go_enter Try.func28, Try.ntmps28
  go_wp2
  go_loopw [1, 5] (fun q i wr => ∃ k : Nat, k ≤ n ∧ i = .int .i64 k ∧ q = .int .i64 (k0 + 5 * k) ∧ Hid (∃ Z : List Value, Z.length = (n - k) * 5 ∧ wr.ownsRow base 39 5 (.slice (some ⟨g, 0, none⟩) n c) n (flat Clay.enc ((marksClay k0 n).take k) ++ Z)) ∧ Hid (w.grownBy wr (some g))) (fun _ i _ => n - (intOf i).toNat)
  case atStart => exact ⟨0, by omega, rfl, by simp, hide ⟨_, HA.out.1.trans (by rw [Nat.sub_zero]), by simpa [flat] using HA.out⟩, hide (World.grownBy.refl _ _)⟩
  case round =>
    obtain ⟨k, hk, rfl, rfl, HO, HB⟩ := hrel
    by_cases hlt : k < n
    · obtain ⟨Z, hZ, hown⟩ := HO.out
      have hg := own_lt hown
      have HW := hide hown
      have HZl := hide hZ
      clear hZ hown
      go_wp2_with fail
      refine (markText_ok (k0 + 5 * (k : Int)) _ (by omega) (by omega)).mono ?_
      rintro e w2 ⟨rfl, hb2⟩
      have hs2 := hb2.size
      have HW2 := hide (own_below HW.out hb2)
      have HG2 := hide (grown_trans HB.out (grown_of_below hb2))
      obtain ⟨o0, o1, o2, o3, o4, p0, p1, p2, p3, p4, q0, q1, q2, q3, q4⟩ := own_at_5 HW2.out hlt
      clear hb2
      go_wp2
      go_roundw
      case rel =>
        have h1 := own_store_5 (.string (markT (k0 + 5 * (k : Int)))) (.int .i64 (k0 + 5 * (k : Int) + 1)) (.int .i64 (k0 + 5 * (k : Int) + 1 + 1)) (.int .i64 (k0 + 5 * (k : Int) + 1 + 1 + 1)) (.int .i64 (k0 + 5 * (k : Int) + 1 + 1 + 1 + 1)) HW2.out hlt
        have h2 := fill_step (enc := Clay.enc) (k := 5) (fun _ => rfl) (marksClay k0 n) k _ Z (marksClay_at k0 n k hlt)
        refine ⟨k + 1, by omega, by go_num, int_eq (by omega), hide ⟨Z.drop 5, by rw [List.length_drop, HZl.out]; omega, ?_⟩, hide (grown_trans HG2.out h1.2)⟩
        rw [← h2]
        exact h1.1
      case measure => simp [intOf]; omega
    · obtain ⟨Z, hZ, hown⟩ := HO.out
      have hz0 : Z = [] := List.eq_nil_of_length_eq_zero (by rw [hZ]; omega)
      have htk : (marksClay k0 n).take k = marksClay k0 n := List.take_of_length_le (by rw [marksClay_length]; omega)
      rw [hz0, htk, List.append_nil] at hown
      have HW := hide hown
      obtain rfl : k = n := by omega
      clear hZ hown hz0 htk
      go_wp2
      go_ret
      exact ⟨rfl, HW.out, HB.out⟩
set_option maxHeartbeats 400000 in
theorem markClayS_own (lo hi : Nat) (A : Option Addr) (n c : Nat) (k0 : Int) (xs : List Clay) (w : World) (hn : n ≤ 16777216) (h0 : 0 < k0) (h1 : k0 ≤ 1000000000000) (h : Own 39 5 Clay.enc w lo hi A n c xs) :
    Calls Try.prog 28 #[.slice A n c, .int .i64 k0] w fun e w' => e = .returned (.int .i64 (k0 + 5 * n)) ∧ Own 39 5 Clay.enc w' lo hi A n c (marksClay k0 n) ∧ Touch lo hi w w' := by
  rcases h.head with ⟨rfl, rfl, rfl⟩ | ⟨g, rfl, hg1, hg2⟩
  · have HI := hide h.hi_le
    clear h
    go_enter Try.func28, Try.ntmps28
    go_wp2
    refine wp_loop_rounds 1 ?_
    rw [rounds_succ]
    go_wp2
    go_ret
    exact ⟨ret_int (by omega), Own.nil HI.out, Touch.refl _ _ _⟩
  · refine (markClayS_ok g lo n c k0 _ w hn h0 h1 h.own).mono fun e w' ⟨he, ho, hb⟩ => ⟨he, ⟨marksClay_length _ _, ho, h.up, Nat.le_trans h.hi_le hb.size⟩, Touch.of_grown hb hg1 hg2⟩
end Go.Proofs.Ytfjnhocmkafnbaa
