/-
  What is proved: contracts of the laws' own functions on lists of the kind Clay: the copy, the comparison of equal lists, the marks. Conditions: lengths as named in each.
-/
import Derived.Test.YtfjnhocmkafnbaaProg
import Derived.Test.YtfjnhocmkafnbaaOwned
import Derived.Handy
import Derived.Lib.Hide
import Derived.BigQuiet
import Derived.Deep.QuietTactic
import Derived.StillTailTactics
import Derived.WalkSpells
import Derived.Test.YtfjnhocmkafnbaaMarkText
namespace Go.Proofs.Ytfjnhocmkafnbaa
open Go.RowKit
set_option linter.unusedVariables false

theorem toClay_ok (x0 : ByteArray) (x1 : Int) (x2 : Int) (x3 : Int) (x4 : Int) (w : World) :
    Calls Try.prog 95 #[.agg #[.string x0, .int .i64 x1, .int .i64 x2, .int .i64 x3, .int .i64 x4]] w fun e w' => e = .returned (.agg #[.string x0, .int .i64 x1, .int .i64 x2, .int .i64 x3, .int .i64 x4]) ∧ Below w.heap.size w w' := by
  go_enter Try.func95, Try.ntmps95
  go_wp2
  exact bodyPost_ret (v := .agg #[.string x0, .int .i64 x1, .int .i64 x2, .int .i64 x3, .int .i64 x4]) (by simp [results, Try.results95, go_sem]) rfl ⟨rfl, by go_grown⟩
theorem info_Clay : (Try.prog.info? 39).map (fun i => (i.zero, i.size, i.bytes)) = some (some (.agg #[.string ⟨#[]⟩, .int .i64 0, .int .i64 0, .int .i64 0, .int .i64 0]), 5, 48) := by kernel_rfl

set_option maxHeartbeats 1000000 in
theorem toClayS_ok (A : Option Addr) (n c : Nat) (zs : List Clay) (w : World) (hn : n ≤ 1048576) (h : ArgRow Clay.enc Clay.Wf 5 w A n c zs) :
    Calls Try.prog 24 #[.slice A n c] w fun e w' => ∃ g, e = .returned (.slice (some ⟨g, 0, none⟩) n n) ∧ w'.ownsRow w.heap.size 39 5 (.slice (some ⟨g, 0, none⟩) n n) n (flat Clay.enc zs) ∧ Below w.heap.size w w' := by
  obtain ⟨i0, hi0, hz0, hz1, hz2⟩ := info_parts info_Clay
  have HA := hide h
  have hnm : n ≤ 9223372036854775807 := by omega
  clear h
  go_enter Try.func24, Try.ntmps24
  go_wp2_with (at_make; refine wpList_make_full _ rfl _ _ _ rfl w.heap.size 39 i0 _ 5 Try.underlying24 hi0 hz0 hz1 .i64 .i64 _ _ n rfl rfl rfl rfl (by rw [hz2]; omega) (by unfold maxLen; omega) (Nat.le_refl _) ?_; intro w1 hown1 hg1)
  clear hi0 hz0 hz1 hz2
  go_loopw [4] (fun i wr => ∃ k : Nat, k ≤ n ∧ i = .int .i64 k ∧ Hid (∃ Z : List Value, Z.length = (n - k) * 5 ∧ wr.ownsRow w.heap.size 39 5 (.slice (some ⟨w.heap.size, 0, none⟩) n n) n (flat Clay.enc (zs.take k) ++ Z)) ∧ Hid (Below w.heap.size w wr)) (fun i _ => n - (intOf i).toNat)
  case atStart => exact ⟨0, by omega, rfl, hide ⟨_, hown1.1.trans (by rw [Nat.sub_zero]), by simpa [flat] using hown1⟩, hide ((Below.refl _ _).grown hg1 (Nat.le_refl _) (by simp))⟩
  case round =>
    obtain ⟨k, hk, rfl, HO, HB⟩ := hrel
    by_cases hlt : k < n
    · obtain ⟨⟨x0, x1, x2, x3, x4⟩, hzk⟩ : ∃ z, zs[k]? = some z := ⟨zs[k]'(by have := HA.out.1; omega), List.getElem?_eq_getElem (by have := HA.out.1; omega)⟩
      obtain ⟨b, off, rfl, hb, a0, a1, a2, a3, a4⟩ := row_at_5 ((Row.of_arg HA.out).below HB.out) hzk rfl
      obtain ⟨Z, hZ, hown⟩ := HO.out
      obtain ⟨o0, o1, o2, o3, o4, p0, p1, p2, p3, p4, q0, q1, q2, q3, q4⟩ := own_at_5 hown hlt
      have hg := own_lt hown
      have HZ := hide hzk
      have HW := hide hown
      have HZl := hide hZ
      clear hzk hZ hown
      go_wp2_with fail
      refine (toClay_ok _ _ _ _ _ _).mono ?_
      rintro e w2 ⟨rfl, hb2⟩
      obtain ⟨hc2, hf2⟩ := bcell hb2
      have hz2 := hb2.size
      have HB2 := hide hb2
      clear hb2
      go_wp2
      go_roundw
      case rel =>
        have h1 := own_store_5 (.string x0) (.int .i64 x1) (.int .i64 x2) (.int .i64 x3) (.int .i64 x4) (own_below HW.out HB2.out) hlt
        have h2 := fill_step (enc := Clay.enc) (k := 5) (fun _ => rfl) zs k ⟨x0, x1, x2, x3, x4⟩ Z HZ.out
        refine ⟨k + 1, by omega, by go_num, hide ⟨Z.drop 5, by rw [List.length_drop, HZl.out]; omega, ?_⟩, hide ?_⟩
        · rw [← h2]
          exact h1.1
        · exact ((HB.out).trans (HB2.out.mono (by omega))).trans (grown_below h1.2 (Nat.le_refl _) (by omega))
      case measure => simp [intOf]; omega
    · obtain ⟨Z, hZ, hown⟩ := HO.out
      have hz0 : Z = [] := List.eq_nil_of_length_eq_zero (by rw [hZ]; omega)
      have hzl := HA.out.1
      have htk : zs.take k = zs := List.take_of_length_le (by omega)
      rw [hz0, htk, List.append_nil] at hown
      have HW := hide hown
      clear hZ hown hz0 hzl htk
      go_wp2
      go_ret
      exact ⟨w.heap.size, rfl, HW.out, HB.out⟩
theorem eqClay_same (x0 : ByteArray) (x1 : Int) (x2 : Int) (x3 : Int) (x4 : Int) (w : World) :
    Calls Try.prog 96 #[.agg #[.string x0, .int .i64 x1, .int .i64 x2, .int .i64 x3, .int .i64 x4], .agg #[.string x0, .int .i64 x1, .int .i64 x2, .int .i64 x3, .int .i64 x4]] w fun e w' => e = .returned (.bool true) ∧ Below w.heap.size w w' := by
  go_enter Try.func96, Try.ntmps96
  go_wp2
  go_ret
  exact ⟨rfl, by go_grown⟩
set_option maxRecDepth 100000 in
set_option maxHeartbeats 1000000 in
theorem eqClayS_same (A B : Option Addr) (n c d : Nat) (zs : List Clay) (w : World) (hn : n ≤ 16777216) (hl : zs.length = n) (ha : Row Clay.enc 5 w A zs) (hb : Row Clay.enc 5 w B zs) :
    Calls Try.prog 26 #[.slice A n c, .slice B n d] w fun e w' => e = .returned (.bool true) ∧ Below w.heap.size w w' := by
  have HA := hide ha
  have HB := hide hb
  have HL := hide hl
  have hnm : n ≤ 9223372036854775807 := by omega
  clear ha hb hl
  go_enter Try.func26, Try.ntmps26
  go_wp2
  go_loopw [5] (fun i wr => ∃ k : Nat, k ≤ n ∧ i = .int .i64 k ∧ Hid (Below w.heap.size w wr)) (fun i _ => n - (intOf i).toNat)
  case atStart => exact ⟨0, by omega, rfl, hide (Below.refl _ _)⟩
  case round =>
    obtain ⟨k, hk, rfl, HW⟩ := hrel
    by_cases hlt : k < n
    · obtain ⟨⟨x0, x1, x2, x3, x4⟩, hzk⟩ : ∃ z, zs[k]? = some z := ⟨zs[k]'(by have := HL.out; omega), List.getElem?_eq_getElem (by have := HL.out; omega)⟩
      obtain ⟨ba, offa, rfl, hba, a0, a1, a2, a3, a4⟩ := row_at_5 (HA.out.below HW.out) hzk rfl
      obtain ⟨bb, offb, rfl, hbb, b0, b1, b2, b3, b4⟩ := row_at_5 (HB.out.below HW.out) hzk rfl
      clear hzk
      have hki : (k : Int) < (n : Int) := by omega
      go_wp2
      refine wp_region_still_tail 8 (by kernel_rfl) (by kernel_rfl) ?_
      simp only [List.take_succ_cons, List.take_zero, List.drop_succ_cons, List.drop_zero]
      still_step
      still_step
      still_step
      still_step
      repeat still_step
      refine wpStill_nil ?_
      change wpList _ _ _ _ _ wr.drew
      go_wp2_with fail
      refine (eqClay_same _ _ _ _ _ _).mono ?_
      rintro e w2 ⟨rfl, hb2⟩
      have HB2 := hide hb2
      clear hb2
      go_wp2
      go_roundw
      case rel => exact ⟨k + 1, by omega, by go_num, hide (HW.out.drew.trans (HB2.out.mono HW.out.size))⟩
      case measure => simp [intOf]; omega
    · go_wp2
      go_ret
      exact ⟨rfl, HW.out⟩
/-- The marked elements, from k0 on. -/
def marksClay (k0 : Int) (n : Nat) : List Clay := (List.range n).map fun i : Nat => ⟨markT (k0 + 5 * (i : Int)), k0 + 5 * (i : Int) + 1, k0 + 5 * (i : Int) + 1 + 1, k0 + 5 * (i : Int) + 1 + 1 + 1, k0 + 5 * (i : Int) + 1 + 1 + 1 + 1⟩
theorem marksClay_at (k0 : Int) (n i : Nat) (h : i < n) : (marksClay k0 n)[i]? = some ⟨markT (k0 + 5 * (i : Int)), k0 + 5 * (i : Int) + 1, k0 + 5 * (i : Int) + 1 + 1, k0 + 5 * (i : Int) + 1 + 1 + 1, k0 + 5 * (i : Int) + 1 + 1 + 1 + 1⟩ := by
  unfold marksClay
  rw [List.getElem?_map, List.getElem?_range h]
  rfl
theorem marksClay_length (k0 : Int) (n : Nat) : (marksClay k0 n).length = n := by simp [marksClay]
theorem marksClay_take (k0 : Int) (n i : Nat) (h : i ≤ n) : (marksClay k0 n).take i = marksClay k0 i := by
  unfold marksClay
  rw [← List.map_take, List.take_range, Nat.min_eq_left h]
theorem toClayS_own (A : Option Addr) (n c : Nat) (zs : List Clay) (w : World) (hn : n ≤ 1048576) (h : ArgRow Clay.enc Clay.Wf 5 w A n c zs) :
    Calls Try.prog 24 #[.slice A n c] w fun e w' => ∃ A' c', e = .returned (.slice A' n c') ∧ Own 39 5 Clay.enc w' w.heap.size w'.heap.size A' n c' zs ∧ Below w.heap.size w w' :=
  (toClayS_ok A n c zs w hn h).mono fun e w' ⟨g, he, ho, hb⟩ => ⟨_, _, he, ⟨h.1, ho, fun a ha => by
    obtain rfl := Option.some.inj ha
    exact (own_lt ho).2, Nat.le_refl _⟩, hb⟩
end Go.Proofs.Ytfjnhocmkafnbaa
