/-
  What is proved: the laws' own copy of a list of whole numbers. Conditions: a length that fits.
-/
import Derived.Test.YtbpddpdpgkkapaaIntS
namespace Go.Proofs.Ytbpddpdpgkkapaa
open Go.RowKit
set_option linter.unusedVariables false

theorem Row.of_ints {w : World} {A : Option Addr} {n c : Nat} {zs : List Int} (h : ArgInts .i64 w A n c zs) : Row encI 1 w A zs := fun hn => by
  obtain ⟨b, off, e, hb, hc⟩ := h.2.2.2.2 (by rw [← h.1]; exact hn)
  refine ⟨b, off, e, hb, fun i x hi j v hv => ?_⟩
  have hil := (List.getElem?_eq_some_iff.1 hi).1
  have h1 := hc i (by rw [← h.1]; exact hil)
  rw [List.getD_eq_getElem?_getD, hi] at h1
  match j, hv with
  | 0, hv =>
    obtain rfl := Option.some.inj hv
    simpa using h1
theorem info_I64 : (Try.prog.info? 2).map (fun i => (i.zero, i.size, i.bytes)) = some (some (.int .i64 0), 1, 8) := by kernel_rfl
set_option maxHeartbeats 1000000 in
theorem toInt64S_ok (A : Option Addr) (n c : Nat) (zs : List Int) (w : World) (hn : n ≤ 1048576) (hl : zs.length = n) (h : Row encI 1 w A zs) :
    Calls Try.prog 31 #[.slice A n c] w fun e w' => ∃ g, e = .returned (.slice (some ⟨g, 0, none⟩) n n) ∧ w'.ownsRow w.heap.size 2 1 (.slice (some ⟨g, 0, none⟩) n n) n (flat encI zs) ∧ Below w.heap.size w w' := by
  obtain ⟨i0, hi0, hz0, hz1, hz2⟩ := info_parts info_I64
  have HA := hide h
  have HL := hide hl
  have hnm : n ≤ 9223372036854775807 := by omega
  clear h hl
  go_enter Try.func31, Try.ntmps31
  go_wp2_with (at_make; refine wpList_make_full _ rfl _ _ _ rfl w.heap.size 2 i0 _ 1 Try.underlying42 hi0 hz0 hz1 .i64 .i64 _ _ n rfl rfl rfl rfl (by rw [hz2]; omega) (by unfold maxLen; omega) (Nat.le_refl _) ?_; intro w1 hown1 hg1)
  clear hi0 hz0 hz1 hz2
  go_loopw [4] (fun i wr => ∃ k : Nat, k ≤ n ∧ i = .int .i64 k ∧ Hid (∃ Z : List Value, Z.length = (n - k) * 1 ∧ wr.ownsRow w.heap.size 2 1 (.slice (some ⟨w.heap.size, 0, none⟩) n n) n (flat encI (zs.take k) ++ Z)) ∧ Hid (Below w.heap.size w wr)) (fun i _ => n - (intOf i).toNat)
  case atStart => exact ⟨0, by omega, rfl, hide ⟨_, hown1.1.trans (by rw [Nat.sub_zero]), by simpa [flat] using hown1⟩, hide ((Below.refl _ _).grown hg1 (Nat.le_refl _) (by simp))⟩
  case round =>
    obtain ⟨k, hk, rfl, HO, HB⟩ := hrel
    by_cases hlt : k < n
    · obtain ⟨x, hzk⟩ : ∃ z, zs[k]? = some z := ⟨zs[k]'(by have := HL.out; omega), List.getElem?_eq_getElem (by have := HL.out; omega)⟩
      obtain ⟨b, off, rfl, hb, a0⟩ := row_at_1 (HA.out.below HB.out) hzk rfl
      obtain ⟨Z, hZ, hown⟩ := HO.out
      obtain ⟨o0, p0, q0⟩ := own_at_1 hown hlt
      have hg := own_lt hown
      have HZ := hide hzk
      have HW := hide hown
      have HZl := hide hZ
      have hki : (k : Int) < (n : Int) := by omega
      clear hzk hZ hown
      go_wp2
      go_roundw
      case rel =>
        have h1 := own_store_1 (.int .i64 x) HW.out hlt
        have h2 := fill_step (enc := encI) (k := 1) (fun _ => rfl) zs k x Z HZ.out
        refine ⟨k + 1, by omega, by go_num, hide ⟨Z.drop 1, by rw [List.length_drop, HZl.out]; omega, ?_⟩, hide ?_⟩
        · rw [← h2, Nat.mul_one]
          exact h1.1
        · exact HB.out.trans (grown_below h1.2 (Nat.le_refl _) (by omega))
      case measure => simp [intOf]; omega
    · obtain ⟨Z, hZ, hown⟩ := HO.out
      have hz0 : Z = [] := List.eq_nil_of_length_eq_zero (by rw [hZ]; omega)
      have hzl := HL.out
      have htk : zs.take k = zs := List.take_of_length_le (by omega)
      rw [hz0, htk, List.append_nil] at hown
      have HW := hide hown
      clear hZ hown hz0 hzl htk
      go_wp2
      go_ret
      exact ⟨w.heap.size, rfl, HW.out, HB.out⟩
theorem toInt64S_own (A : Option Addr) (n c : Nat) (zs : List Int) (w : World) (hn : n ≤ 1048576) (h : ArgInts .i64 w A n c zs) :
    Calls Try.prog 31 #[.slice A n c] w fun e w' => ∃ A' c', e = .returned (.slice A' n c') ∧ Own 2 1 encI w' w.heap.size w'.heap.size A' n c' zs ∧ Below w.heap.size w w' :=
  (toInt64S_ok A n c zs w hn h.1 (Row.of_ints h)).mono fun e w' ⟨g, he, ho, hb⟩ => ⟨_, _, he, ⟨h.1, ho, fun a ha => by
    obtain rfl := Option.some.inj ha
    exact (own_lt ho).2, Nat.le_refl _⟩, hb⟩
end Go.Proofs.Ytbpddpdpgkkapaa
