/-
  What is proved: the worn moulds of a list, of the program and of the reference, in every case. Conditions: lengths that fit.
-/
import Derived.Test.YtgobpleckeeheaaMouldW
namespace Go.Proofs.Ytgobpleckeeheaa
open Go.RowKit
set_option linter.unusedVariables false

theorem spec_worn_bad (A : Option Addr) (n c : Nat) (zs : List Mould) (m : Int) (w : World) (hn : n ≤ 16777216) (hl : zs.length = n) (h : Row Mould.enc 4 w A zs) (hv : mouldsOk zs = false) :
    Calls Try.prog 31 #[.slice A n c, .int .i64 m] w fun e w' => ∃ A' c', e = .returned (.tuple #[.slice A' ([] : List Int).length c', .int .i64 1]) ∧ Own 2 1 encI w' w.heap.size w'.heap.size A' ([] : List Int).length c' ([] : List Int) ∧ Below w.heap.size w w' := by
  have HA := hide h
  have HL := hide hl
  have hnm : n ≤ 9223372036854775807 := by omega
  clear h hl
  go_enter Try.func31, Try.ntmps31
  go_wp2_with fail
  refine (spec_l05Ok _ _ _ zs _ hn HL.out HA.out).mono ?_
  rintro e u1 ⟨rfl, rfl⟩
  rw [hv]
  go_wp2
  go_ret2
  exact ⟨none, 0, rfl, Own.nil (Nat.le_refl _), Below.refl _ _⟩
theorem spec_worn_range (A : Option Addr) (n c : Nat) (zs : List Mould) (m : Int) (w : World) (hn : n ≤ 16777216) (hl : zs.length = n) (h : Row Mould.enc 4 w A zs) (hv : mouldsOk zs = true) (hr : ¬ (0 ≤ m ∧ m ≤ 100000)) :
    Calls Try.prog 31 #[.slice A n c, .int .i64 m] w fun e w' => ∃ A' c', e = .returned (.tuple #[.slice A' ([] : List Int).length c', .int .i64 2]) ∧ Own 2 1 encI w' w.heap.size w'.heap.size A' ([] : List Int).length c' ([] : List Int) ∧ Below w.heap.size w w' := by
  have HA := hide h
  have HL := hide hl
  have hnm : n ≤ 9223372036854775807 := by omega
  clear h hl
  go_enter Try.func31, Try.ntmps31
  go_wp2_with fail
  refine (spec_l05Ok _ _ _ zs _ hn HL.out HA.out).mono ?_
  rintro e u1 ⟨rfl, rfl⟩
  rw [hv]
  go_wp2_with fail
  refine (spec_in_no _ _ _ _ hr).mono ?_
  rintro e u2 ⟨rfl, rfl⟩
  go_wp2
  go_ret2
  exact ⟨none, 0, rfl, Own.nil (Nat.le_refl _), Below.refl _ _⟩
theorem spec_worn (A : Option Addr) (n c : Nat) (zs : List Mould) (m : Int) (w : World) (hn : n ≤ 16777216) (hl : zs.length = n) (h : Row Mould.enc 4 w A zs) :
    Calls Try.prog 31 #[.slice A n c, .int .i64 m] w fun e w' => ∃ A' c', e = .returned (.tuple #[.slice A' (wornL zs m).length c', .int .i64 (wornC zs m)]) ∧ Own 2 1 encI w' w.heap.size w'.heap.size A' (wornL zs m).length c' (wornL zs m) ∧ Below w.heap.size w w' := by
  unfold wornL wornC
  by_cases hv : mouldsOk zs = true
  · by_cases hr : 0 ≤ m ∧ m ≤ 100000
    · rw [if_pos ⟨hv, hr⟩, if_pos hv, if_pos hr, hl]
      exact spec_worn_yes A n c zs m w hn hl h hv hr.1 hr.2
    · rw [if_neg (fun q => hr q.2), if_pos hv, if_neg hr]
      exact spec_worn_range A n c zs m w hn hl h hv hr
  · rw [if_neg (fun q => hv q.1), if_neg hv]
    exact spec_worn_bad A n c zs m w hn hl h (by simpa using hv)
theorem impl_worn_bad (A : Option Addr) (n c : Nat) (zs : List Mould) (m : Int) (w : World) (hn : n ≤ 16777216) (hl : zs.length = n) (h : Row Mould.enc 4 w A zs) (hv : mouldsOk zs = false) :
    Calls Try.prog 30 #[.slice A n c, .int .i64 m] w fun e w' => ∃ A' c', e = .returned (.tuple #[.slice A' ([] : List Int).length c', .int .i64 1]) ∧ Own 2 1 encI w' w.heap.size w'.heap.size A' ([] : List Int).length c' ([] : List Int) ∧ Below w.heap.size w w' := by
  have HA := hide h
  have HL := hide hl
  have hnm : n ≤ 9223372036854775807 := by omega
  clear h hl
  go_enter Try.func30, Try.ntmps30
  go_wp2_with fail
  refine (impl_validMoulds _ _ _ zs _ hn HL.out HA.out).mono ?_
  rintro e u1 ⟨rfl, hb1⟩
  have HB1 := hide hb1
  have hz1 := hb1.size
  clear hb1
  rw [hv]
  go_wp2
  go_ret2
  exact ⟨none, 0, rfl, Own.nil (Nat.le_refl _), HB1.out⟩
theorem impl_worn_range (A : Option Addr) (n c : Nat) (zs : List Mould) (m : Int) (w : World) (hn : n ≤ 16777216) (hl : zs.length = n) (h : Row Mould.enc 4 w A zs) (hv : mouldsOk zs = true) (hr : ¬ (0 ≤ m ∧ m ≤ 100000)) :
    Calls Try.prog 30 #[.slice A n c, .int .i64 m] w fun e w' => ∃ A' c', e = .returned (.tuple #[.slice A' ([] : List Int).length c', .int .i64 2]) ∧ Own 2 1 encI w' w.heap.size w'.heap.size A' ([] : List Int).length c' ([] : List Int) ∧ Below w.heap.size w w' := by
  have HA := hide h
  have HL := hide hl
  have hnm : n ≤ 9223372036854775807 := by omega
  clear h hl
  go_enter Try.func30, Try.ntmps30
  go_wp2_with fail
  refine (impl_validMoulds _ _ _ zs _ hn HL.out HA.out).mono ?_
  rintro e u1 ⟨rfl, hb1⟩
  have HB1 := hide hb1
  have hz1 := hb1.size
  clear hb1
  rw [hv]
  go_wp2_with fail
  refine (impl_in_no _ _ _ _ hr).mono ?_
  rintro e u2 ⟨rfl, rfl⟩
  go_wp2
  go_ret2
  exact ⟨none, 0, rfl, Own.nil (Nat.le_refl _), HB1.out⟩
set_option maxHeartbeats 1000000 in
theorem impl_worn_yes (A : Option Addr) (n c : Nat) (zs : List Mould) (m : Int) (w : World) (hn : n ≤ 16777216) (hl : zs.length = n) (h : Row Mould.enc 4 w A zs) (hv : mouldsOk zs = true) (h0 : 0 ≤ m) (h1 : m ≤ 100000) :
    Calls Try.prog 30 #[.slice A n c, .int .i64 m] w fun e w' => ∃ A' c', e = .returned (.tuple #[.slice A' (wornK zs m n).length c', .int .i64 0]) ∧ Own 2 1 encI w' w.heap.size w'.heap.size A' (wornK zs m n).length c' (wornK zs m n) ∧ Below w.heap.size w w' := by
  obtain ⟨i0, hi, hz0, hz1, hz2⟩ := info_parts info_Int
  have HI := hide hi
  have HZ0 := hide hz0
  have HZ1 := hide hz1
  have HZ2 := hide hz2
  clear hi hz0 hz1 hz2
  have HA := hide h
  have HL := hide hl
  have hnm : n ≤ 9223372036854775807 := by omega
  clear h hl
  go_enter Try.func30, Try.ntmps30
  go_wp2_with fail
  refine (impl_validMoulds _ _ _ zs _ hn HL.out HA.out).mono ?_
  rintro e u1 ⟨rfl, hb1⟩
  have HB1 := hide hb1
  have hz1 := hb1.size
  clear hb1
  rw [hv]
  go_wp2_with fail
  refine (impl_in_yes _ _ _ _ h0 h1).mono ?_
  rintro e u2 ⟨rfl, rfl⟩
  go_wp2
  go_loopw [6, 20] (fun v i wr => ∃ k : Nat, k ≤ n ∧ i = .int .i64 k ∧ Hid (wr.ownsRow w.heap.size 2 1 v (wornK zs m k).length (flat encI (wornK zs m k))) ∧ Hid (Below w.heap.size w wr)) (fun _ i _ => n - (intOf i).toNat)
  case atStart => exact ⟨0, by omega, rfl, hide (own_empty u1 _ _ _ hz1), hide (HB1.out.alloc hz1 _)⟩
  case round =>
    obtain ⟨k, hk, rfl, HO, HB⟩ := hrel
    by_cases hlt : k < n
    · obtain ⟨⟨x0, x1, x2, x3⟩, hzk⟩ : ∃ z, zs[k]? = some z := ⟨zs[k]'(by have := HL.out; omega), List.getElem?_eq_getElem (by have := HL.out; omega)⟩
      obtain ⟨b, off, rfl, hb, a0, a1, a2, a3⟩ := row_at_4 (HA.out.below HB.out) hzk rfl
      have HZ := hide hzk
      clear hzk
      have hki : (k : Int) < (n : Int) := by omega
      have HO1 := hide (HO.out.alloc (.cells #[.int .i64 x0, .int .i64 x1, .int .i64 x2, .int .i64 x3] 68))
      have HBe := hide (HB.out.alloc HB.out.size (.cells #[.int .i64 x0, .int .i64 x1, .int .i64 x2, .int .i64 x3] 68))
      by_cases hm : m < x3
      · have hlen := wornK_len zs m k
        go_wp2_with (at_builtin; refine wpList_append_own _ rfl _ _ 29 rfl w.heap.size 2 i0 (.int .i64 0) 1 8 Try.underlying29 HI.out HZ0.out HZ1.out HZ2.out rfl (by decide) _ _ _ rfl (HO1.out.alloc _) ⟨wr.heap.size + 1, 0, none⟩ 1 1 [.int .i64 k] rfl rfl (cell_new_at _ _ _ _ (by simp)) (fun x hx => by simp at hx; subst hx; rfl) (by unfold maxLen; omega) (by omega) (by have := HB.out.size; simp; omega) ?_; intro v' w1 hown' hgrow hnil)
        have HO' := hide (own_push hown' (wornK_yes HZ.out hm))
        have HB' := hide (below_push HBe.out HO1.out hgrow)
        clear hown' hgrow hnil
        go_roundw
        case rel => exact ⟨k + 1, by omega, by go_num, HO', HB'⟩
        case measure => simp [intOf]; omega
      · have HK := hide (wornK_no HZ.out hm)
        go_wp2
        go_roundw
        case rel => exact ⟨k + 1, by omega, by go_num, hide (by rw [HK.out]; exact HO1.out), HBe⟩
        case measure => simp [intOf]; omega
    · obtain rfl : k = n := by omega
      obtain ⟨A', c', rfl, ho⟩ := Own.of_row rfl HO.out HB.out.size
      have HO' := hide ho
      clear ho
      go_wp2
      go_ret2
      exact ⟨A', c', rfl, HO'.out, HB.out⟩
theorem impl_worn (A : Option Addr) (n c : Nat) (zs : List Mould) (m : Int) (w : World) (hn : n ≤ 16777216) (hl : zs.length = n) (h : Row Mould.enc 4 w A zs) :
    Calls Try.prog 30 #[.slice A n c, .int .i64 m] w fun e w' => ∃ A' c', e = .returned (.tuple #[.slice A' (wornL zs m).length c', .int .i64 (wornC zs m)]) ∧ Own 2 1 encI w' w.heap.size w'.heap.size A' (wornL zs m).length c' (wornL zs m) ∧ Below w.heap.size w w' := by
  unfold wornL wornC
  by_cases hv : mouldsOk zs = true
  · by_cases hr : 0 ≤ m ∧ m ≤ 100000
    · rw [if_pos ⟨hv, hr⟩, if_pos hv, if_pos hr, hl]
      exact impl_worn_yes A n c zs m w hn hl h hv hr.1 hr.2
    · rw [if_neg (fun q => hr q.2), if_pos hv, if_neg hr]
      exact impl_worn_range A n c zs m w hn hl h hv hr
  · rw [if_neg (fun q => hv q.1), if_neg hv]
    exact impl_worn_bad A n c zs m w hn hl h (by simpa using hv)
theorem spec_worn' (A : Option Addr) (n c : Nat) (zs : List Mould) (m : Int) (K : List Int) (cc : Int) (w : World) (hK : wornL zs m = K) (hC : wornC zs m = cc) (hn : n ≤ 16777216) (hl : zs.length = n) (h : Row Mould.enc 4 w A zs) :
    Calls Try.prog 31 #[.slice A n c, .int .i64 m] w fun e w' => ∃ A' c', e = .returned (.tuple #[.slice A' K.length c', .int .i64 cc]) ∧ Own 2 1 encI w' w.heap.size w'.heap.size A' K.length c' K ∧ Below w.heap.size w w' := by
  subst hK hC
  exact spec_worn A n c zs m w hn hl h
theorem impl_worn' (A : Option Addr) (n c : Nat) (zs : List Mould) (m : Int) (K : List Int) (cc : Int) (w : World) (hK : wornL zs m = K) (hC : wornC zs m = cc) (hn : n ≤ 16777216) (hl : zs.length = n) (h : Row Mould.enc 4 w A zs) :
    Calls Try.prog 30 #[.slice A n c, .int .i64 m] w fun e w' => ∃ A' c', e = .returned (.tuple #[.slice A' K.length c', .int .i64 cc]) ∧ Own 2 1 encI w' w.heap.size w'.heap.size A' K.length c' K ∧ Below w.heap.size w w' := by
  subst hK hC
  exact impl_worn A n c zs m w hn hl h
theorem wornL_len (zs : List Mould) (m : Int) : (wornL zs m).length ≤ zs.length := by
  unfold wornL
  split
  · exact wornK_len _ _ _
  · exact Nat.zero_le _
end Go.Proofs.Ytgobpleckeeheaa
