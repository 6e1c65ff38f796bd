/-
  What is proved: one mould used, of the program and of the reference, in every case. Conditions: lengths that fit.
-/
import Derived.Test.YtgobpleckeeheaaMouldV
import Derived.Lib.SliceRun
namespace Go.Proofs.Ytgobpleckeeheaa
open Go.RowKit
set_option linter.unusedVariables false

theorem mould_ok_at {zs : List Mould} {k : Nat} {z : Mould} (hv : mouldsOk zs = true) (hz : zs[k]? = some z) : z.Ok := by
  unfold mouldsOk at hv
  rw [Bool.and_eq_true, List.all_eq_true] at hv
  exact of_decide_eq_true (hv.2 _ (List.mem_of_getElem? hz))
theorem own_weaken {w : World} {base base' size n : Nat} {t : TypeId} {v : Value} {xs : List Value} (h : w.ownsRow base t size v n xs) (hb : base' ≤ base) : w.ownsRow base' t size v n xs :=
  ⟨h.1, h.2.imp id (fun ⟨g, a, b, h1, h2, h3⟩ => ⟨g, a, b, h1, Nat.le_trans hb h2, h3⟩)⟩
set_option maxHeartbeats 1000000 in
theorem cloneMould (b off n c : Nat) (zs : List Mould) (w : World) (hn : n ≤ 16777216) (hl : zs.length = n) (h : Row Mould.enc 4 w (some ⟨b, off, none⟩) zs) :
    Calls Try.prog 84 #[.slice (some ⟨b, off, none⟩) n c] w fun e w' => ∃ g c', e = .returned (.slice (some ⟨g, 0, none⟩) n c') ∧ w'.ownsRow w.heap.size 68 4 (.slice (some ⟨g, 0, none⟩) n c') n (flat Mould.enc zs) ∧ Below w.heap.size w w' := by
  obtain ⟨i0, hi, hz0, hz1, hz2⟩ := info_parts info_Mould
  have HA := hide h
  have HI := hide hi
  have HZ0 := hide hz0
  have HZ1 := hide hz1
  have HZ2 := hide hz2
  have hnm : n ≤ 9223372036854775807 := by omega
  clear h hi hz0 hz1 hz2
  have hnilq : ∀ W : World, (binOp .eql 50 (.slice (some ⟨b, off, none⟩) n c) (.slice none 0 0)).run Try.prog W = .ok (.bool false) W := fun W => Lib.run_eql_slice_nil W _ _ _ _ _ _ _ Try.underlying50
  go_enter Try.func84, Try.ntmps84
  have HO := hide (own_empty w w.heap.size 4 68 (Nat.le_refl _))
  have HB := hide ((Below.refl w.heap.size w).alloc (Nat.le_refl _) (.cells #[] 68))
  have hrn := row_news (k := 4) (fun _ => rfl) (by omega) (HA.out.below HB.out)
  have HR := hide hrn
  clear hrn
  have hfl := flat_length (enc := Mould.enc) (k := 4) (fun _ => rfl) zs
  rw [hl] at hfl
  have HF := hide hfl
  clear hfl hl
  go_wp2_with (first
    | (at_builtin
       refine wpList_append_own _ rfl _ _ 50 rfl w.heap.size 68 i0 _ 4 32 Try.underlying50 HI.out HZ0.out HZ1.out HZ2.out rfl (by decide) _ _ _ rfl HO.out ⟨b, off, none⟩ n c (flat Mould.enc zs) rfl HF.out HR.out enc_oneCell (by unfold maxLen; omega) (by omega) (by simp <;> omega) ?_
       intro v' w1 hown' hgrow hnil
       rw [Nat.zero_add, List.nil_append] at hown'
       have HB2 := hide (Below.grown HB.out hgrow (by simp <;> omega) (fun j hj => (HO.out.lt j hj).1))
       clear hgrow
       rcases hown'.2 with ⟨hq, _⟩ | ⟨g, cap, cur, rfl, hgb, _, _⟩
       · cases (hnil.1 hq).1
       clear hnil
       have HO2 := hide hown'
       clear hown'))
  go_wp2
  go_ret
  exact ⟨g, cap, rfl, HO2.out, HB2.out⟩
theorem spec_use_bad (A : Option Addr) (n c : Nat) (zs : List Mould) (k m : Int) (w : World) (hn : n ≤ 16777216) (hl : zs.length = n) (h : Row Mould.enc 4 w A zs) (hv : mouldsOk zs = false) :
    Calls Try.prog 28 #[.slice A n c, .int .i64 k, .int .i64 m] w fun e w' => ∃ A' c', e = .returned (.tuple #[.slice A' ([] : List Mould).length c', .int .i64 1]) ∧ Own 68 4 Mould.enc w' w.heap.size w'.heap.size A' ([] : List Mould).length c' ([] : List Mould) ∧ Below w.heap.size w w' := by
  have HA := hide h
  have HL := hide hl
  have hnm : n ≤ 9223372036854775807 := by omega
  clear h hl
  go_enter Try.func28, Try.ntmps28
  go_wp2_with fail
  refine (spec_l05Ok _ _ _ zs _ hn HL.out HA.out).mono ?_
  rintro e u1 ⟨rfl, rfl⟩
  rw [hv]
  go_wp2
  go_ret2
  exact ⟨none, 0, rfl, Own.nil (Nat.le_refl _), Below.refl _ _⟩
theorem spec_use_range (A : Option Addr) (n c : Nat) (zs : List Mould) (k m : Int) (w : World) (hn : n ≤ 16777216) (hl : zs.length = n) (h : Row Mould.enc 4 w A zs) (hv : mouldsOk zs = true) (hr : ¬ (0 ≤ k ∧ k ≤ (n : Int) - 1)) :
    Calls Try.prog 28 #[.slice A n c, .int .i64 k, .int .i64 m] w fun e w' => ∃ A' c', e = .returned (.tuple #[.slice A' ([] : List Mould).length c', .int .i64 2]) ∧ Own 68 4 Mould.enc w' w.heap.size w'.heap.size A' ([] : List Mould).length c' ([] : List Mould) ∧ Below w.heap.size w w' := by
  have HA := hide h
  have HL := hide hl
  have hnm : n ≤ 9223372036854775807 := by omega
  clear h hl
  go_enter Try.func28, Try.ntmps28
  go_wp2_with fail
  refine (spec_l05Ok _ _ _ zs _ hn HL.out HA.out).mono ?_
  rintro e u1 ⟨rfl, rfl⟩
  rw [hv]
  go_wp2_with fail
  refine (spec_in_no _ _ _ _ hr).mono ?_
  rintro e u2 ⟨rfl, rfl⟩
  go_wp2
  go_ret2
  exact ⟨none, 0, rfl, Own.nil (Nat.le_refl _), Below.refl _ _⟩
theorem spec_use_range2 (A : Option Addr) (n c : Nat) (zs : List Mould) (k m : Int) (w : World) (hn : n ≤ 16777216) (hl : zs.length = n) (h : Row Mould.enc 4 w A zs) (hv : mouldsOk zs = true) (h0 : 0 ≤ k) (h1 : k ≤ (n : Int) - 1) (hr : ¬ (1 ≤ m ∧ m ≤ 100000)) :
    Calls Try.prog 28 #[.slice A n c, .int .i64 k, .int .i64 m] w fun e w' => ∃ A' c', e = .returned (.tuple #[.slice A' ([] : List Mould).length c', .int .i64 2]) ∧ Own 68 4 Mould.enc w' w.heap.size w'.heap.size A' ([] : List Mould).length c' ([] : List Mould) ∧ Below w.heap.size w w' := by
  have HA := hide h
  have HL := hide hl
  have hnm : n ≤ 9223372036854775807 := by omega
  clear h hl
  go_enter Try.func28, Try.ntmps28
  go_wp2_with fail
  refine (spec_l05Ok _ _ _ zs _ hn HL.out HA.out).mono ?_
  rintro e u1 ⟨rfl, rfl⟩
  rw [hv]
  go_wp2_with fail
  refine (spec_in_yes _ _ _ _ h0 h1).mono ?_
  rintro e u2 ⟨rfl, rfl⟩
  go_wp2_with fail
  refine (spec_in_no _ _ _ _ hr).mono ?_
  rintro e u3 ⟨rfl, rfl⟩
  go_wp2
  go_ret2
  exact ⟨none, 0, rfl, Own.nil (Nat.le_refl _), Below.refl _ _⟩
set_option maxHeartbeats 1000000 in
theorem spec_use_full (A : Option Addr) (n c : Nat) (zs : List Mould) (k : Nat) (m : Int) (x0 x1 x2 x3 : Int) (w : World) (hn : n ≤ 16777216) (hl : zs.length = n) (h : Row Mould.enc 4 w A zs) (hv : mouldsOk zs = true) (hk : k < n) (hz : zs[k]? = some ⟨x0, x1, x2, x3⟩) (h0 : 1 ≤ m) (h1 : m ≤ 100000) (hu : ¬ x3 + m ≤ 100000) :
    Calls Try.prog 28 #[.slice A n c, .int .i64 k, .int .i64 m] w fun e w' => ∃ A' c', e = .returned (.tuple #[.slice A' ([] : List Mould).length c', .int .i64 5]) ∧ Own 68 4 Mould.enc w' w.heap.size w'.heap.size A' ([] : List Mould).length c' ([] : List Mould) ∧ Below w.heap.size w w' := by
  obtain ⟨i0, hi, hz0, hz1, hz2⟩ := info_parts info_Mould
  obtain ⟨b, off, rfl, hb, a0, a1, a2, a3⟩ := row_at_4 h hz rfl
  have hok := mould_ok_at hv hz
  have hx3 : 0 ≤ x3 := hok.2.2.2.1
  have hx3' : x3 ≤ 100000 := hok.2.2.2.2
  have HK := hide hok
  have HA := hide h
  have HL := hide hl
  have HZ := hide hz
  have HI := hide hi
  have HZ0 := hide hz0
  have HZ1 := hide hz1
  have HZ2 := hide hz2
  have hnm : n ≤ 9223372036854775807 := by omega
  have hkn : (k : Int) < (n : Int) := by omega
  clear h hz hi hz0 hz1 hz2 hok a0 a1 a2 a3
  go_enter Try.func28, Try.ntmps28
  go_wp2_with fail
  refine (spec_l05Ok _ _ _ zs _ hn hl HA.out).mono ?_
  rintro e u1 ⟨rfl, rfl⟩
  rw [hv]
  go_wp2_with fail
  refine (spec_in_yes _ _ _ _ (by omega) (by omega)).mono ?_
  rintro e u2 ⟨rfl, rfl⟩
  go_wp2_with fail
  refine (spec_in_yes _ _ _ _ h0 h1).mono ?_
  rintro e u3 ⟨rfl, rfl⟩
  have HK2 := hide (show Mould.ok ⟨x0, x1, x2, x3 + m⟩ = false from decide_eq_false (fun q => by have h5 : x3 + m ≤ 100000 := q.2.2.2.2; omega))
  have HO := hide (own_empty w w.heap.size 4 68 (Nat.le_refl _))
  have HB := hide ((Below.refl w.heap.size w).alloc (Nat.le_refl _) (.cells #[] 68))
  have hrn := row_news (k := 4) (fun _ => rfl) (by omega) (HA.out.below HB.out)
  have HR := hide hrn
  clear hrn
  have hfl := flat_length (enc := Mould.enc) (k := 4) (fun _ => rfl) zs
  rw [hl] at hfl
  have HF := hide hfl
  clear hfl hl
  go_wp2_with (first
    | (at_builtin
       refine wpList_append_own _ rfl _ _ 50 rfl w.heap.size 68 i0 _ 4 32 Try.underlying50 HI.out HZ0.out HZ1.out HZ2.out rfl (by decide) _ _ _ rfl HO.out ⟨b, off, none⟩ n c (flat Mould.enc zs) rfl HF.out HR.out enc_oneCell (by unfold maxLen; omega) (by omega) (by simp <;> omega) ?_
       intro v' w1 hown' hgrow hnil
       rw [Nat.zero_add, List.nil_append] at hown'
       have HB2 := hide (Below.grown HB.out hgrow (by simp <;> omega) (fun j hj => (HO.out.lt j hj).1))
       clear hgrow hnil
       rcases hown'.2 with ⟨_, hq⟩ | ⟨g, cap, cur, rfl, hgb, _, _⟩
       · omega
       obtain ⟨c0, c1, c2, c3, f0, f1, f2, f3⟩ := own_mould_at hown' HZ.out
       have hg := own_lt hown'
       have HO2 := hide hown'
       clear hown'))
  refine (spec_l05One x0 x1 x2 (x3 + m) _ _ _ (by simp [World.cell?_alloc_new]) (by simp [World.cell?_alloc_new]) (by simp [World.cell?_alloc_new]) (by simp [World.cell?_alloc_new])).mono ?_
  rintro e w2 ⟨rfl, rfl⟩
  rw [HK2.out]
  have HB3 := hide (HB2.out.alloc HB2.out.size (.cells #[.int .i64 x0, .int .i64 x1, .int .i64 x2, .int .i64 (x3 + m)] 68))
  go_wp2
  go_ret2
  exact ⟨none, 0, rfl, Own.nil (Nat.le_refl _), HB3.out⟩
theorem impl_use_bad (A : Option Addr) (n c : Nat) (zs : List Mould) (k m : Int) (w : World) (hn : n ≤ 16777216) (hl : zs.length = n) (h : Row Mould.enc 4 w A zs) (hv : mouldsOk zs = false) :
    Calls Try.prog 27 #[.slice A n c, .int .i64 k, .int .i64 m] w fun e w' => ∃ A' c', e = .returned (.tuple #[.slice A' ([] : List Mould).length c', .int .i64 1]) ∧ Own 68 4 Mould.enc w' w.heap.size w'.heap.size A' ([] : List Mould).length c' ([] : List Mould) ∧ Below w.heap.size w w' := by
  have HA := hide h
  have HL := hide hl
  have hnm : n ≤ 9223372036854775807 := by omega
  clear h hl
  go_enter Try.func27, Try.ntmps27
  go_wp2_with fail
  refine (impl_validMoulds _ _ _ zs _ hn HL.out HA.out).mono ?_
  rintro e u1 ⟨rfl, hb1⟩
  have HB1 := hide hb1
  have hs1 := hb1.size
  clear hb1
  rw [hv]
  go_wp2
  go_ret2
  exact ⟨none, 0, rfl, Own.nil (Nat.le_refl _), HB1.out⟩
theorem impl_use_range (A : Option Addr) (n c : Nat) (zs : List Mould) (k m : Int) (w : World) (hn : n ≤ 16777216) (hl : zs.length = n) (h : Row Mould.enc 4 w A zs) (hv : mouldsOk zs = true) (hr : ¬ (0 ≤ k ∧ k ≤ (n : Int) - 1)) :
    Calls Try.prog 27 #[.slice A n c, .int .i64 k, .int .i64 m] w fun e w' => ∃ A' c', e = .returned (.tuple #[.slice A' ([] : List Mould).length c', .int .i64 2]) ∧ Own 68 4 Mould.enc w' w.heap.size w'.heap.size A' ([] : List Mould).length c' ([] : List Mould) ∧ Below w.heap.size w w' := by
  have HA := hide h
  have HL := hide hl
  have hnm : n ≤ 9223372036854775807 := by omega
  clear h hl
  go_enter Try.func27, Try.ntmps27
  go_wp2_with fail
  refine (impl_validMoulds _ _ _ zs _ hn HL.out HA.out).mono ?_
  rintro e u1 ⟨rfl, hb1⟩
  have HB1 := hide hb1
  have hs1 := hb1.size
  clear hb1
  rw [hv]
  go_wp2_with fail
  refine (impl_in_no _ _ _ _ hr).mono ?_
  rintro e u2 ⟨rfl, rfl⟩
  go_wp2
  go_ret2
  exact ⟨none, 0, rfl, Own.nil (Nat.le_refl _), HB1.out⟩
theorem impl_use_range2 (A : Option Addr) (n c : Nat) (zs : List Mould) (k m : Int) (w : World) (hn : n ≤ 16777216) (hl : zs.length = n) (h : Row Mould.enc 4 w A zs) (hv : mouldsOk zs = true) (h0 : 0 ≤ k) (h1 : k ≤ (n : Int) - 1) (hr : ¬ (1 ≤ m ∧ m ≤ 100000)) :
    Calls Try.prog 27 #[.slice A n c, .int .i64 k, .int .i64 m] w fun e w' => ∃ A' c', e = .returned (.tuple #[.slice A' ([] : List Mould).length c', .int .i64 2]) ∧ Own 68 4 Mould.enc w' w.heap.size w'.heap.size A' ([] : List Mould).length c' ([] : List Mould) ∧ Below w.heap.size w w' := by
  have HA := hide h
  have HL := hide hl
  have hnm : n ≤ 9223372036854775807 := by omega
  clear h hl
  go_enter Try.func27, Try.ntmps27
  go_wp2_with fail
  refine (impl_validMoulds _ _ _ zs _ hn HL.out HA.out).mono ?_
  rintro e u1 ⟨rfl, hb1⟩
  have HB1 := hide hb1
  have hs1 := hb1.size
  clear hb1
  rw [hv]
  go_wp2_with fail
  refine (impl_in_yes _ _ _ _ h0 h1).mono ?_
  rintro e u2 ⟨rfl, rfl⟩
  go_wp2_with fail
  refine (impl_in_no _ _ _ _ hr).mono ?_
  rintro e u3 ⟨rfl, rfl⟩
  go_wp2
  go_ret2
  exact ⟨none, 0, rfl, Own.nil (Nat.le_refl _), HB1.out⟩
set_option maxHeartbeats 1000000 in
theorem impl_use_full (A : Option Addr) (n c : Nat) (zs : List Mould) (k : Nat) (m : Int) (x0 x1 x2 x3 : Int) (w : World) (hn : n ≤ 16777216) (hl : zs.length = n) (h : Row Mould.enc 4 w A zs) (hv : mouldsOk zs = true) (hk : k < n) (hz : zs[k]? = some ⟨x0, x1, x2, x3⟩) (h0 : 1 ≤ m) (h1 : m ≤ 100000) (hu : ¬ x3 + m ≤ 100000) :
    Calls Try.prog 27 #[.slice A n c, .int .i64 k, .int .i64 m] w fun e w' => ∃ A' c', e = .returned (.tuple #[.slice A' ([] : List Mould).length c', .int .i64 5]) ∧ Own 68 4 Mould.enc w' w.heap.size w'.heap.size A' ([] : List Mould).length c' ([] : List Mould) ∧ Below w.heap.size w w' := by
  obtain ⟨i0, hi, hz0, hz1, hz2⟩ := info_parts info_Mould
  obtain ⟨b, off, rfl, hb, a0, a1, a2, a3⟩ := row_at_4 h hz rfl
  have hok := mould_ok_at hv hz
  have hx3 : 0 ≤ x3 := hok.2.2.2.1
  have hx3' : x3 ≤ 100000 := hok.2.2.2.2
  have HK := hide hok
  have HA := hide h
  have HL := hide hl
  have HZ := hide hz
  have HI := hide hi
  have HZ0 := hide hz0
  have HZ1 := hide hz1
  have HZ2 := hide hz2
  have hnm : n ≤ 9223372036854775807 := by omega
  have hkn : (k : Int) < (n : Int) := by omega
  clear h hz hi hz0 hz1 hz2 hok a0 a1 a2 a3
  go_enter Try.func27, Try.ntmps27
  go_wp2_with fail
  refine (impl_validMoulds _ _ _ zs _ hn hl HA.out).mono ?_
  rintro e u1 ⟨rfl, hb1⟩
  have HB1 := hide hb1
  have hs1 := hb1.size
  clear hb1
  rw [hv]
  go_wp2_with fail
  refine (impl_in_yes _ _ _ _ (by omega) (by omega)).mono ?_
  rintro e u2 ⟨rfl, rfl⟩
  go_wp2_with fail
  refine (impl_in_yes _ _ _ _ h0 h1).mono ?_
  rintro e u3 ⟨rfl, rfl⟩
  have HK2 := hide (show mouldsOk (zs.set k ⟨x0, x1, x2, x3 + m⟩) = false from (mouldsOk_set _ hv (by omega)).trans (decide_eq_false (fun q => by have h5 : x3 + m ≤ 100000 := q.2.2.2.2; omega)))
  clear hl
  go_wp2_with fail
  refine (cloneMould b off n c zs _ hn HL.out (HA.out.below HB1.out)).mono ?_
  rintro e u4 ⟨g, cap, rfl, hown', hb2⟩
  have HB2 := hide (HB1.out.trans (hb2.mono hs1))
  clear hb2
  obtain ⟨c0, c1, c2, c3, f0, f1, f2, f3⟩ := own_mould_at hown' HZ.out
  have hg := own_lt hown'
  have h2 := own_mould_use (x3 + m) hown' HZ.out
  have HO4 := hide h2.1
  have HB4 := hide (HB2.out.trans (grown_below h2.2 (by omega) HB2.out.size))
  have HO2 := hide hown'
  clear hown' h2
  go_wp2_with fail
  refine (impl_validMoulds _ _ _ (zs.set k ⟨x0, x1, x2, x3 + m⟩) _ hn (by rw [List.length_set]; exact HL.out) (Row.of_own (fun _ => rfl) (by rw [List.length_set]; exact HL.out) HO4.out)).mono ?_
  rintro e u5 ⟨rfl, hb5⟩
  rw [HK2.out]
  have HB5 := hide (HB4.out.trans (hb5.mono HB4.out.size))
  have HO5 := hide (own_below HO4.out hb5)
  clear hb5
  go_wp2
  go_ret2
  exact ⟨none, 0, rfl, Own.nil (Nat.le_refl _), HB5.out⟩
set_option maxHeartbeats 1000000 in
theorem impl_use_yes (A : Option Addr) (n c : Nat) (zs : List Mould) (k : Nat) (m : Int) (x0 x1 x2 x3 : Int) (w : World) (hn : n ≤ 16777216) (hl : zs.length = n) (h : Row Mould.enc 4 w A zs) (hv : mouldsOk zs = true) (hk : k < n) (hz : zs[k]? = some ⟨x0, x1, x2, x3⟩) (h0 : 1 ≤ m) (h1 : m ≤ 100000) (hu : x3 + m ≤ 100000) :
    Calls Try.prog 27 #[.slice A n c, .int .i64 k, .int .i64 m] w fun e w' => ∃ A' c', e = .returned (.tuple #[.slice A' n c', .int .i64 0]) ∧ Own 68 4 Mould.enc w' w.heap.size w'.heap.size A' n c' (zs.set k ⟨x0, x1, x2, x3 + m⟩) ∧ Below w.heap.size w w' := by
  obtain ⟨i0, hi, hz0, hz1, hz2⟩ := info_parts info_Mould
  obtain ⟨b, off, rfl, hb, a0, a1, a2, a3⟩ := row_at_4 h hz rfl
  have hok := mould_ok_at hv hz
  have hx3 : 0 ≤ x3 := hok.2.2.2.1
  have hx3' : x3 ≤ 100000 := hok.2.2.2.2
  have HK := hide hok
  have HA := hide h
  have HL := hide hl
  have HZ := hide hz
  have HI := hide hi
  have HZ0 := hide hz0
  have HZ1 := hide hz1
  have HZ2 := hide hz2
  have hnm : n ≤ 9223372036854775807 := by omega
  have hkn : (k : Int) < (n : Int) := by omega
  clear h hz hi hz0 hz1 hz2 hok a0 a1 a2 a3
  go_enter Try.func27, Try.ntmps27
  go_wp2_with fail
  refine (impl_validMoulds _ _ _ zs _ hn hl HA.out).mono ?_
  rintro e u1 ⟨rfl, hb1⟩
  have HB1 := hide hb1
  have hs1 := hb1.size
  clear hb1
  rw [hv]
  go_wp2_with fail
  refine (impl_in_yes _ _ _ _ (by omega) (by omega)).mono ?_
  rintro e u2 ⟨rfl, rfl⟩
  go_wp2_with fail
  refine (impl_in_yes _ _ _ _ h0 h1).mono ?_
  rintro e u3 ⟨rfl, rfl⟩
  have HK2 := hide (show mouldsOk (zs.set k ⟨x0, x1, x2, x3 + m⟩) = true from (mouldsOk_set _ hv (by omega)).trans (decide_eq_true ⟨HK.out.1, HK.out.2.1, HK.out.2.2.1, by show 0 ≤ x3 + m; omega, hu⟩))
  clear hl
  go_wp2_with fail
  refine (cloneMould b off n c zs _ hn HL.out (HA.out.below HB1.out)).mono ?_
  rintro e u4 ⟨g, cap, rfl, hown', hb2⟩
  have HB2 := hide (HB1.out.trans (hb2.mono hs1))
  clear hb2
  obtain ⟨c0, c1, c2, c3, f0, f1, f2, f3⟩ := own_mould_at hown' HZ.out
  have hg := own_lt hown'
  have h2 := own_mould_use (x3 + m) hown' HZ.out
  have HO4 := hide h2.1
  have HB4 := hide (HB2.out.trans (grown_below h2.2 (by omega) HB2.out.size))
  have HO2 := hide hown'
  clear hown' h2
  go_wp2_with fail
  refine (impl_validMoulds _ _ _ (zs.set k ⟨x0, x1, x2, x3 + m⟩) _ hn (by rw [List.length_set]; exact HL.out) (Row.of_own (fun _ => rfl) (by rw [List.length_set]; exact HL.out) HO4.out)).mono ?_
  rintro e u5 ⟨rfl, hb5⟩
  rw [HK2.out]
  have HB5 := hide (HB4.out.trans (hb5.mono HB4.out.size))
  have HO5 := hide (own_below HO4.out hb5)
  clear hb5
  go_wp2
  go_ret2
  exact ⟨some ⟨g, 0, none⟩, cap, rfl, ⟨by rw [List.length_set]; exact HL.out, own_weaken HO5.out (by omega), fun a ha => by
    obtain rfl := Option.some.inj ha
    exact (own_lt HO5.out).2, Nat.le_refl _⟩, HB5.out⟩
end Go.Proofs.Ytgobpleckeeheaa
