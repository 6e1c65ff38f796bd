/-
  What is proved: one mould used, of the program and of the reference. Conditions: lengths that fit.
-/
import Derived.Test.YtgobpleckeeheaaMouldOk
import Derived.Test.YtgobpleckeeheaaRowSet
import Derived.Test.YtgobpleckeeheaaIntS
import Derived.OwnWalk
namespace Go.Proofs.Ytgobpleckeeheaa
open Go.RowKit
set_option linter.unusedVariables false

theorem mouldsOk_set {zs : List Mould} {k : Nat} (z : Mould) (h : mouldsOk zs = true) (hk : k < zs.length) : mouldsOk (zs.set k z) = z.ok := by
  unfold mouldsOk at h ⊢
  rw [Bool.and_eq_true, List.all_eq_true] at h
  rw [List.length_set, h.1, Bool.true_and]
  by_cases hz : z.ok = true
  · rw [hz, List.all_eq_true]
    intro x hx
    rcases List.mem_or_eq_of_mem_set hx with h1 | rfl
    · exact h.2 x h1
    · exact hz
  · have hz' : z.ok = false := by simpa using hz
    rw [hz', List.all_eq_false]
    exact ⟨z, List.mem_set hk z, hz⟩

set_option maxHeartbeats 1000000 in
theorem spec_use_yes (A : Option Addr) (n c : Nat) (zs : List Mould) (k : Nat) (m : Int) (x0 x1 x2 x3 : Int) (w : World) (hn : n ≤ 16777216) (hl : zs.length = n) (h : Row Mould.enc 4 w A zs) (hv : mouldsOk zs = true) (hk : k < n) (hz : zs[k]? = some ⟨x0, x1, x2, x3⟩) (h0 : 1 ≤ m) (h1 : m ≤ 100000) (hu : x3 + m ≤ 100000) :
    Calls Try.prog 28 #[.slice A n c, .int .i64 k, .int .i64 m] w fun e w' => ∃ A' c', e = .returned (.tuple #[.slice A' n c', .int .i64 0]) ∧ Own 68 4 Mould.enc w' w.heap.size w'.heap.size A' n c' (zs.set k ⟨x0, x1, x2, x3 + m⟩) ∧ Below w.heap.size w w' := by
  obtain ⟨i0, hi, hz0, hz1, hz2⟩ := info_parts info_Mould
  obtain ⟨b, off, rfl, hb, a0, a1, a2, a3⟩ := row_at_4 h hz rfl
  have hzs : zs[k]? = some ⟨x0, x1, x2, x3⟩ := hz
  have hok : Mould.Ok ⟨x0, x1, x2, x3⟩ := by
    unfold mouldsOk at hv
    rw [Bool.and_eq_true, List.all_eq_true] at hv
    exact of_decide_eq_true (hv.2 _ (List.mem_of_getElem? hz))
  have hx3 : 0 ≤ x3 := hok.2.2.2.1
  have hx3' : x3 ≤ 100000 := hok.2.2.2.2
  have hok2 : Mould.ok ⟨x0, x1, x2, x3 + m⟩ = true := decide_eq_true ⟨hok.1, hok.2.1, hok.2.2.1, by show 0 ≤ x3 + m; omega, hu⟩
  have HK2 := hide hok2
  have HA := hide h
  have HL := hide hl
  have HZ := hide hz
  have HI := hide hi
  have HZ0 := hide hz0
  have HZ1 := hide hz1
  have HZ2 := hide hz2
  have hnm : n ≤ 9223372036854775807 := by omega
  have hkn : (k : Int) < (n : Int) := by omega
  clear h hl hz hi hz0 hz1 hz2 hok hok2 a0 a1 a2 a3 hzs
  go_enter Try.func28, Try.ntmps28
  go_wp2_with fail
  refine (spec_l05Ok _ _ _ zs _ hn HL.out HA.out).mono ?_
  rintro e w1 ⟨rfl, rfl⟩
  rw [hv]
  go_wp2_with fail
  refine (spec_in_yes _ _ _ _ (by omega) (by omega)).mono ?_
  rintro e w1 ⟨rfl, rfl⟩
  go_wp2_with fail
  refine (spec_in_yes _ _ _ _ h0 h1).mono ?_
  rintro e w1 ⟨rfl, rfl⟩
  have HO := hide (own_empty w w.heap.size 4 68 (Nat.le_refl _))
  have HB := hide ((Below.refl w.heap.size w).alloc (Nat.le_refl _) (.cells #[] 68))
  have hrn := row_news (k := 4) (fun _ => rfl) (by omega) (HA.out.below ((Below.refl w.heap.size w).alloc (Nat.le_refl _) (.cells #[] 68)))
  have HR := hide hrn
  clear hrn
  have hfl := flat_length (enc := Mould.enc) (k := 4) (fun _ => rfl) zs
  rw [HL.out] at hfl
  have HF := hide hfl
  clear hfl
  go_wp2_with (first
    | (at_builtin
       refine wpList_append_own _ rfl _ _ 50 rfl w.heap.size 68 i0 _ 4 32 Try.underlying50 HI.out HZ0.out HZ1.out HZ2.out rfl (by decide) _ _ _ rfl HO.out ⟨b, off, none⟩ n c (flat Mould.enc zs) rfl HF.out HR.out enc_oneCell (by unfold maxLen; omega) (by omega) (by simp) ?_
       intro v' w1 hown' hgrow hnil
       rw [Nat.zero_add, List.nil_append] at hown'
       have HB2 := hide (Below.grown HB.out hgrow (by simp) (fun j hj => (HO.out.lt j hj).1))
       clear hgrow hnil
       rcases hown'.2 with ⟨_, hq⟩ | ⟨g, cap, cur, rfl, hgb, _, _⟩
       · omega
       obtain ⟨c0, c1, c2, c3, f0, f1, f2, f3⟩ := own_mould_at hown' HZ.out
       have hg := own_lt hown'
       have HO2 := hide hown'
       clear hown'))
  refine (spec_l05One x0 x1 x2 (x3 + m) _ _ _ (by simp [World.cell?_alloc_new]) (by simp [World.cell?_alloc_new]) (by simp [World.cell?_alloc_new]) (by simp [World.cell?_alloc_new])).mono ?_
  rintro e w2 ⟨rfl, rfl⟩
  rw [HK2.out]
  have h2 := own_mould_set x0 x1 x2 (x3 + m) HO2.out HL.out hk
  have hb4 := HB2.out.trans (grown_below h2.2 hg.1 HB2.out.size)
  have HB4 := hide (hb4.alloc hb4.size (.cells #[.int .i64 x0, .int .i64 x1, .int .i64 x2, .int .i64 (x3 + m)] 68))
  have HO4 := hide (h2.1.alloc (.cells #[.int .i64 x0, .int .i64 x1, .int .i64 x2, .int .i64 (x3 + m)] 68))
  clear h2 hb4
  go_wp2
  go_ret2
  exact ⟨some ⟨g, 0, none⟩, cap, rfl, ⟨by rw [List.length_set]; exact HL.out, HO4.out, fun a ha => by
    obtain rfl := Option.some.inj ha
    exact (own_lt HO4.out).2, Nat.le_refl _⟩, HB4.out⟩
end Go.Proofs.Ytgobpleckeeheaa
