/-
  What is proved: FiredSize of the program and of the reference, one contract each. No conditions.
-/
import Derived.Test.YtakckjmkjplbfaaFired
import Derived.Test.YtakckjmkjplbfaaMouldFor
import Derived.Test.YtakckjmkjplbfaaRowSet
namespace Go.Proofs.Ytakckjmkjplbfaa
open Go.RowKit
set_option linter.unusedVariables false

theorem own_lower {α : Type} {t : TypeId} {k : Nat} {enc : α → List Value} {w : World} {lo lo' hi n c : Nat} {A : Option Addr} {xs : List α} (h : Own t k enc w lo hi A n c xs) (hb : lo' ≤ lo) : Own t k enc w lo' hi A n c xs :=
  ⟨h.len, own_weak h.own hb, h.up, h.hi_le⟩
def fsL (a b c d s : Int) : List Int := if Mould.Ok ⟨a, b, c, d⟩ ∧ 0 ≤ s ∧ s ≤ 200 then [firedI a s, firedI b s, firedI c s] else []
def fsC (a b c d s : Int) : Int := if Mould.Ok ⟨a, b, c, d⟩ then (if 0 ≤ s ∧ s ≤ 200 then 0 else 2) else 1
theorem fsL_len (a b c d s : Int) : (fsL a b c d s).length ≤ 3 := by
  unfold fsL
  split
  · exact Nat.le_refl _
  · exact Nat.zero_le _
theorem spec_fs_bad (a b c d s : Int) (w : World) (hm : ¬ Mould.Ok ⟨a, b, c, d⟩) :
    Calls Try.prog 19 #[.agg #[.int .i64 a, .int .i64 b, .int .i64 c, .int .i64 d], .int .i64 s] w fun e w' => ∃ A' c', e = .returned (.tuple #[.slice A' ([] : List Int).length c', .int .i64 1]) ∧ Own 2 1 encI w' w.heap.size w'.heap.size A' ([] : List Int).length c' ([] : List Int) ∧ Below w.heap.size w w' := by
  have hv : Mould.ok ⟨a, b, c, d⟩ = false := decide_eq_false hm
  clear hm
  go_enter Try.func19, Try.ntmps19
  have HB1 := hide ((Below.refl w.heap.size w).alloc (Nat.le_refl _) (.cells #[.int .i64 a, .int .i64 b, .int .i64 c, .int .i64 d] 35))
  go_wp2_with fail
  refine (spec_l05One a b c d _ _ _ (by simp [World.cell?_alloc_new]) (by simp [World.cell?_alloc_new]) (by simp [World.cell?_alloc_new]) (by simp [World.cell?_alloc_new])).mono ?_
  rintro e u1 ⟨rfl, rfl⟩
  rw [hv]
  go_wp2
  go_ret2
  exact ⟨none, 0, rfl, Own.nil (Nat.le_refl _), HB1.out⟩
theorem spec_fs_range (a b c d s : Int) (w : World) (hm : Mould.Ok ⟨a, b, c, d⟩) (hr : ¬ (0 ≤ s ∧ s ≤ 200)) :
    Calls Try.prog 19 #[.agg #[.int .i64 a, .int .i64 b, .int .i64 c, .int .i64 d], .int .i64 s] w fun e w' => ∃ A' c', e = .returned (.tuple #[.slice A' ([] : List Int).length c', .int .i64 2]) ∧ Own 2 1 encI w' w.heap.size w'.heap.size A' ([] : List Int).length c' ([] : List Int) ∧ Below w.heap.size w w' := by
  have hv : Mould.ok ⟨a, b, c, d⟩ = true := decide_eq_true hm
  clear hm
  go_enter Try.func19, Try.ntmps19
  have HB1 := hide ((Below.refl w.heap.size w).alloc (Nat.le_refl _) (.cells #[.int .i64 a, .int .i64 b, .int .i64 c, .int .i64 d] 35))
  go_wp2_with fail
  refine (spec_l05One a b c d _ _ _ (by simp [World.cell?_alloc_new]) (by simp [World.cell?_alloc_new]) (by simp [World.cell?_alloc_new]) (by simp [World.cell?_alloc_new])).mono ?_
  rintro e u1 ⟨rfl, rfl⟩
  rw [hv]
  go_wp2_with fail
  refine (spec_in_no _ _ _ _ hr).mono ?_
  rintro e u2 ⟨rfl, rfl⟩
  go_wp2
  go_ret2
  exact ⟨none, 0, rfl, Own.nil (Nat.le_refl _), HB1.out⟩
theorem spec_fs_yes (a b c d s : Int) (w : World) (hm : Mould.Ok ⟨a, b, c, d⟩) (hr : 0 ≤ s ∧ s ≤ 200) :
    Calls Try.prog 19 #[.agg #[.int .i64 a, .int .i64 b, .int .i64 c, .int .i64 d], .int .i64 s] w fun e w' => ∃ A' c', e = .returned (.tuple #[.slice A' 3 c', .int .i64 0]) ∧ Own 2 1 encI w' w.heap.size w'.heap.size A' 3 c' [firedI a s, firedI b s, firedI c s] ∧ Below w.heap.size w w' := by
  have hv : Mould.ok ⟨a, b, c, d⟩ = true := decide_eq_true hm
  obtain ⟨⟨m0, m1⟩, ⟨m2, m3⟩, ⟨m4, m5⟩, ⟨m6, m7⟩⟩ := hm
  simp only at m0 m1 m2 m3 m4 m5 m6 m7
  go_enter Try.func19, Try.ntmps19
  have HB1 := hide ((Below.refl w.heap.size w).alloc (Nat.le_refl _) (.cells #[.int .i64 a, .int .i64 b, .int .i64 c, .int .i64 d] 35))
  go_wp2_with fail
  refine (spec_l05One a b c d _ _ _ (by simp [World.cell?_alloc_new]) (by simp [World.cell?_alloc_new]) (by simp [World.cell?_alloc_new]) (by simp [World.cell?_alloc_new])).mono ?_
  rintro e u1 ⟨rfl, rfl⟩
  rw [hv]
  go_wp2_with fail
  refine (spec_in_yes _ _ _ _ hr.1 hr.2).mono ?_
  rintro e u2 ⟨rfl, rfl⟩
  go_wp2_with fail
  refine (spec_l05All a b c d s _ _ _ (by simp [World.cell?_alloc_new]) (by simp [World.cell?_alloc_new]) (by simp [World.cell?_alloc_new]) (by simp [World.cell?_alloc_new]) (by simp) ⟨by omega, by omega⟩ ⟨by omega, by omega⟩ ⟨by omega, by omega⟩ ⟨by omega, by omega⟩).mono ?_
  rintro e u3 ⟨A', c', rfl, ho, hb3⟩
  have HO := hide (own_lower ho HB1.out.size)
  have HB3 := hide (HB1.out.trans (hb3.mono HB1.out.size))
  clear ho hb3
  go_wp2
  go_ret2
  exact ⟨A', c', rfl, HO.out, HB3.out⟩
theorem spec_fs (a b c d s : Int) (K : List Int) (cc : Int) (w : World) (hK : fsL a b c d s = K) (hC : fsC a b c d s = cc) :
    Calls Try.prog 19 #[.agg #[.int .i64 a, .int .i64 b, .int .i64 c, .int .i64 d], .int .i64 s] w fun e w' => ∃ A' c', e = .returned (.tuple #[.slice A' K.length c', .int .i64 cc]) ∧ Own 2 1 encI w' w.heap.size w'.heap.size A' K.length c' K ∧ Below w.heap.size w w' := by
  subst hK hC
  unfold fsL fsC
  by_cases hm : Mould.Ok ⟨a, b, c, d⟩
  · by_cases hr : 0 ≤ s ∧ s ≤ 200
    · rw [if_pos ⟨hm, hr⟩, if_pos hm, if_pos hr]
      exact spec_fs_yes a b c d s w hm hr
    · rw [if_neg (fun q => hr q.2), if_pos hm, if_neg hr]
      exact spec_fs_range a b c d s w hm hr
  · rw [if_neg (fun q => hm q.1), if_neg hm]
    exact spec_fs_bad a b c d s w hm
theorem impl_fs_bad (a b c d s : Int) (w : World) (hm : ¬ Mould.Ok ⟨a, b, c, d⟩) :
    Calls Try.prog 21 #[.agg #[.int .i64 a, .int .i64 b, .int .i64 c, .int .i64 d], .int .i64 s] w fun e w' => ∃ A' c', e = .returned (.tuple #[.slice A' ([] : List Int).length c', .int .i64 1]) ∧ Own 2 1 encI w' w.heap.size w'.heap.size A' ([] : List Int).length c' ([] : List Int) ∧ Below w.heap.size w w' := by
  have hv : Mould.ok ⟨a, b, c, d⟩ = false := decide_eq_false hm
  clear hm
  go_enter Try.func21, Try.ntmps21
  go_wp2_with fail
  refine (impl_validMould a b c d _).mono ?_
  rintro e u1 ⟨rfl, hb1⟩
  rw [hv]
  have HB1 := hide (((Below.refl w.heap.size w).alloc (Nat.le_refl _) (.cells #[.int .i64 a, .int .i64 b, .int .i64 c, .int .i64 d] 35)).trans (hb1.mono (by simp)))
  obtain ⟨hcc, hff⟩ := bcell hb1
  have hz1 := hb1.size
  simp at hz1
  clear hb1
  go_wp2
  go_ret2
  exact ⟨none, 0, rfl, Own.nil (Nat.le_refl _), HB1.out⟩
theorem impl_fs_range (a b c d s : Int) (w : World) (hm : Mould.Ok ⟨a, b, c, d⟩) (hr : ¬ (0 ≤ s ∧ s ≤ 200)) :
    Calls Try.prog 21 #[.agg #[.int .i64 a, .int .i64 b, .int .i64 c, .int .i64 d], .int .i64 s] w fun e w' => ∃ A' c', e = .returned (.tuple #[.slice A' ([] : List Int).length c', .int .i64 2]) ∧ Own 2 1 encI w' w.heap.size w'.heap.size A' ([] : List Int).length c' ([] : List Int) ∧ Below w.heap.size w w' := by
  have hv : Mould.ok ⟨a, b, c, d⟩ = true := decide_eq_true hm
  clear hm
  go_enter Try.func21, Try.ntmps21
  go_wp2_with fail
  refine (impl_validMould a b c d _).mono ?_
  rintro e u1 ⟨rfl, hb1⟩
  rw [hv]
  have HB1 := hide (((Below.refl w.heap.size w).alloc (Nat.le_refl _) (.cells #[.int .i64 a, .int .i64 b, .int .i64 c, .int .i64 d] 35)).trans (hb1.mono (by simp)))
  obtain ⟨hcc, hff⟩ := bcell hb1
  have hz1 := hb1.size
  simp at hz1
  clear hb1
  go_wp2_with fail
  refine (impl_isShrink s _).mono ?_
  rintro e u2 ⟨rfl, rfl⟩
  rw [decide_eq_false hr]
  go_wp2
  go_ret2
  exact ⟨none, 0, rfl, Own.nil (Nat.le_refl _), HB1.out⟩
theorem impl_fs_yes (a b c d s : Int) (w : World) (hm : Mould.Ok ⟨a, b, c, d⟩) (hr : 0 ≤ s ∧ s ≤ 200) :
    Calls Try.prog 21 #[.agg #[.int .i64 a, .int .i64 b, .int .i64 c, .int .i64 d], .int .i64 s] w fun e w' => ∃ A' c', e = .returned (.tuple #[.slice A' 3 c', .int .i64 0]) ∧ Own 2 1 encI w' w.heap.size w'.heap.size A' 3 c' [firedI a s, firedI b s, firedI c s] ∧ Below w.heap.size w w' := by
  have hv : Mould.ok ⟨a, b, c, d⟩ = true := decide_eq_true hm
  obtain ⟨⟨m0, m1⟩, ⟨m2, m3⟩, ⟨m4, m5⟩, ⟨m6, m7⟩⟩ := hm
  simp only at m0 m1 m2 m3 m4 m5 m6 m7
  go_enter Try.func21, Try.ntmps21
  go_wp2_with fail
  refine (impl_validMould a b c d _).mono ?_
  rintro e u1 ⟨rfl, hb1⟩
  rw [hv]
  have HB1 := hide (((Below.refl w.heap.size w).alloc (Nat.le_refl _) (.cells #[.int .i64 a, .int .i64 b, .int .i64 c, .int .i64 d] 35)).trans (hb1.mono (by simp)))
  obtain ⟨hcc, hff⟩ := bcell hb1
  have hz1 := hb1.size
  simp at hz1
  clear hb1
  go_wp2_with fail
  refine (impl_isShrink s _).mono ?_
  rintro e u2 ⟨rfl, rfl⟩
  rw [decide_eq_true hr]
  go_wp2_with fail
  refine (impl_firedOwn a b c d s _ ⟨by omega, by omega⟩ ⟨by omega, by omega⟩ ⟨by omega, by omega⟩ ⟨by omega, by omega⟩).mono ?_
  rintro e u3 ⟨A', c', rfl, ho, hb3⟩
  have HO := hide (own_lower ho HB1.out.size)
  have HB3 := hide (HB1.out.trans (hb3.mono HB1.out.size))
  clear ho hb3
  go_wp2
  go_ret2
  exact ⟨A', c', rfl, HO.out, HB3.out⟩
theorem impl_fs (a b c d s : Int) (K : List Int) (cc : Int) (w : World) (hK : fsL a b c d s = K) (hC : fsC a b c d s = cc) :
    Calls Try.prog 21 #[.agg #[.int .i64 a, .int .i64 b, .int .i64 c, .int .i64 d], .int .i64 s] w fun e w' => ∃ A' c', e = .returned (.tuple #[.slice A' K.length c', .int .i64 cc]) ∧ Own 2 1 encI w' w.heap.size w'.heap.size A' K.length c' K ∧ Below w.heap.size w w' := by
  subst hK hC
  unfold fsL fsC
  by_cases hm : Mould.Ok ⟨a, b, c, d⟩
  · by_cases hr : 0 ≤ s ∧ s ≤ 200
    · rw [if_pos ⟨hm, hr⟩, if_pos hm, if_pos hr]
      exact impl_fs_yes a b c d s w hm hr
    · rw [if_neg (fun q => hr q.2), if_pos hm, if_neg hr]
      exact impl_fs_range a b c d s w hm hr
  · rw [if_neg (fun q => hm q.1), if_neg hm]
    exact impl_fs_bad a b c d s w hm
theorem own_mould_one (w : World) (t : TypeId) (a b c d : Int) : Own t 4 Mould.enc (w.alloc (.cells #[.int .i64 a, .int .i64 b, .int .i64 c, .int .i64 d] t)) w.heap.size (w.heap.size + 1) (some ⟨w.heap.size, 0, none⟩) 1 1 [(⟨a, b, c, d⟩ : Mould)] :=
  ⟨rfl, ⟨rfl, .inr ⟨w.heap.size, 1, _, rfl, Nat.le_refl _, (show (w.heap.push _)[w.heap.size]? = _ from Array.getElem?_push_size), Nat.le_refl _, by unfold maxLen; omega, rfl, rfl⟩⟩, (fun x hx => by obtain rfl := Option.some.inj hx; exact Nat.lt_succ_self _), by simp⟩
end Go.Proofs.Ytakckjmkjplbfaa
