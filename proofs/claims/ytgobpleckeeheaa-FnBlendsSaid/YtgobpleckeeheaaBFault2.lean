/-
  What is proved: the fault of a blend: one contract each, of the program and of the reference. Conditions: lengths that fit.
-/
import Derived.Test.YtgobpleckeeheaaBFault
namespace Go.Proofs.Ytgobpleckeeheaa
open Go.RowKit
set_option linter.unusedVariables false

def bfS (zs : List Clay) (ps : List Int) (l h m s : Int) : ByteArray := if scode zs ps = 0 ∧ LimOk l h m s then bfault zs ps l h m s else ⟨#[]⟩
def bfC (zs : List Clay) (ps : List Int) (l h m s : Int) : Int := if claysOk zs = true then (if LimOk l h m s then scode zs ps else 2) else 1
theorem pcode_one {zs : List Clay} {ps : List Int} (h : ¬ claysOk zs = true) : pcode zs ps = 1 := by
  unfold pcode
  rw [if_neg h]
theorem scode_one {zs : List Clay} {ps : List Int} (h : ¬ claysOk zs = true) : scode zs ps = 1 := by
  unfold scode
  rw [if_neg h]
theorem scode_ne {zs : List Clay} {ps : List Int} (h : claysOk zs = true) : scode zs ps ≠ 1 := by
  unfold scode
  rw [if_pos h]
  split
  · split <;> decide
  · decide
theorem pcode_two {zs : List Clay} {ps : List Int} (h : claysOk zs = true) (h2 : pcode zs ps ≠ 0) : pcode zs ps = 2 := by
  unfold pcode at h2 ⊢
  rw [if_pos h] at h2 ⊢
  split at h2
  · exact absurd rfl h2
  · rename_i q
    rw [if_neg q]
set_option maxRecDepth 100000 in
set_option maxHeartbeats 1000000 in
theorem impl_bf_no (A B : Option Addr) (n c m' d : Nat) (zs : List Clay) (ps : List Int) (l h m s : Int) (w : World) (hn : n ≤ 16777216) (hnc : n ≤ c) (hm : m' ≤ 16777216) (hl : zs.length = n) (hl2 : ps.length = m') (ha : Row Clay.enc 5 w A zs) (hb : Row encI 1 w B ps) (hM : Names zs) (hc : pcode zs ps ≠ 0) :
    Calls Try.prog 12 #[.slice A n c, .slice B m' d, .agg #[.int .i64 l, .int .i64 h, .int .i64 m, .int .i64 s]] w fun e w' => e = .returned (.tuple #[.string ⟨#[]⟩, .int .i64 (pcode zs ps)]) ∧ Below w.heap.size w w' := by
  have HA := hide ha
  have HB := hide hb
  have HL := hide hl
  have HL2 := hide hl2
  have HM := hide hM
  clear ha hb hl hl2 hM
  have dc : (pcode zs ps != 0) = true := by simpa using hc
  obtain ⟨k, hk⟩ : ∃ k, pcode zs ps = k := ⟨_, rfl⟩
  rw [hk] at dc ⊢
  have HK := hide hk
  clear hc hk
  go_enter Try.func12, Try.ntmps12
  have HB0 := hide ((Below.refl w.heap.size w).alloc (Nat.le_refl _) (.cells #[.int .i64 l, .int .i64 h, .int .i64 m, .int .i64 s] 26))
  go_wp2_with fail
  refine (impl_partsCode _ _ _ _ _ _ zs ps _ hn hnc hm HL.out HL2.out (HA.out.below HB0.out) (HB.out.below HB0.out) HM.out).mono ?_
  rintro e w1 ⟨rfl, hb1⟩
  have r0 := (hb1.cell (p := ⟨w.heap.size, 0, none⟩) (by simp)).trans (show _ = some (.int .i64 l) from by simp [go_sem])
  have r1 := (hb1.cell (p := ⟨w.heap.size, 1, none⟩) (by simp)).trans (show _ = some (.int .i64 h) from by simp [go_sem])
  have r2 := (hb1.cell (p := ⟨w.heap.size, 2, none⟩) (by simp)).trans (show _ = some (.int .i64 m) from by simp [go_sem])
  have r3 := (hb1.cell (p := ⟨w.heap.size, 3, none⟩) (by simp)).trans (show _ = some (.int .i64 s) from by simp [go_sem])
  have hz1 : w.heap.size < w1.heap.size := by have := hb1.size; simp at this; omega
  have HB1 := hide (HB0.out.trans (hb1.mono (by simp)))
  clear hb1
  rw [HK.out]
  go_wp2
  go_ret2
  exact ⟨rfl, HB1.out⟩
set_option maxRecDepth 100000 in
set_option maxHeartbeats 1000000 in
theorem impl_bf_lim (A B : Option Addr) (n c m' d : Nat) (zs : List Clay) (ps : List Int) (l h m s : Int) (w : World) (hn : n ≤ 16777216) (hnc : n ≤ c) (hm : m' ≤ 16777216) (hl : zs.length = n) (hl2 : ps.length = m') (ha : Row Clay.enc 5 w A zs) (hb : Row encI 1 w B ps) (hM : Names zs) (hc : pcode zs ps = 0) (hq : limB l h m s = false) :
    Calls Try.prog 12 #[.slice A n c, .slice B m' d, .agg #[.int .i64 l, .int .i64 h, .int .i64 m, .int .i64 s]] w fun e w' => e = .returned (.tuple #[.string ⟨#[]⟩, .int .i64 2]) ∧ Below w.heap.size w w' := by
  have HA := hide ha
  have HB := hide hb
  have HL := hide hl
  have HL2 := hide hl2
  have HM := hide hM
  clear ha hb hl hl2 hM
  go_enter Try.func12, Try.ntmps12
  have HB0 := hide ((Below.refl w.heap.size w).alloc (Nat.le_refl _) (.cells #[.int .i64 l, .int .i64 h, .int .i64 m, .int .i64 s] 26))
  go_wp2_with fail
  refine (impl_partsCode _ _ _ _ _ _ zs ps _ hn hnc hm HL.out HL2.out (HA.out.below HB0.out) (HB.out.below HB0.out) HM.out).mono ?_
  rintro e w1 ⟨rfl, hb1⟩
  have r0 := (hb1.cell (p := ⟨w.heap.size, 0, none⟩) (by simp)).trans (show _ = some (.int .i64 l) from by simp [go_sem])
  have r1 := (hb1.cell (p := ⟨w.heap.size, 1, none⟩) (by simp)).trans (show _ = some (.int .i64 h) from by simp [go_sem])
  have r2 := (hb1.cell (p := ⟨w.heap.size, 2, none⟩) (by simp)).trans (show _ = some (.int .i64 m) from by simp [go_sem])
  have r3 := (hb1.cell (p := ⟨w.heap.size, 3, none⟩) (by simp)).trans (show _ = some (.int .i64 s) from by simp [go_sem])
  have hz1 : w.heap.size < w1.heap.size := by have := hb1.size; simp at this; omega
  have HB1 := hide (HB0.out.trans (hb1.mono (by simp)))
  clear hb1
  rw [hc]
  go_wp2_with fail
  refine (impl_isLimits l h m s _).mono ?_
  rintro e w2 ⟨rfl, hb2⟩
  rw [hq]
  replace r0 := (hb2.cell (p := ⟨w.heap.size, 0, none⟩) hz1).trans r0
  replace r1 := (hb2.cell (p := ⟨w.heap.size, 1, none⟩) hz1).trans r1
  replace r2 := (hb2.cell (p := ⟨w.heap.size, 2, none⟩) hz1).trans r2
  replace r3 := (hb2.cell (p := ⟨w.heap.size, 3, none⟩) hz1).trans r3
  have hz2 : w.heap.size < w2.heap.size := Nat.lt_of_lt_of_le hz1 hb2.size
  have HB2 := hide (HB1.out.trans (hb2.mono HB1.out.size))
  clear hb2
  go_wp2
  go_ret2
  exact ⟨rfl, HB2.out⟩
set_option maxRecDepth 100000 in
set_option maxHeartbeats 1000000 in
theorem impl_bf_zero (A B : Option Addr) (n c m' d : Nat) (zs : List Clay) (ps : List Int) (l h m s : Int) (w : World) (hn : n ≤ 16777216) (hnc : n ≤ c) (hm : m' ≤ 16777216) (hl : zs.length = n) (hl2 : ps.length = m') (ha : Row Clay.enc 5 w A zs) (hb : Row encI 1 w B ps) (hM : Names zs) (h1 : claysOk zs = true) (h2 : ps.length = zs.length) (h3 : partsIn ps = true) (h4 : sumK ps ps.length = 0) (hq : limB l h m s = true) :
    Calls Try.prog 12 #[.slice A n c, .slice B m' d, .agg #[.int .i64 l, .int .i64 h, .int .i64 m, .int .i64 s]] w fun e w' => e = .returned (.tuple #[.string ⟨#[]⟩, .int .i64 6]) ∧ Below w.heap.size w w' := by
  have hc := pcode_yes h1 h2 h3
  rw [hl2] at h4
  clear h2
  have HA := hide ha
  have HB := hide hb
  have HL := hide hl
  have HL2 := hide hl2
  have HM := hide hM
  clear ha hb hl hl2 hM
  go_enter Try.func12, Try.ntmps12
  have HB0 := hide ((Below.refl w.heap.size w).alloc (Nat.le_refl _) (.cells #[.int .i64 l, .int .i64 h, .int .i64 m, .int .i64 s] 26))
  go_wp2_with fail
  refine (impl_partsCode _ _ _ _ _ _ zs ps _ hn hnc hm HL.out HL2.out (HA.out.below HB0.out) (HB.out.below HB0.out) HM.out).mono ?_
  rintro e w1 ⟨rfl, hb1⟩
  have r0 := (hb1.cell (p := ⟨w.heap.size, 0, none⟩) (by simp)).trans (show _ = some (.int .i64 l) from by simp [go_sem])
  have r1 := (hb1.cell (p := ⟨w.heap.size, 1, none⟩) (by simp)).trans (show _ = some (.int .i64 h) from by simp [go_sem])
  have r2 := (hb1.cell (p := ⟨w.heap.size, 2, none⟩) (by simp)).trans (show _ = some (.int .i64 m) from by simp [go_sem])
  have r3 := (hb1.cell (p := ⟨w.heap.size, 3, none⟩) (by simp)).trans (show _ = some (.int .i64 s) from by simp [go_sem])
  have hz1 : w.heap.size < w1.heap.size := by have := hb1.size; simp at this; omega
  have HB1 := hide (HB0.out.trans (hb1.mono (by simp)))
  clear hb1
  rw [hc]
  go_wp2_with fail
  refine (impl_isLimits l h m s _).mono ?_
  rintro e w2 ⟨rfl, hb2⟩
  rw [hq]
  replace r0 := (hb2.cell (p := ⟨w.heap.size, 0, none⟩) hz1).trans r0
  replace r1 := (hb2.cell (p := ⟨w.heap.size, 1, none⟩) hz1).trans r1
  replace r2 := (hb2.cell (p := ⟨w.heap.size, 2, none⟩) hz1).trans r2
  replace r3 := (hb2.cell (p := ⟨w.heap.size, 3, none⟩) hz1).trans r3
  have hz2 : w.heap.size < w2.heap.size := Nat.lt_of_lt_of_le hz1 hb2.size
  have HB2 := hide (HB1.out.trans (hb2.mono HB1.out.size))
  clear hb2
  go_wp2_with fail
  refine (impl_sumOf _ _ _ ps _ hm HL2.out (HB.out.below HB2.out) h3).mono ?_
  rintro e w3 ⟨rfl, rfl⟩
  rw [h4]
  go_wp2
  go_ret2
  exact ⟨rfl, HB2.out⟩
set_option maxRecDepth 100000 in
set_option maxHeartbeats 1000000 in
theorem impl_bf_yes (A B : Option Addr) (n c m' d : Nat) (zs : List Clay) (ps : List Int) (l h m s : Int) (w : World) (hn : n ≤ 16777216) (hnc : n ≤ c) (hm : m' ≤ 16777216) (hl : zs.length = n) (hl2 : ps.length = m') (ha : Row Clay.enc 5 w A zs) (hb : Row encI 1 w B ps) (hM : Names zs) (h1 : claysOk zs = true) (h2 : ps.length = zs.length) (h3 : partsIn ps = true) (h4 : ¬ sumK ps ps.length = 0) (hq : limB l h m s = true) (K : ByteArray) (hK : bfault zs ps l h m s = K) :
    Calls Try.prog 12 #[.slice A n c, .slice B m' d, .agg #[.int .i64 l, .int .i64 h, .int .i64 m, .int .i64 s]] w fun e w' => e = .returned (.tuple #[.string K, .int .i64 0]) ∧ Below w.heap.size w w' := by
  obtain rfl : m' = n := by omega
  have hc := pcode_yes h1 h2 h3
  have h6 := clays_six h1
  rw [hl] at h6
  rw [hl2] at h4
  have hx : LimOk l h m s := of_decide_eq_true hq
  have HX := hide hx
  have HKK := hide hK
  clear h2 hx hK
  have HA := hide ha
  have HB := hide hb
  have HL := hide hl
  have HL2 := hide hl2
  have HM := hide hM
  clear ha hb hl hl2 hM
  go_enter Try.func12, Try.ntmps12
  have HB0 := hide ((Below.refl w.heap.size w).alloc (Nat.le_refl _) (.cells #[.int .i64 l, .int .i64 h, .int .i64 m, .int .i64 s] 26))
  go_wp2_with fail
  refine (impl_partsCode _ _ _ _ _ _ zs ps _ hn hnc hm HL.out HL2.out (HA.out.below HB0.out) (HB.out.below HB0.out) HM.out).mono ?_
  rintro e w1 ⟨rfl, hb1⟩
  have r0 := (hb1.cell (p := ⟨w.heap.size, 0, none⟩) (by simp)).trans (show _ = some (.int .i64 l) from by simp [go_sem])
  have r1 := (hb1.cell (p := ⟨w.heap.size, 1, none⟩) (by simp)).trans (show _ = some (.int .i64 h) from by simp [go_sem])
  have r2 := (hb1.cell (p := ⟨w.heap.size, 2, none⟩) (by simp)).trans (show _ = some (.int .i64 m) from by simp [go_sem])
  have r3 := (hb1.cell (p := ⟨w.heap.size, 3, none⟩) (by simp)).trans (show _ = some (.int .i64 s) from by simp [go_sem])
  have hz1 : w.heap.size < w1.heap.size := by have := hb1.size; simp at this; omega
  have HB1 := hide (HB0.out.trans (hb1.mono (by simp)))
  clear hb1
  rw [hc]
  go_wp2_with fail
  refine (impl_isLimits l h m s _).mono ?_
  rintro e w2 ⟨rfl, hb2⟩
  rw [hq]
  replace r0 := (hb2.cell (p := ⟨w.heap.size, 0, none⟩) hz1).trans r0
  replace r1 := (hb2.cell (p := ⟨w.heap.size, 1, none⟩) hz1).trans r1
  replace r2 := (hb2.cell (p := ⟨w.heap.size, 2, none⟩) hz1).trans r2
  replace r3 := (hb2.cell (p := ⟨w.heap.size, 3, none⟩) hz1).trans r3
  have hz2 : w.heap.size < w2.heap.size := Nat.lt_of_lt_of_le hz1 hb2.size
  have HB2 := hide (HB1.out.trans (hb2.mono HB1.out.size))
  clear hb2
  have e0 : (sumK ps m' == 0) = false := by simp [h4]
  go_wp2_with fail
  refine (impl_sumOf _ _ _ ps _ hm HL2.out (HB.out.below HB2.out) h3).mono ?_
  rintro e w3 ⟨rfl, rfl⟩
  go_wp2_with fail
  refine (impl_fault _ _ _ _ _ zs ps l h m s _ h6 HL.out HL2.out (HA.out.below HB2.out) (HB.out.below HB2.out) h1 h3 HX.out).mono ?_
  rintro e w4 ⟨rfl, hb4⟩
  rw [HKK.out]
  have HB4 := hide (HB2.out.trans (hb4.mono HB2.out.size))
  clear hb4
  go_wp2
  go_ret2
  exact ⟨rfl, HB4.out⟩
theorem impl_bf (A B : Option Addr) (n c m' d : Nat) (zs : List Clay) (ps : List Int) (l h m s : Int) (w : World) (hn : n ≤ 16777216) (hnc : n ≤ c) (hm : m' ≤ 16777216) (hl : zs.length = n) (hl2 : ps.length = m') (ha : Row Clay.enc 5 w A zs) (hb : Row encI 1 w B ps) (hM : Names zs) :
    Calls Try.prog 12 #[.slice A n c, .slice B m' d, .agg #[.int .i64 l, .int .i64 h, .int .i64 m, .int .i64 s]] w fun e w' => e = .returned (.tuple #[.string (bfS zs ps l h m s), .int .i64 (bfC zs ps l h m s)]) ∧ Below w.heap.size w w' := by
  unfold bfC
  by_cases h1 : claysOk zs = true
  · rw [if_pos h1]
    by_cases hx : LimOk l h m s
    · rw [if_pos hx]
      have hq : limB l h m s = true := decide_eq_true hx
      by_cases h0 : scode zs ps = 0
      · rw [show bfS zs ps l h m s = bfault zs ps l h m s from if_pos ⟨h0, hx⟩, h0]
        rcases codes zs ps with ⟨-, h2, h3, h5⟩ | ⟨h2, h3⟩
        · exact impl_bf_yes A B n c m' d zs ps l h m s w hn hnc hm hl hl2 ha hb hM h1 h2 h3 (fun q => by rw [scode_zero h1 h2 h3 q] at h0; exact absurd h0 (by decide)) hq _ rfl
        · exact absurd (h3 ▸ h0) h2
      · rw [show bfS zs ps l h m s = ⟨#[]⟩ from if_neg (fun q => h0 q.1)]
        rcases codes zs ps with ⟨-, h2, h3, h5⟩ | ⟨h2, h3⟩
        · by_cases h4 : sumK ps ps.length = 0
          · rw [scode_zero h1 h2 h3 h4]
            exact impl_bf_zero A B n c m' d zs ps l h m s w hn hnc hm hl hl2 ha hb hM h1 h2 h3 h4 hq
          · exact absurd (scode_yes h1 h2 h3 h4) h0
        · rw [h3]
          exact impl_bf_no A B n c m' d zs ps l h m s w hn hnc hm hl hl2 ha hb hM h2
    · rw [if_neg hx, show bfS zs ps l h m s = ⟨#[]⟩ from if_neg (fun q => hx q.2)]
      have hq : limB l h m s = false := decide_eq_false hx
      rcases codes zs ps with ⟨-, h2, h3, h5⟩ | ⟨h2, h3⟩
      · exact impl_bf_lim A B n c m' d zs ps l h m s w hn hnc hm hl hl2 ha hb hM h5 hq
      · rw [← pcode_two h1 h2]
        exact impl_bf_no A B n c m' d zs ps l h m s w hn hnc hm hl hl2 ha hb hM h2
  · rw [if_neg h1, show bfS zs ps l h m s = ⟨#[]⟩ from if_neg (fun q => by rw [scode_one h1] at q; exact absurd q.1 (by decide))]
    rw [← pcode_one (ps := ps) h1]
    exact impl_bf_no A B n c m' d zs ps l h m s w hn hnc hm hl hl2 ha hb hM (by rw [pcode_one h1]; decide)
theorem impl_bf' (K : ByteArray) (cc : Int) (A B : Option Addr) (n c m' d : Nat) (zs : List Clay) (ps : List Int) (l h m s : Int) (w : World) (hn : n ≤ 16777216) (hnc : n ≤ c) (hm : m' ≤ 16777216) (hl : zs.length = n) (hl2 : ps.length = m') (ha : Row Clay.enc 5 w A zs) (hb : Row encI 1 w B ps) (hM : Names zs) (hK : bfS zs ps l h m s = K) (hC : bfC zs ps l h m s = cc) :
    Calls Try.prog 12 #[.slice A n c, .slice B m' d, .agg #[.int .i64 l, .int .i64 h, .int .i64 m, .int .i64 s]] w fun e w' => e = .returned (.tuple #[.string K, .int .i64 cc]) ∧ Below w.heap.size w w' := by
  subst hK hC
  exact impl_bf A B n c m' d zs ps l h m s w hn hnc hm hl hl2 ha hb hM
set_option maxRecDepth 100000 in
set_option maxHeartbeats 1000000 in
theorem spec_bf_no (A B : Option Addr) (n c m' d : Nat) (zs : List Clay) (ps : List Int) (l h m s : Int) (w : World) (hn : n ≤ 16777216) (hnc : n ≤ c) (hm : m' ≤ 16777216) (hl : zs.length = n) (hl2 : ps.length = m') (ha : Row Clay.enc 5 w A zs) (hb : Row encI 1 w B ps) (hM : Names zs) (hc : scode zs ps = 1) :
    Calls Try.prog 13 #[.slice A n c, .slice B m' d, .agg #[.int .i64 l, .int .i64 h, .int .i64 m, .int .i64 s]] w fun e w' => e = .returned (.tuple #[.string ⟨#[]⟩, .int .i64 1]) ∧ Below w.heap.size w w' := by
  have HA := hide ha
  have HB := hide hb
  have HL := hide hl
  have HL2 := hide hl2
  have HM := hide hM
  clear ha hb hl hl2 hM
  go_enter Try.func13, Try.ntmps13
  have HB0 := hide ((Below.refl w.heap.size w).alloc (Nat.le_refl _) (.cells #[.int .i64 l, .int .i64 h, .int .i64 m, .int .i64 s] 26))
  go_wp2_with fail
  refine (spec_l03Code _ _ _ _ _ _ zs ps _ hn hm HL.out HL2.out (HA.out.below HB0.out) (HB.out.below HB0.out) HM.out).mono ?_
  rintro e w1 ⟨rfl, hb1⟩
  have r0 := (hb1.cell (p := ⟨w.heap.size, 0, none⟩) (by simp)).trans (show _ = some (.int .i64 l) from by simp [go_sem])
  have r1 := (hb1.cell (p := ⟨w.heap.size, 1, none⟩) (by simp)).trans (show _ = some (.int .i64 h) from by simp [go_sem])
  have r2 := (hb1.cell (p := ⟨w.heap.size, 2, none⟩) (by simp)).trans (show _ = some (.int .i64 m) from by simp [go_sem])
  have r3 := (hb1.cell (p := ⟨w.heap.size, 3, none⟩) (by simp)).trans (show _ = some (.int .i64 s) from by simp [go_sem])
  have hz1 : w.heap.size < w1.heap.size := by have := hb1.size; simp at this; omega
  have HB1 := hide (HB0.out.trans (hb1.mono (by simp)))
  clear hb1
  rw [hc]
  go_wp2
  go_ret2
  exact ⟨rfl, HB1.out⟩
set_option maxRecDepth 100000 in
set_option maxHeartbeats 1000000 in
theorem spec_bf_lim (A B : Option Addr) (n c m' d : Nat) (zs : List Clay) (ps : List Int) (l h m s : Int) (w : World) (hn : n ≤ 16777216) (hnc : n ≤ c) (hm : m' ≤ 16777216) (hl : zs.length = n) (hl2 : ps.length = m') (ha : Row Clay.enc 5 w A zs) (hb : Row encI 1 w B ps) (hM : Names zs) (hc : scode zs ps ≠ 1) (hq : limB l h m s = false) :
    Calls Try.prog 13 #[.slice A n c, .slice B m' d, .agg #[.int .i64 l, .int .i64 h, .int .i64 m, .int .i64 s]] w fun e w' => e = .returned (.tuple #[.string ⟨#[]⟩, .int .i64 2]) ∧ Below w.heap.size w w' := by
  have HA := hide ha
  have HB := hide hb
  have HL := hide hl
  have HL2 := hide hl2
  have HM := hide hM
  clear ha hb hl hl2 hM
  have dc : (scode zs ps == 1) = false := by simpa using hc
  obtain ⟨k, hk⟩ : ∃ k, scode zs ps = k := ⟨_, rfl⟩
  rw [hk] at dc
  have HK := hide hk
  clear hc hk
  go_enter Try.func13, Try.ntmps13
  have HB0 := hide ((Below.refl w.heap.size w).alloc (Nat.le_refl _) (.cells #[.int .i64 l, .int .i64 h, .int .i64 m, .int .i64 s] 26))
  go_wp2_with fail
  refine (spec_l03Code _ _ _ _ _ _ zs ps _ hn hm HL.out HL2.out (HA.out.below HB0.out) (HB.out.below HB0.out) HM.out).mono ?_
  rintro e w1 ⟨rfl, hb1⟩
  have r0 := (hb1.cell (p := ⟨w.heap.size, 0, none⟩) (by simp)).trans (show _ = some (.int .i64 l) from by simp [go_sem])
  have r1 := (hb1.cell (p := ⟨w.heap.size, 1, none⟩) (by simp)).trans (show _ = some (.int .i64 h) from by simp [go_sem])
  have r2 := (hb1.cell (p := ⟨w.heap.size, 2, none⟩) (by simp)).trans (show _ = some (.int .i64 m) from by simp [go_sem])
  have r3 := (hb1.cell (p := ⟨w.heap.size, 3, none⟩) (by simp)).trans (show _ = some (.int .i64 s) from by simp [go_sem])
  have hz1 : w.heap.size < w1.heap.size := by have := hb1.size; simp at this; omega
  have HB1 := hide (HB0.out.trans (hb1.mono (by simp)))
  clear hb1
  rw [HK.out]
  go_wp2_with fail
  refine (spec_l03Limits l h m s _ _ r0 r1 r2 r3).mono ?_
  rintro e w2 ⟨rfl, hb2⟩
  rw [hq]
  replace r0 := (hb2.cell (p := ⟨w.heap.size, 0, none⟩) hz1).trans r0
  replace r1 := (hb2.cell (p := ⟨w.heap.size, 1, none⟩) hz1).trans r1
  replace r2 := (hb2.cell (p := ⟨w.heap.size, 2, none⟩) hz1).trans r2
  replace r3 := (hb2.cell (p := ⟨w.heap.size, 3, none⟩) hz1).trans r3
  have hz2 : w.heap.size < w2.heap.size := Nat.lt_of_lt_of_le hz1 hb2.size
  have HB2 := hide (HB1.out.trans (hb2.mono HB1.out.size))
  clear hb2
  go_wp2
  go_ret2
  exact ⟨rfl, HB2.out⟩
set_option maxRecDepth 100000 in
set_option maxHeartbeats 1000000 in
theorem spec_bf_code (A B : Option Addr) (n c m' d : Nat) (zs : List Clay) (ps : List Int) (l h m s : Int) (w : World) (hn : n ≤ 16777216) (hnc : n ≤ c) (hm : m' ≤ 16777216) (hl : zs.length = n) (hl2 : ps.length = m') (ha : Row Clay.enc 5 w A zs) (hb : Row encI 1 w B ps) (hM : Names zs) (hc : scode zs ps ≠ 1) (hd : scode zs ps ≠ 0) (hq : limB l h m s = true) :
    Calls Try.prog 13 #[.slice A n c, .slice B m' d, .agg #[.int .i64 l, .int .i64 h, .int .i64 m, .int .i64 s]] w fun e w' => e = .returned (.tuple #[.string ⟨#[]⟩, .int .i64 (scode zs ps)]) ∧ Below w.heap.size w w' := by
  have HA := hide ha
  have HB := hide hb
  have HL := hide hl
  have HL2 := hide hl2
  have HM := hide hM
  clear ha hb hl hl2 hM
  have dc : (scode zs ps == 1) = false := by simpa using hc
  have dd : (scode zs ps != 0) = true := by simpa using hd
  obtain ⟨k, hk⟩ : ∃ k, scode zs ps = k := ⟨_, rfl⟩
  rw [hk] at dc dd ⊢
  have HK := hide hk
  clear hc hd hk
  go_enter Try.func13, Try.ntmps13
  have HB0 := hide ((Below.refl w.heap.size w).alloc (Nat.le_refl _) (.cells #[.int .i64 l, .int .i64 h, .int .i64 m, .int .i64 s] 26))
  go_wp2_with fail
  refine (spec_l03Code _ _ _ _ _ _ zs ps _ hn hm HL.out HL2.out (HA.out.below HB0.out) (HB.out.below HB0.out) HM.out).mono ?_
  rintro e w1 ⟨rfl, hb1⟩
  have r0 := (hb1.cell (p := ⟨w.heap.size, 0, none⟩) (by simp)).trans (show _ = some (.int .i64 l) from by simp [go_sem])
  have r1 := (hb1.cell (p := ⟨w.heap.size, 1, none⟩) (by simp)).trans (show _ = some (.int .i64 h) from by simp [go_sem])
  have r2 := (hb1.cell (p := ⟨w.heap.size, 2, none⟩) (by simp)).trans (show _ = some (.int .i64 m) from by simp [go_sem])
  have r3 := (hb1.cell (p := ⟨w.heap.size, 3, none⟩) (by simp)).trans (show _ = some (.int .i64 s) from by simp [go_sem])
  have hz1 : w.heap.size < w1.heap.size := by have := hb1.size; simp at this; omega
  have HB1 := hide (HB0.out.trans (hb1.mono (by simp)))
  clear hb1
  rw [HK.out]
  go_wp2_with fail
  refine (spec_l03Limits l h m s _ _ r0 r1 r2 r3).mono ?_
  rintro e w2 ⟨rfl, hb2⟩
  rw [hq]
  replace r0 := (hb2.cell (p := ⟨w.heap.size, 0, none⟩) hz1).trans r0
  replace r1 := (hb2.cell (p := ⟨w.heap.size, 1, none⟩) hz1).trans r1
  replace r2 := (hb2.cell (p := ⟨w.heap.size, 2, none⟩) hz1).trans r2
  replace r3 := (hb2.cell (p := ⟨w.heap.size, 3, none⟩) hz1).trans r3
  have hz2 : w.heap.size < w2.heap.size := Nat.lt_of_lt_of_le hz1 hb2.size
  have HB2 := hide (HB1.out.trans (hb2.mono HB1.out.size))
  clear hb2
  go_wp2
  go_ret2
  exact ⟨rfl, HB2.out⟩
set_option maxRecDepth 100000 in
set_option maxHeartbeats 1000000 in
theorem spec_bf_yes (A B : Option Addr) (n c m' d : Nat) (zs : List Clay) (ps : List Int) (l h m s : Int) (w : World) (hn : n ≤ 16777216) (hnc : n ≤ c) (hm : m' ≤ 16777216) (hl : zs.length = n) (hl2 : ps.length = m') (ha : Row Clay.enc 5 w A zs) (hb : Row encI 1 w B ps) (hM : Names zs) (h1 : claysOk zs = true) (h2 : ps.length = zs.length) (h3 : partsIn ps = true) (h4 : ¬ sumK ps ps.length = 0) (hq : limB l h m s = true) (K : ByteArray) (hK : bfault zs ps l h m s = K) :
    Calls Try.prog 13 #[.slice A n c, .slice B m' d, .agg #[.int .i64 l, .int .i64 h, .int .i64 m, .int .i64 s]] w fun e w' => e = .returned (.tuple #[.string K, .int .i64 0]) ∧ Below w.heap.size w w' := by
  obtain rfl : m' = n := by omega
  have hc := scode_yes h1 h2 h3 h4
  have h6 := clays_six h1
  rw [hl] at h6
  rw [hl2] at h4
  have hx : LimOk l h m s := of_decide_eq_true hq
  have HX := hide hx
  have HKK := hide hK
  clear h2 hx hK
  have HA := hide ha
  have HB := hide hb
  have HL := hide hl
  have HL2 := hide hl2
  have HM := hide hM
  clear ha hb hl hl2 hM
  go_enter Try.func13, Try.ntmps13
  have HB0 := hide ((Below.refl w.heap.size w).alloc (Nat.le_refl _) (.cells #[.int .i64 l, .int .i64 h, .int .i64 m, .int .i64 s] 26))
  go_wp2_with fail
  refine (spec_l03Code _ _ _ _ _ _ zs ps _ hn hm HL.out HL2.out (HA.out.below HB0.out) (HB.out.below HB0.out) HM.out).mono ?_
  rintro e w1 ⟨rfl, hb1⟩
  have r0 := (hb1.cell (p := ⟨w.heap.size, 0, none⟩) (by simp)).trans (show _ = some (.int .i64 l) from by simp [go_sem])
  have r1 := (hb1.cell (p := ⟨w.heap.size, 1, none⟩) (by simp)).trans (show _ = some (.int .i64 h) from by simp [go_sem])
  have r2 := (hb1.cell (p := ⟨w.heap.size, 2, none⟩) (by simp)).trans (show _ = some (.int .i64 m) from by simp [go_sem])
  have r3 := (hb1.cell (p := ⟨w.heap.size, 3, none⟩) (by simp)).trans (show _ = some (.int .i64 s) from by simp [go_sem])
  have hz1 : w.heap.size < w1.heap.size := by have := hb1.size; simp at this; omega
  have HB1 := hide (HB0.out.trans (hb1.mono (by simp)))
  clear hb1
  rw [hc]
  go_wp2_with fail
  refine (spec_l03Limits l h m s _ _ r0 r1 r2 r3).mono ?_
  rintro e w2 ⟨rfl, hb2⟩
  rw [hq]
  replace r0 := (hb2.cell (p := ⟨w.heap.size, 0, none⟩) hz1).trans r0
  replace r1 := (hb2.cell (p := ⟨w.heap.size, 1, none⟩) hz1).trans r1
  replace r2 := (hb2.cell (p := ⟨w.heap.size, 2, none⟩) hz1).trans r2
  replace r3 := (hb2.cell (p := ⟨w.heap.size, 3, none⟩) hz1).trans r3
  have hz2 : w.heap.size < w2.heap.size := Nat.lt_of_lt_of_le hz1 hb2.size
  have HB2 := hide (HB1.out.trans (hb2.mono HB1.out.size))
  clear hb2
  go_wp2_with fail
  refine (spec_fault _ _ _ _ _ zs ps l h m s _ _ h6 HL.out HL2.out (HA.out.below HB2.out) (HB.out.below HB2.out) h1 h3 HX.out hz2 r0 r1 r2 r3).mono ?_
  rintro e w4 ⟨rfl, hb4⟩
  rw [HKK.out]
  have HB4 := hide (HB2.out.trans (hb4.mono HB2.out.size))
  clear hb4
  go_wp2
  go_ret2
  exact ⟨rfl, HB4.out⟩
theorem spec_bf (A B : Option Addr) (n c m' d : Nat) (zs : List Clay) (ps : List Int) (l h m s : Int) (w : World) (hn : n ≤ 16777216) (hnc : n ≤ c) (hm : m' ≤ 16777216) (hl : zs.length = n) (hl2 : ps.length = m') (ha : Row Clay.enc 5 w A zs) (hb : Row encI 1 w B ps) (hM : Names zs) :
    Calls Try.prog 13 #[.slice A n c, .slice B m' d, .agg #[.int .i64 l, .int .i64 h, .int .i64 m, .int .i64 s]] w fun e w' => e = .returned (.tuple #[.string (bfS zs ps l h m s), .int .i64 (bfC zs ps l h m s)]) ∧ Below w.heap.size w w' := by
  unfold bfC
  by_cases h1 : claysOk zs = true
  · rw [if_pos h1]
    by_cases hx : LimOk l h m s
    · rw [if_pos hx]
      have hq : limB l h m s = true := decide_eq_true hx
      by_cases h0 : scode zs ps = 0
      · rw [show bfS zs ps l h m s = bfault zs ps l h m s from if_pos ⟨h0, hx⟩, h0]
        rcases codes zs ps with ⟨-, h2, h3, h5⟩ | ⟨h2, h3⟩
        · exact spec_bf_yes A B n c m' d zs ps l h m s w hn hnc hm hl hl2 ha hb hM h1 h2 h3 (fun q => by rw [scode_zero h1 h2 h3 q] at h0; exact absurd h0 (by decide)) hq _ rfl
        · exact absurd (h3 ▸ h0) h2
      · rw [show bfS zs ps l h m s = ⟨#[]⟩ from if_neg (fun q => h0 q.1)]
        exact spec_bf_code A B n c m' d zs ps l h m s w hn hnc hm hl hl2 ha hb hM (scode_ne h1) h0 hq
    · rw [if_neg hx, show bfS zs ps l h m s = ⟨#[]⟩ from if_neg (fun q => hx q.2)]
      have hq : limB l h m s = false := decide_eq_false hx
      exact spec_bf_lim A B n c m' d zs ps l h m s w hn hnc hm hl hl2 ha hb hM (scode_ne h1) hq
  · rw [if_neg h1, show bfS zs ps l h m s = ⟨#[]⟩ from if_neg (fun q => by rw [scode_one h1] at q; exact absurd q.1 (by decide))]
    exact spec_bf_no A B n c m' d zs ps l h m s w hn hnc hm hl hl2 ha hb hM (scode_one h1)
theorem spec_bf' (K : ByteArray) (cc : Int) (A B : Option Addr) (n c m' d : Nat) (zs : List Clay) (ps : List Int) (l h m s : Int) (w : World) (hn : n ≤ 16777216) (hnc : n ≤ c) (hm : m' ≤ 16777216) (hl : zs.length = n) (hl2 : ps.length = m') (ha : Row Clay.enc 5 w A zs) (hb : Row encI 1 w B ps) (hM : Names zs) (hK : bfS zs ps l h m s = K) (hC : bfC zs ps l h m s = cc) :
    Calls Try.prog 13 #[.slice A n c, .slice B m' d, .agg #[.int .i64 l, .int .i64 h, .int .i64 m, .int .i64 s]] w fun e w' => e = .returned (.tuple #[.string K, .int .i64 cc]) ∧ Below w.heap.size w w' := by
  subst hK hC
  exact spec_bf A B n c m' d zs ps l h m s w hn hnc hm hl hl2 ha hb hM
end Go.Proofs.Ytgobpleckeeheaa
