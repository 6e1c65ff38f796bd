/-
  What is proved: a mean value of a blend, of the program and of the reference. Conditions: lengths that fit.
-/
import Derived.Test.YtfjdhjbfingofaaGreatDoorParts3
import Derived.Test.YtfjdhjbfingofaaGreatDoorJoinD
namespace Go.Proofs.YtfjdhjbfingofaaGreatDoor
open Go.RowKit
set_option linter.unusedVariables false

theorem pcode_yes {zs : List Clay} {ps : List Int} (h1 : claysOk zs = true) (h2 : ps.length = zs.length) (h3 : partsIn ps = true) : pcode zs ps = 0 := by
  unfold pcode
  rw [if_pos h1, if_pos (And.intro h2 h3)]
theorem scode_zero {zs : List Clay} {ps : List Int} (h1 : claysOk zs = true) (h2 : ps.length = zs.length) (h3 : partsIn ps = true) (h4 : sumK ps ps.length = 0) : scode zs ps = 6 := by
  unfold scode
  rw [if_pos h1, if_pos (And.intro h2 h3), if_pos h4]
theorem scode_yes {zs : List Clay} {ps : List Int} (h1 : claysOk zs = true) (h2 : ps.length = zs.length) (h3 : partsIn ps = true) (h4 : ¬ sumK ps ps.length = 0) : scode zs ps = 0 := by
  unfold scode
  rw [if_pos h1, if_pos (And.intro h2 h3), if_neg h4]
theorem codes (zs : List Clay) (ps : List Int) : (claysOk zs = true ∧ ps.length = zs.length ∧ partsIn ps = true ∧ pcode zs ps = 0) ∨ (pcode zs ps ≠ 0 ∧ scode zs ps = pcode zs ps) := by
  by_cases h1 : claysOk zs = true
  · by_cases h2 : ps.length = zs.length ∧ partsIn ps = true
    · exact .inl ⟨h1, h2.1, h2.2, pcode_yes h1 h2.1 h2.2⟩
    · refine .inr ?_
      unfold pcode scode
      rw [if_pos h1, if_neg h2, if_pos h1, if_neg h2]
      exact ⟨by decide, rfl⟩
  · refine .inr ?_
    unfold pcode scode
    rw [if_neg h1, if_neg h1]
    exact ⟨by decide, rfl⟩
def mnum (val : Clay → Int) (zs : List Clay) (ps : List Int) : Int := if scode zs ps = 0 then totK val zs ps ps.length / Int.gcd (totK val zs ps ps.length) (sumK ps ps.length) else 0
def mden (val : Clay → Int) (zs : List Clay) (ps : List Int) : Int := if scode zs ps = 0 then sumK ps ps.length / Int.gcd (totK val zs ps ps.length) (sumK ps ps.length) else 0
set_option maxRecDepth 100000 in
set_option maxHeartbeats 1000000 in
theorem impl_mean_no (F : Nat) (A B : Option Addr) (n c m d : Nat) (zs : List Clay) (ps : List Int) (w : World) (hn : n ≤ 16777216) (hnc : n ≤ c) (hm : m ≤ 16777216) (hl : zs.length = n) (hl2 : ps.length = m) (ha : Row Clay.enc 5 w A zs) (hb : Row encI 1 w B ps) (hM : Names zs) (hc : pcode zs ps ≠ 0) :
    Calls Tryz.prog 31 #[.slice A n c, .slice B m d, .func (.func F) #[] #[]] w fun e w' => e = .returned (.tuple #[.agg #[.int .i64 0, .int .i64 0], .int .i64 (pcode zs ps)]) ∧ Below w.heap.size w w' := by
  have HA := hide ha
  have HB := hide hb
  have HL := hide hl
  have HL2 := hide hl2
  have HM := hide hM
  clear ha hb hl hl2 hM
  have dc : (pcode zs ps != 0) = true := by simpa using hc
  obtain ⟨k, hk⟩ : ∃ k, pcode zs ps = k := ⟨_, rfl⟩
  rw [hk] at dc ⊢
  have HK := hide hk
  clear hc hk
  go_enter Tryz.func31, Tryz.ntmps31
  have HB0 := hide ((Below.refl w.heap.size w).alloc (Nat.le_refl _) (.cells #[.int .i64 0, .int .i64 0] 29))
  go_wp2_with fail
  refine (impl_partsCode _ _ _ _ _ _ zs ps _ hn hnc hm HL.out HL2.out (HA.out.below HB0.out) (HB.out.below HB0.out) HM.out).mono ?_
  rintro e w1 ⟨rfl, hb1⟩
  have r0 := (hb1.cell (p := ⟨w.heap.size, 0, none⟩) (by simp)).trans (show _ = some (.int .i64 0) from by simp [go_sem])
  have r1 := (hb1.cell (p := ⟨w.heap.size, 1, none⟩) (by simp)).trans (show _ = some (.int .i64 0) from by simp [go_sem])
  have hz : w.heap.size < w1.heap.size := by have := hb1.size; simp at this; omega
  have HB1 := hide (HB0.out.trans (hb1.mono (by simp)))
  have q0 := ((bcell hb1).2 w.heap.size 0 (by simp)).trans (show _ = false from by simp [go_sem])
  have q1 := ((bcell hb1).2 w.heap.size 1 (by simp)).trans (show _ = false from by simp [go_sem])
  clear hb1
  rw [HK.out]
  go_wp2
  refine bodyPost_ret (v := .tuple #[.agg #[.int .i64 0, .int .i64 0], .int .i64 k]) ?_ rfl ?_
  · simp [results, Tryz.results31, go_sem, r0, r1]
  · refine ⟨rfl, ?_⟩
    have BX := HB1.out
    go_grown
set_option maxRecDepth 100000 in
set_option maxHeartbeats 1000000 in
theorem impl_mean_zero (F : Nat) (A B : Option Addr) (n c m d : Nat) (zs : List Clay) (ps : List Int) (w : World) (hn : n ≤ 16777216) (hnc : n ≤ c) (hm : m ≤ 16777216) (hl : zs.length = n) (hl2 : ps.length = m) (ha : Row Clay.enc 5 w A zs) (hb : Row encI 1 w B ps) (hM : Names zs) (h1 : claysOk zs = true) (h2 : ps.length = zs.length) (h3 : partsIn ps = true) (h4 : sumK ps ps.length = 0) :
    Calls Tryz.prog 31 #[.slice A n c, .slice B m d, .func (.func F) #[] #[]] w fun e w' => e = .returned (.tuple #[.agg #[.int .i64 0, .int .i64 0], .int .i64 6]) ∧ Below w.heap.size w w' := by
  obtain rfl : m = n := by omega
  have hp := pcode_yes h1 h2 h3
  have hsz : sumK ps m = 0 := by rw [← hl2]; exact h4
  clear h4 h2
  have HA := hide ha
  have HB := hide hb
  have HL := hide hl
  have HL2 := hide hl2
  have HM := hide hM
  clear ha hb hl hl2 hM
  go_enter Tryz.func31, Tryz.ntmps31
  have HB0 := hide ((Below.refl w.heap.size w).alloc (Nat.le_refl _) (.cells #[.int .i64 0, .int .i64 0] 29))
  go_wp2_with fail
  refine (impl_partsCode _ _ _ _ _ _ zs ps _ hn hnc hm HL.out HL2.out (HA.out.below HB0.out) (HB.out.below HB0.out) HM.out).mono ?_
  rintro e w1 ⟨rfl, hb1⟩
  have r0 := (hb1.cell (p := ⟨w.heap.size, 0, none⟩) (by simp)).trans (show _ = some (.int .i64 0) from by simp [go_sem])
  have r1 := (hb1.cell (p := ⟨w.heap.size, 1, none⟩) (by simp)).trans (show _ = some (.int .i64 0) from by simp [go_sem])
  have hz : w.heap.size < w1.heap.size := by have := hb1.size; simp at this; omega
  have HB1 := hide (HB0.out.trans (hb1.mono (by simp)))
  have q0 := ((bcell hb1).2 w.heap.size 0 (by simp)).trans (show _ = false from by simp [go_sem])
  have q1 := ((bcell hb1).2 w.heap.size 1 (by simp)).trans (show _ = false from by simp [go_sem])
  clear hb1
  rw [hp]
  go_wp2_with fail
  refine (impl_sumOf _ _ _ ps _ hm HL2.out (HB.out.below HB1.out) h3).mono ?_
  rintro e w2 ⟨rfl, rfl⟩
  rw [hsz]
  go_wp2
  refine bodyPost_ret (v := .tuple #[.agg #[.int .i64 0, .int .i64 0], .int .i64 6]) ?_ rfl ?_
  · simp [results, Tryz.results31, go_sem, r0, r1]
  · refine ⟨rfl, ?_⟩
    have BX := HB1.out
    go_grown
set_option maxRecDepth 100000 in
set_option maxHeartbeats 1000000 in
theorem impl_mean_yes (F : Nat) (val : Clay → Int) (he : ∀ (args : Array Value) (w : World), (callFunc F args).run Tryz.prog w = .ok (.enter F args) w) (hF : ∀ (x0 : ByteArray) (x1 x2 x3 x4 : Int) (w : World), Calls Tryz.prog F #[.agg #[.string x0, .int .i64 x1, .int .i64 x2, .int .i64 x3, .int .i64 x4]] w fun e w' => e = .returned (.int .i64 (val ⟨x0, x1, x2, x3, x4⟩)) ∧ Below w.heap.size w w') (hv : SmallV val) (A B : Option Addr) (n c m d : Nat) (zs : List Clay) (ps : List Int) (w : World) (hn : n ≤ 16777216) (hnc : n ≤ c) (hm : m ≤ 16777216) (hl : zs.length = n) (hl2 : ps.length = m) (ha : Row Clay.enc 5 w A zs) (hb : Row encI 1 w B ps) (hM : Names zs) (h1 : claysOk zs = true) (h2 : ps.length = zs.length) (h3 : partsIn ps = true) (h4 : ¬ sumK ps ps.length = 0) :
    Calls Tryz.prog 31 #[.slice A n c, .slice B m d, .func (.func F) #[] #[]] w fun e w' => e = .returned (.tuple #[.agg #[.int .i64 (totK val zs ps ps.length / Int.gcd (totK val zs ps ps.length) (sumK ps ps.length)), .int .i64 (sumK ps ps.length / Int.gcd (totK val zs ps ps.length) (sumK ps ps.length))], .int .i64 0]) ∧ Below w.heap.size w w' := by
  obtain rfl : m = n := by omega
  have hp := pcode_yes h1 h2 h3
  rw [hl2] at h4 ⊢
  have h6 := clays_six h1
  rw [hl] at h6
  have hs := sumK_in h3 m
  have ht := totK_in hv h1 h3 m
  obtain ⟨X, hX⟩ : ∃ X, totK val zs ps m / (Int.gcd (totK val zs ps m) (sumK ps m) : Int) = X := ⟨_, rfl⟩
  obtain ⟨Y, hY⟩ : ∃ Y, sumK ps m / (Int.gcd (totK val zs ps m) (sumK ps m) : Int) = Y := ⟨_, rfl⟩
  rw [hX, hY]
  have HX := hide hX
  have HY := hide hY
  clear h2 hX hY
  have HA := hide ha
  have HB := hide hb
  have HL := hide hl
  have HL2 := hide hl2
  have HM := hide hM
  clear ha hb hl hl2 hM
  go_enter Tryz.func31, Tryz.ntmps31
  have HB0 := hide ((Below.refl w.heap.size w).alloc (Nat.le_refl _) (.cells #[.int .i64 0, .int .i64 0] 29))
  go_wp2_with fail
  refine (impl_partsCode _ _ _ _ _ _ zs ps _ hn hnc hm HL.out HL2.out (HA.out.below HB0.out) (HB.out.below HB0.out) HM.out).mono ?_
  rintro e w1 ⟨rfl, hb1⟩
  have r0 := (hb1.cell (p := ⟨w.heap.size, 0, none⟩) (by simp)).trans (show _ = some (.int .i64 0) from by simp [go_sem])
  have r1 := (hb1.cell (p := ⟨w.heap.size, 1, none⟩) (by simp)).trans (show _ = some (.int .i64 0) from by simp [go_sem])
  have hz : w.heap.size < w1.heap.size := by have := hb1.size; simp at this; omega
  have HB1 := hide (HB0.out.trans (hb1.mono (by simp)))
  have q0 := ((bcell hb1).2 w.heap.size 0 (by simp)).trans (show _ = false from by simp [go_sem])
  have q1 := ((bcell hb1).2 w.heap.size 1 (by simp)).trans (show _ = false from by simp [go_sem])
  clear hb1
  rw [hp]
  have e0 : (sumK ps m == 0) = false := by simp [h4]
  go_wp2_with fail
  refine (impl_sumOf _ _ _ ps _ hm HL2.out (HB.out.below HB1.out) h3).mono ?_
  rintro e w2 ⟨rfl, rfl⟩
  go_wp2_with fail
  refine (impl_blended F val he hF hv _ _ _ _ _ zs ps _ h6 HL.out HL2.out (HA.out.below HB1.out) (HB.out.below HB1.out) h1 h3).mono ?_
  rintro e w3 ⟨rfl, hb3⟩
  have HB3 := hide (HB1.out.trans (hb3.mono HB1.out.size))
  have hz3 : w.heap.size < w3.heap.size := by have := hb3.size; omega
  replace r0 := (hb3.cell (p := ⟨w.heap.size, 0, none⟩) hz).trans r0
  replace r1 := (hb3.cell (p := ⟨w.heap.size, 1, none⟩) hz).trans r1
  replace q0 := ((bcell hb3).2 w.heap.size 0 hz).trans q0
  replace q1 := ((bcell hb3).2 w.heap.size 1 hz).trans q1
  clear hb3
  go_wp2_with fail
  refine (impl_lowest _ _ _ (by omega) (by omega) (by omega) (by omega)).mono ?_
  rintro e w4 ⟨rfl, hb4⟩
  have HB4 := hide (HB3.out.trans (hb4.mono HB3.out.size))
  have hz4 : w.heap.size < w4.heap.size := by have := hb4.size; omega
  replace r0 := (hb4.cell (p := ⟨w.heap.size, 0, none⟩) hz3).trans r0
  replace r1 := (hb4.cell (p := ⟨w.heap.size, 1, none⟩) hz3).trans r1
  replace q0 := ((bcell hb4).2 w.heap.size 0 hz3).trans q0
  replace q1 := ((bcell hb4).2 w.heap.size 1 hz3).trans q1
  clear hb4
  rw [HX.out, HY.out]
  go_wp2
  refine bodyPost_ret (v := .tuple #[.agg #[.int .i64 X, .int .i64 Y], .int .i64 0]) ?_ rfl ?_
  · simp [results, Tryz.results31, go_sem, r0, r1]
  · refine ⟨rfl, ?_⟩
    have BX := HB4.out
    go_grown
theorem impl_mean (F : Nat) (val : Clay → Int) (he : ∀ (args : Array Value) (w : World), (callFunc F args).run Tryz.prog w = .ok (.enter F args) w) (hF : ∀ (x0 : ByteArray) (x1 x2 x3 x4 : Int) (w : World), Calls Tryz.prog F #[.agg #[.string x0, .int .i64 x1, .int .i64 x2, .int .i64 x3, .int .i64 x4]] w fun e w' => e = .returned (.int .i64 (val ⟨x0, x1, x2, x3, x4⟩)) ∧ Below w.heap.size w w') (hv : SmallV val) (A B : Option Addr) (n c m d : Nat) (zs : List Clay) (ps : List Int) (w : World) (hn : n ≤ 16777216) (hnc : n ≤ c) (hm : m ≤ 16777216) (hl : zs.length = n) (hl2 : ps.length = m) (ha : Row Clay.enc 5 w A zs) (hb : Row encI 1 w B ps) (hM : Names zs) :
    Calls Tryz.prog 31 #[.slice A n c, .slice B m d, .func (.func F) #[] #[]] w fun e w' => e = .returned (.tuple #[.agg #[.int .i64 (mnum val zs ps), .int .i64 (mden val zs ps)], .int .i64 (scode zs ps)]) ∧ Below w.heap.size w w' := by
  unfold mnum mden
  rcases codes zs ps with ⟨h1, h2, h3, h5⟩ | ⟨h1, h2⟩
  · by_cases h4 : sumK ps ps.length = 0
    · rw [scode_zero h1 h2 h3 h4, if_neg (by decide), if_neg (by decide)]
      exact impl_mean_zero F A B n c m d zs ps w hn hnc hm hl hl2 ha hb hM h1 h2 h3 h4
    · rw [scode_yes h1 h2 h3 h4, if_pos rfl, if_pos rfl]
      exact impl_mean_yes F val he hF hv A B n c m d zs ps w hn hnc hm hl hl2 ha hb hM h1 h2 h3 h4
  · have h3 : scode zs ps ≠ 0 := by rw [h2]; exact h1
    rw [if_neg h3, if_neg h3, h2]
    exact impl_mean_no F A B n c m d zs ps w hn hnc hm hl hl2 ha hb hM h1
set_option maxRecDepth 100000 in
set_option maxHeartbeats 1000000 in
theorem spec_mean_no (q : Nat) (A B : Option Addr) (n c m d : Nat) (zs : List Clay) (ps : List Int) (w : World) (hn : n ≤ 16777216) (hm : m ≤ 16777216) (hl : zs.length = n) (hl2 : ps.length = m) (ha : Row Clay.enc 5 w A zs) (hb : Row encI 1 w B ps) (hM : Names zs) (hc : scode zs ps ≠ 0) :
    Calls Tryz.prog 33 #[.slice A n c, .slice B m d, .int .i64 q] w fun e w' => e = .returned (.tuple #[.agg #[.int .i64 0, .int .i64 0], .int .i64 (scode zs ps)]) ∧ Below w.heap.size w w' := by
  have HA := hide ha
  have HB := hide hb
  have HL := hide hl
  have HL2 := hide hl2
  have HM := hide hM
  clear ha hb hl hl2 hM
  have dc : (scode zs ps != 0) = true := by simpa using hc
  obtain ⟨k, hk⟩ : ∃ k, scode zs ps = k := ⟨_, rfl⟩
  rw [hk] at dc ⊢
  have HK := hide hk
  clear hc hk
  go_enter Tryz.func33, Tryz.ntmps33
  have HB0 := hide ((Below.refl w.heap.size w).alloc (Nat.le_refl _) (.cells #[.int .i64 0, .int .i64 0] 29))
  go_wp2_with fail
  refine (spec_l03Code _ _ _ _ _ _ zs ps _ hn hm HL.out HL2.out (HA.out.below HB0.out) (HB.out.below HB0.out) HM.out).mono ?_
  rintro e w1 ⟨rfl, hb1⟩
  have r0 := (hb1.cell (p := ⟨w.heap.size, 0, none⟩) (by simp)).trans (show _ = some (.int .i64 0) from by simp [go_sem])
  have r1 := (hb1.cell (p := ⟨w.heap.size, 1, none⟩) (by simp)).trans (show _ = some (.int .i64 0) from by simp [go_sem])
  have hz : w.heap.size < w1.heap.size := by have := hb1.size; simp at this; omega
  have HB1 := hide (HB0.out.trans (hb1.mono (by simp)))
  have q0 := ((bcell hb1).2 w.heap.size 0 (by simp)).trans (show _ = false from by simp [go_sem])
  have q1 := ((bcell hb1).2 w.heap.size 1 (by simp)).trans (show _ = false from by simp [go_sem])
  clear hb1
  rw [HK.out]
  go_wp2
  refine bodyPost_ret (v := .tuple #[.agg #[.int .i64 0, .int .i64 0], .int .i64 k]) ?_ rfl ?_
  · simp [results, Tryz.results33, go_sem, r0, r1]
  · refine ⟨rfl, ?_⟩
    have BX := HB1.out
    go_grown
set_option maxRecDepth 100000 in
set_option maxHeartbeats 1000000 in
theorem spec_mean_yes (q : Nat) (hq : q < 4) (A B : Option Addr) (n c m d : Nat) (zs : List Clay) (ps : List Int) (w : World) (hn : n ≤ 16777216) (hm : m ≤ 16777216) (hl : zs.length = n) (hl2 : ps.length = m) (ha : Row Clay.enc 5 w A zs) (hb : Row encI 1 w B ps) (hM : Names zs) (h1 : claysOk zs = true) (h2 : ps.length = zs.length) (h3 : partsIn ps = true) (h4 : ¬ sumK ps ps.length = 0) :
    Calls Tryz.prog 33 #[.slice A n c, .slice B m d, .int .i64 q] w fun e w' => e = .returned (.tuple #[.agg #[.int .i64 (totK (valOf q) zs ps ps.length / Int.gcd (totK (valOf q) zs ps ps.length) (sumK ps ps.length)), .int .i64 (sumK ps ps.length / Int.gcd (totK (valOf q) zs ps ps.length) (sumK ps ps.length))], .int .i64 0]) ∧ Below w.heap.size w w' := by
  obtain rfl : m = n := by omega
  have hp := scode_yes h1 h2 h3 h4
  rw [hl2] at h4 ⊢
  have h6 := clays_six h1
  rw [hl] at h6
  have hs := sumK_in h3 m
  have ht := totK_in (small_valOf q) h1 h3 m
  obtain ⟨X, hX⟩ : ∃ X, totK (valOf q) zs ps m / (Int.gcd (totK (valOf q) zs ps m) (sumK ps m) : Int) = X := ⟨_, rfl⟩
  obtain ⟨Y, hY⟩ : ∃ Y, sumK ps m / (Int.gcd (totK (valOf q) zs ps m) (sumK ps m) : Int) = Y := ⟨_, rfl⟩
  rw [hX, hY]
  have HX := hide hX
  have HY := hide hY
  clear h2 hX hY
  have HA := hide ha
  have HB := hide hb
  have HL := hide hl
  have HL2 := hide hl2
  have HM := hide hM
  clear ha hb hl hl2 hM
  go_enter Tryz.func33, Tryz.ntmps33
  have HB0 := hide ((Below.refl w.heap.size w).alloc (Nat.le_refl _) (.cells #[.int .i64 0, .int .i64 0] 29))
  go_wp2_with fail
  refine (spec_l03Code _ _ _ _ _ _ zs ps _ hn hm HL.out HL2.out (HA.out.below HB0.out) (HB.out.below HB0.out) HM.out).mono ?_
  rintro e w1 ⟨rfl, hb1⟩
  have r0 := (hb1.cell (p := ⟨w.heap.size, 0, none⟩) (by simp)).trans (show _ = some (.int .i64 0) from by simp [go_sem])
  have r1 := (hb1.cell (p := ⟨w.heap.size, 1, none⟩) (by simp)).trans (show _ = some (.int .i64 0) from by simp [go_sem])
  have hz : w.heap.size < w1.heap.size := by have := hb1.size; simp at this; omega
  have HB1 := hide (HB0.out.trans (hb1.mono (by simp)))
  have q0 := ((bcell hb1).2 w.heap.size 0 (by simp)).trans (show _ = false from by simp [go_sem])
  have q1 := ((bcell hb1).2 w.heap.size 1 (by simp)).trans (show _ = false from by simp [go_sem])
  clear hb1
  rw [hp]
  go_wp2_with fail
  refine (spec_l03Total q hq _ _ _ _ _ zs ps _ h6 HL.out HL2.out (HA.out.below HB1.out) (HB.out.below HB1.out) h1 h3).mono ?_
  rintro e w3 ⟨rfl, hb3⟩
  have HB3 := hide (HB1.out.trans (hb3.mono HB1.out.size))
  have hz3 : w.heap.size < w3.heap.size := by have := hb3.size; omega
  replace r0 := (hb3.cell (p := ⟨w.heap.size, 0, none⟩) hz).trans r0
  replace r1 := (hb3.cell (p := ⟨w.heap.size, 1, none⟩) hz).trans r1
  replace q0 := ((bcell hb3).2 w.heap.size 0 hz).trans q0
  replace q1 := ((bcell hb3).2 w.heap.size 1 hz).trans q1
  clear hb3
  go_wp2_with fail
  refine (spec_l03Sum _ _ _ ps _ hm HL2.out (HB.out.below HB3.out)).mono ?_
  rintro e w5 ⟨rfl, rfl⟩
  rw [lsum_yes _ h3]
  go_wp2_with fail
  refine (spec_l02Make _ _ _ (by omega) (by omega) (by omega) (by omega)).mono ?_
  rintro e w4 ⟨rfl, hb4⟩
  have HB4 := hide (HB3.out.trans (hb4.mono HB3.out.size))
  have hz4 : w.heap.size < w4.heap.size := by have := hb4.size; omega
  replace r0 := (hb4.cell (p := ⟨w.heap.size, 0, none⟩) hz3).trans r0
  replace r1 := (hb4.cell (p := ⟨w.heap.size, 1, none⟩) hz3).trans r1
  replace q0 := ((bcell hb4).2 w.heap.size 0 hz3).trans q0
  replace q1 := ((bcell hb4).2 w.heap.size 1 hz3).trans q1
  clear hb4
  rw [HX.out, HY.out]
  go_wp2
  refine bodyPost_ret (v := .tuple #[.agg #[.int .i64 X, .int .i64 Y], .int .i64 0]) ?_ rfl ?_
  · simp [results, Tryz.results33, go_sem, r0, r1]
  · refine ⟨rfl, ?_⟩
    have BX := HB4.out
    go_grown
theorem spec_mean (q : Nat) (hq : q < 4) (A B : Option Addr) (n c m d : Nat) (zs : List Clay) (ps : List Int) (w : World) (hn : n ≤ 16777216) (hm : m ≤ 16777216) (hl : zs.length = n) (hl2 : ps.length = m) (ha : Row Clay.enc 5 w A zs) (hb : Row encI 1 w B ps) (hM : Names zs) :
    Calls Tryz.prog 33 #[.slice A n c, .slice B m d, .int .i64 q] w fun e w' => e = .returned (.tuple #[.agg #[.int .i64 (mnum (valOf q) zs ps), .int .i64 (mden (valOf q) zs ps)], .int .i64 (scode zs ps)]) ∧ Below w.heap.size w w' := by
  unfold mnum mden
  rcases codes zs ps with ⟨h1, h2, h3, h5⟩ | ⟨h1, h2⟩
  · by_cases h4 : sumK ps ps.length = 0
    · rw [scode_zero h1 h2 h3 h4, if_neg (by decide), if_neg (by decide)]
      rw [← scode_zero h1 h2 h3 h4]
      exact spec_mean_no q A B n c m d zs ps w hn hm hl hl2 ha hb hM (by rw [scode_zero h1 h2 h3 h4]; decide)
    · rw [scode_yes h1 h2 h3 h4, if_pos rfl, if_pos rfl]
      exact spec_mean_yes q hq A B n c m d zs ps w hn hm hl hl2 ha hb hM h1 h2 h3 h4
  · have h3 : scode zs ps ≠ 0 := by rw [h2]; exact h1
    rw [if_neg h3, if_neg h3]
    exact spec_mean_no q A B n c m d zs ps w hn hm hl hl2 ha hb hM h3
end Go.Proofs.YtfjdhjbfingofaaGreatDoor
