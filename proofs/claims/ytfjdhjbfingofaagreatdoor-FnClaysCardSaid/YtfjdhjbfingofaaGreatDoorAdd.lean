/-
  What is proved: a clay added to a list, of the program and of the reference. Conditions: lengths that fit.
-/
import Derived.Test.YtfjdhjbfingofaaGreatDoorClayV2
import Derived.Test.YtfjdhjbfingofaaGreatDoorJoinE
import Derived.Test.YtfjdhjbfingofaaGreatDoorJoinB
import Derived.OwnWalk
import Derived.Deep.RegionHeld3
import Derived.Deep.AppendLies
namespace Go.Proofs.YtfjdhjbfingofaaGreatDoor
open Go.RowKit
set_option linter.unusedVariables false

theorem clay_oneCell {xs : List Clay} : ∀ u ∈ flat Clay.enc xs, u.oneCell' = true := by
  intro u hu
  obtain ⟨x, hx, hu⟩ := List.mem_flatMap.1 hu
  simp [Clay.enc] at hu
  rcases hu with rfl | rfl | rfl | rfl | rfl <;> rfl
theorem clay_new_at (w : World) (x0 : ByteArray) (x1 x2 x3 x4 : Int) (t : TypeId) (s : Nat) (hs : w.heap.size = s) : ∀ (j : Nat) (u : Value), [Value.string x0, .int .i64 x1, .int .i64 x2, .int .i64 x3, .int .i64 x4][j]? = some u → (w.alloc (.cells #[.string x0, .int .i64 x1, .int .i64 x2, .int .i64 x3, .int .i64 x4] t)).cell? ((⟨s, 0, none⟩ : Addr).add j) = some u := by
  subst hs
  intro j u hj
  match j, hj with
  | 0, hj => obtain rfl := Option.some.inj hj; simp [Addr.add, World.cell?_alloc_new]
  | 1, hj => obtain rfl := Option.some.inj hj; simp [Addr.add, World.cell?_alloc_new]
  | 2, hj => obtain rfl := Option.some.inj hj; simp [Addr.add, World.cell?_alloc_new]
  | 3, hj => obtain rfl := Option.some.inj hj; simp [Addr.add, World.cell?_alloc_new]
  | 4, hj => obtain rfl := Option.some.inj hj; simp [Addr.add, World.cell?_alloc_new]
  | j + 5, hj => simp at hj
theorem own_push_clay {w : World} {base n : Nat} {t : TypeId} {v : Value} {xs : List Clay} {x0 : ByteArray} {x1 x2 x3 x4 : Int} (h : w.ownsRow base t 5 v n (flat Clay.enc xs ++ [Value.string x0, .int .i64 x1, .int .i64 x2, .int .i64 x3, .int .i64 x4])) : w.ownsRow base t 5 v n (flat Clay.enc (xs ++ [⟨x0, x1, x2, x3, x4⟩])) := by
  rw [flat_append]
  exact h
theorem far_cell {B i : Nat} {wr u : World} {o : Obj} {v : Value} (hz : B < wr.heap.size) (hg : (wr.alloc o).grownBy u (some wr.heap.size)) (hr : wr.cell? ⟨B, i, none⟩ = some v) : u.cell? ⟨B, i, none⟩ = some v :=
  (hg.cell_far ⟨B, i, none⟩ (show B < _ from by simp; omega) (show some B ≠ some wr.heap.size from fun q => by have := Option.some.inj q; omega)).trans ((World.cell?_alloc_lt _ _ ⟨B, i, none⟩ hz).trans hr)
theorem grown_new {w wr u : World} {o : Obj} (hb : Below w.heap.size w wr) (hg : (wr.alloc o).grownBy u (some wr.heap.size)) : Below w.heap.size w u :=
  (hb.alloc hb.size o).grown hg (by have := hb.size; simp; omega) (fun k e => by obtain rfl := Option.some.inj e; exact hb.size)
theorem add_block (b o j : Nat) : ((⟨b, o, none⟩ : Addr).add j).block = b := by
  unfold Addr.add
  split <;> rfl
theorem clay_one {x0 : ByteArray} {x1 x2 x3 x4 : Int} : ∀ u ∈ [Value.string x0, .int .i64 x1, .int .i64 x2, .int .i64 x3, .int .i64 x4], u.oneCell' = true := fun x hx => by
  simp at hx
  rcases hx with rfl | rfl | rfl | rfl | rfl <;> rfl
theorem own_weak' {w : World} {base base' size n : Nat} {t : TypeId} {v : Value} {xs : List Value} (h : w.ownsRow base t size v n xs) (hb : base' ≤ base) : w.ownsRow base' t size v n xs :=
  ⟨h.1, h.2.imp id fun ⟨g, cap, cur, h1, h2, h3⟩ => ⟨g, cap, cur, h1, Nat.le_trans hb h2, h3⟩⟩
def addL (zs : List Clay) (c : Clay) : List Clay := if claysOk zs = true ∧ c.ok = true ∧ hasName zs c.n = false ∧ zs.length < 6 then zs ++ [c] else []
def addC (zs : List Clay) (c : Clay) : Int := if claysOk zs = true then (if c.ok = true then (if hasName zs c.n = true then 4 else if zs.length < 6 then 0 else 5) else 2) else 1
theorem addL_len (zs : List Clay) (c : Clay) : (addL zs c).length ≤ zs.length + 1 := by
  unfold addL
  split
  · rw [List.length_append]; exact Nat.le_refl _
  · exact Nat.zero_le _
set_option maxHeartbeats 1000000 in
theorem cloneClay (b off n c : Nat) (zs : List Clay) (w : World) (hn : n ≤ 16777216) (hl : zs.length = n) (h : Row Clay.enc 5 w (some ⟨b, off, none⟩) zs) :
    Calls Tryz.prog 47 #[.slice (some ⟨b, off, none⟩) n c] w fun e w' => ∃ g c', e = .returned (.slice (some ⟨g, 0, none⟩) n c') ∧ w'.ownsRow w.heap.size 35 5 (.slice (some ⟨g, 0, none⟩) n c') n (flat Clay.enc zs) ∧ Below w.heap.size w w' := by
  obtain ⟨i0, hi, hz0, hz1, hz2⟩ := info_parts info_Clay
  have HA := hide h
  have HI := hide hi
  have HZ0 := hide hz0
  have HZ1 := hide hz1
  have HZ2 := hide hz2
  have hnm : n ≤ 9223372036854775807 := by omega
  clear h hi hz0 hz1 hz2
  have hnilq : ∀ W : World, (binOp .eql 24 (.slice (some ⟨b, off, none⟩) n c) (.slice none 0 0)).run Tryz.prog W = .ok (.bool false) W := fun W => Lib.run_eql_slice_nil W _ _ _ _ _ _ _ Tryz.underlying24
  go_enter Tryz.func47, Tryz.ntmps47
  have HO := hide (own_empty w w.heap.size 5 35 (Nat.le_refl _))
  have HB := hide ((Below.refl w.heap.size w).alloc (Nat.le_refl _) (.cells #[] 35))
  have hrn := row_news (k := 5) (fun _ => rfl) (by omega) (HA.out.below HB.out)
  have HR := hide hrn
  clear hrn
  have hfl := flat_length (enc := Clay.enc) (k := 5) (fun _ => rfl) zs
  rw [hl] at hfl
  have HF := hide hfl
  clear hfl hl
  go_wp2_with (first
    | (at_builtin
       refine wpList_append_own _ rfl _ _ 24 rfl w.heap.size 35 i0 _ 5 48 Tryz.underlying24 HI.out HZ0.out HZ1.out HZ2.out rfl (by decide) _ _ _ rfl HO.out ⟨b, off, none⟩ n c (flat Clay.enc zs) rfl HF.out HR.out clay_oneCell (by unfold maxLen; omega) (by omega) (by simp <;> omega) ?_
       intro v' w1 hown' hgrow hnil
       rw [Nat.zero_add, List.nil_append] at hown'
       have HB2 := hide (Below.grown HB.out hgrow (by simp <;> omega) (fun j hj => (HO.out.lt j hj).1))
       clear hgrow
       rcases hown'.2 with ⟨hq, _⟩ | ⟨g, cap, cur, rfl, hgb, _, _⟩
       · cases (hnil.1 hq).1
       clear hnil
       have HO2 := hide hown'
       clear hown'))
  go_wp2
  go_ret
  exact ⟨g, cap, rfl, HO2.out, HB2.out⟩
set_option maxRecDepth 100000 in
set_option maxHeartbeats 1000000 in
theorem impl_add_bad (b off n c : Nat) (zs : List Clay) (x0 : ByteArray) (x1 x2 x3 x4 : Int) (w : World) (hn : n ≤ 16777216) (hnc : n ≤ c) (hl : zs.length = n) (ha : Row Clay.enc 5 w (some ⟨b, off, none⟩) zs) (hM : Names zs) (hs : x0.size ≤ maxLen) (hv : claysOk zs = false) :
    Calls Tryz.prog 15 #[.slice (some ⟨b, off, none⟩) n c, .agg #[.string x0, .int .i64 x1, .int .i64 x2, .int .i64 x3, .int .i64 x4]] w fun e w' => ∃ A' c', e = .returned (.tuple #[.slice A' ([] : List Clay).length c', .int .i64 1]) ∧ Own 35 5 Clay.enc w' w.heap.size w'.heap.size A' ([] : List Clay).length c' ([] : List Clay) ∧ Below w.heap.size w w' := by
  have HA := hide ha
  have HL := hide hl
  have HM := hide hM
  have hnm : n ≤ 9223372036854775807 := by omega
  clear ha hl hM
  go_enter Tryz.func15, Tryz.ntmps15
  have HB0 := hide ((Below.refl w.heap.size w).alloc (Nat.le_refl _) (.cells #[.string x0, .int .i64 x1, .int .i64 x2, .int .i64 x3, .int .i64 x4] 35))
  go_wp2_with fail
  refine (impl_validClays _ _ _ zs _ hn hnc HL.out (HA.out.below HB0.out) HM.out).mono ?_
  rintro e w1 ⟨rfl, hb1⟩
  rw [hv]
  have r0 := (hb1.cell (p := ⟨w.heap.size, 0, none⟩) (by simp)).trans (show _ = some (.string x0) from by simp [go_sem])
  have r1 := (hb1.cell (p := ⟨w.heap.size, 1, none⟩) (by simp)).trans (show _ = some (.int .i64 x1) from by simp [go_sem])
  have r2 := (hb1.cell (p := ⟨w.heap.size, 2, none⟩) (by simp)).trans (show _ = some (.int .i64 x2) from by simp [go_sem])
  have r3 := (hb1.cell (p := ⟨w.heap.size, 3, none⟩) (by simp)).trans (show _ = some (.int .i64 x3) from by simp [go_sem])
  have r4 := (hb1.cell (p := ⟨w.heap.size, 4, none⟩) (by simp)).trans (show _ = some (.int .i64 x4) from by simp [go_sem])
  have hz1 : w.heap.size < w1.heap.size := by have := hb1.size; simp at this; omega
  have HB1 := hide (HB0.out.trans (hb1.mono (by simp)))
  clear hb1
  go_wp2
  go_ret2
  exact ⟨none, 0, rfl, Own.nil (Nat.le_refl _), HB1.out⟩
set_option maxRecDepth 100000 in
set_option maxHeartbeats 1000000 in
theorem impl_add_range (b off n c : Nat) (zs : List Clay) (x0 : ByteArray) (x1 x2 x3 x4 : Int) (w : World) (hn : n ≤ 16777216) (hnc : n ≤ c) (hl : zs.length = n) (ha : Row Clay.enc 5 w (some ⟨b, off, none⟩) zs) (hM : Names zs) (hs : x0.size ≤ maxLen) (hv : claysOk zs = true) (hc : Clay.ok ⟨x0, x1, x2, x3, x4⟩ = false) :
    Calls Tryz.prog 15 #[.slice (some ⟨b, off, none⟩) n c, .agg #[.string x0, .int .i64 x1, .int .i64 x2, .int .i64 x3, .int .i64 x4]] w fun e w' => ∃ A' c', e = .returned (.tuple #[.slice A' ([] : List Clay).length c', .int .i64 2]) ∧ Own 35 5 Clay.enc w' w.heap.size w'.heap.size A' ([] : List Clay).length c' ([] : List Clay) ∧ Below w.heap.size w w' := by
  have HA := hide ha
  have HL := hide hl
  have HM := hide hM
  have hnm : n ≤ 9223372036854775807 := by omega
  clear ha hl hM
  go_enter Tryz.func15, Tryz.ntmps15
  have HB0 := hide ((Below.refl w.heap.size w).alloc (Nat.le_refl _) (.cells #[.string x0, .int .i64 x1, .int .i64 x2, .int .i64 x3, .int .i64 x4] 35))
  go_wp2_with fail
  refine (impl_validClays _ _ _ zs _ hn hnc HL.out (HA.out.below HB0.out) HM.out).mono ?_
  rintro e w1 ⟨rfl, hb1⟩
  rw [hv]
  have r0 := (hb1.cell (p := ⟨w.heap.size, 0, none⟩) (by simp)).trans (show _ = some (.string x0) from by simp [go_sem])
  have r1 := (hb1.cell (p := ⟨w.heap.size, 1, none⟩) (by simp)).trans (show _ = some (.int .i64 x1) from by simp [go_sem])
  have r2 := (hb1.cell (p := ⟨w.heap.size, 2, none⟩) (by simp)).trans (show _ = some (.int .i64 x2) from by simp [go_sem])
  have r3 := (hb1.cell (p := ⟨w.heap.size, 3, none⟩) (by simp)).trans (show _ = some (.int .i64 x3) from by simp [go_sem])
  have r4 := (hb1.cell (p := ⟨w.heap.size, 4, none⟩) (by simp)).trans (show _ = some (.int .i64 x4) from by simp [go_sem])
  have hz1 : w.heap.size < w1.heap.size := by have := hb1.size; simp at this; omega
  have HB1 := hide (HB0.out.trans (hb1.mono (by simp)))
  clear hb1
  go_wp2_with fail
  refine (impl_isClay x0 x1 x2 x3 x4 _ hs).mono ?_
  rintro e w2 ⟨rfl, hb2⟩
  rw [hc]
  replace r0 := (hb2.cell (p := ⟨w.heap.size, 0, none⟩) hz1).trans r0
  replace r1 := (hb2.cell (p := ⟨w.heap.size, 1, none⟩) hz1).trans r1
  replace r2 := (hb2.cell (p := ⟨w.heap.size, 2, none⟩) hz1).trans r2
  replace r3 := (hb2.cell (p := ⟨w.heap.size, 3, none⟩) hz1).trans r3
  replace r4 := (hb2.cell (p := ⟨w.heap.size, 4, none⟩) hz1).trans r4
  have hz2 : w.heap.size < w2.heap.size := Nat.lt_of_lt_of_le hz1 hb2.size
  have HB2 := hide (HB1.out.trans (hb2.mono HB1.out.size))
  clear hb2
  go_wp2
  go_ret2
  exact ⟨none, 0, rfl, Own.nil (Nat.le_refl _), HB2.out⟩
set_option maxRecDepth 100000 in
set_option maxHeartbeats 1000000 in
theorem impl_add_has (b off n c : Nat) (zs : List Clay) (x0 : ByteArray) (x1 x2 x3 x4 : Int) (w : World) (hn : n ≤ 16777216) (hnc : n ≤ c) (hl : zs.length = n) (ha : Row Clay.enc 5 w (some ⟨b, off, none⟩) zs) (hM : Names zs) (hs : x0.size ≤ maxLen) (hv : claysOk zs = true) (hc : Clay.ok ⟨x0, x1, x2, x3, x4⟩ = true) (hh : hasName zs x0 = true) :
    Calls Tryz.prog 15 #[.slice (some ⟨b, off, none⟩) n c, .agg #[.string x0, .int .i64 x1, .int .i64 x2, .int .i64 x3, .int .i64 x4]] w fun e w' => ∃ A' c', e = .returned (.tuple #[.slice A' ([] : List Clay).length c', .int .i64 4]) ∧ Own 35 5 Clay.enc w' w.heap.size w'.heap.size A' ([] : List Clay).length c' ([] : List Clay) ∧ Below w.heap.size w w' := by
  have HA := hide ha
  have HL := hide hl
  have HM := hide hM
  have hnm : n ≤ 9223372036854775807 := by omega
  clear ha hl hM
  go_enter Tryz.func15, Tryz.ntmps15
  have HB0 := hide ((Below.refl w.heap.size w).alloc (Nat.le_refl _) (.cells #[.string x0, .int .i64 x1, .int .i64 x2, .int .i64 x3, .int .i64 x4] 35))
  go_wp2_with fail
  refine (impl_validClays _ _ _ zs _ hn hnc HL.out (HA.out.below HB0.out) HM.out).mono ?_
  rintro e w1 ⟨rfl, hb1⟩
  rw [hv]
  have r0 := (hb1.cell (p := ⟨w.heap.size, 0, none⟩) (by simp)).trans (show _ = some (.string x0) from by simp [go_sem])
  have r1 := (hb1.cell (p := ⟨w.heap.size, 1, none⟩) (by simp)).trans (show _ = some (.int .i64 x1) from by simp [go_sem])
  have r2 := (hb1.cell (p := ⟨w.heap.size, 2, none⟩) (by simp)).trans (show _ = some (.int .i64 x2) from by simp [go_sem])
  have r3 := (hb1.cell (p := ⟨w.heap.size, 3, none⟩) (by simp)).trans (show _ = some (.int .i64 x3) from by simp [go_sem])
  have r4 := (hb1.cell (p := ⟨w.heap.size, 4, none⟩) (by simp)).trans (show _ = some (.int .i64 x4) from by simp [go_sem])
  have hz1 : w.heap.size < w1.heap.size := by have := hb1.size; simp at this; omega
  have HB1 := hide (HB0.out.trans (hb1.mono (by simp)))
  clear hb1
  go_wp2_with fail
  refine (impl_isClay x0 x1 x2 x3 x4 _ hs).mono ?_
  rintro e w2 ⟨rfl, hb2⟩
  rw [hc]
  replace r0 := (hb2.cell (p := ⟨w.heap.size, 0, none⟩) hz1).trans r0
  replace r1 := (hb2.cell (p := ⟨w.heap.size, 1, none⟩) hz1).trans r1
  replace r2 := (hb2.cell (p := ⟨w.heap.size, 2, none⟩) hz1).trans r2
  replace r3 := (hb2.cell (p := ⟨w.heap.size, 3, none⟩) hz1).trans r3
  replace r4 := (hb2.cell (p := ⟨w.heap.size, 4, none⟩) hz1).trans r4
  have hz2 : w.heap.size < w2.heap.size := Nat.lt_of_lt_of_le hz1 hb2.size
  have HB2 := hide (HB1.out.trans (hb2.mono HB1.out.size))
  clear hb2
  go_wp2_with fail
  refine (impl_hasClay _ _ _ zs x0 _ hn HL.out (HA.out.below HB2.out)).mono ?_
  rintro e w3 ⟨rfl, hb3⟩
  rw [hh]
  replace r0 := (hb3.cell (p := ⟨w.heap.size, 0, none⟩) hz2).trans r0
  replace r1 := (hb3.cell (p := ⟨w.heap.size, 1, none⟩) hz2).trans r1
  replace r2 := (hb3.cell (p := ⟨w.heap.size, 2, none⟩) hz2).trans r2
  replace r3 := (hb3.cell (p := ⟨w.heap.size, 3, none⟩) hz2).trans r3
  replace r4 := (hb3.cell (p := ⟨w.heap.size, 4, none⟩) hz2).trans r4
  have hz3 : w.heap.size < w3.heap.size := Nat.lt_of_lt_of_le hz2 hb3.size
  have HB3 := hide (HB2.out.trans (hb3.mono HB2.out.size))
  clear hb3
  go_wp2
  go_ret2
  exact ⟨none, 0, rfl, Own.nil (Nat.le_refl _), HB3.out⟩
set_option maxRecDepth 100000 in
set_option maxHeartbeats 1000000 in
theorem impl_add_full (b off n c : Nat) (zs : List Clay) (x0 : ByteArray) (x1 x2 x3 x4 : Int) (w : World) (hn : n ≤ 16777216) (hnc : n ≤ c) (hl : zs.length = n) (ha : Row Clay.enc 5 w (some ⟨b, off, none⟩) zs) (hM : Names zs) (hs : x0.size ≤ maxLen) (hv : claysOk zs = true) (hc : Clay.ok ⟨x0, x1, x2, x3, x4⟩ = true) (hh : hasName zs x0 = false) (hf : n = 6) :
    Calls Tryz.prog 15 #[.slice (some ⟨b, off, none⟩) n c, .agg #[.string x0, .int .i64 x1, .int .i64 x2, .int .i64 x3, .int .i64 x4]] w fun e w' => ∃ A' c', e = .returned (.tuple #[.slice A' ([] : List Clay).length c', .int .i64 5]) ∧ Own 35 5 Clay.enc w' w.heap.size w'.heap.size A' ([] : List Clay).length c' ([] : List Clay) ∧ Below w.heap.size w w' := by
  subst hf
  have HA := hide ha
  have HL := hide hl
  have HM := hide hM
  have hnm : 6 ≤ 9223372036854775807 := by omega
  clear ha hl hM
  go_enter Tryz.func15, Tryz.ntmps15
  have HB0 := hide ((Below.refl w.heap.size w).alloc (Nat.le_refl _) (.cells #[.string x0, .int .i64 x1, .int .i64 x2, .int .i64 x3, .int .i64 x4] 35))
  go_wp2_with fail
  refine (impl_validClays _ _ _ zs _ hn hnc HL.out (HA.out.below HB0.out) HM.out).mono ?_
  rintro e w1 ⟨rfl, hb1⟩
  rw [hv]
  have r0 := (hb1.cell (p := ⟨w.heap.size, 0, none⟩) (by simp)).trans (show _ = some (.string x0) from by simp [go_sem])
  have r1 := (hb1.cell (p := ⟨w.heap.size, 1, none⟩) (by simp)).trans (show _ = some (.int .i64 x1) from by simp [go_sem])
  have r2 := (hb1.cell (p := ⟨w.heap.size, 2, none⟩) (by simp)).trans (show _ = some (.int .i64 x2) from by simp [go_sem])
  have r3 := (hb1.cell (p := ⟨w.heap.size, 3, none⟩) (by simp)).trans (show _ = some (.int .i64 x3) from by simp [go_sem])
  have r4 := (hb1.cell (p := ⟨w.heap.size, 4, none⟩) (by simp)).trans (show _ = some (.int .i64 x4) from by simp [go_sem])
  have hz1 : w.heap.size < w1.heap.size := by have := hb1.size; simp at this; omega
  have HB1 := hide (HB0.out.trans (hb1.mono (by simp)))
  clear hb1
  go_wp2_with fail
  refine (impl_isClay x0 x1 x2 x3 x4 _ hs).mono ?_
  rintro e w2 ⟨rfl, hb2⟩
  rw [hc]
  replace r0 := (hb2.cell (p := ⟨w.heap.size, 0, none⟩) hz1).trans r0
  replace r1 := (hb2.cell (p := ⟨w.heap.size, 1, none⟩) hz1).trans r1
  replace r2 := (hb2.cell (p := ⟨w.heap.size, 2, none⟩) hz1).trans r2
  replace r3 := (hb2.cell (p := ⟨w.heap.size, 3, none⟩) hz1).trans r3
  replace r4 := (hb2.cell (p := ⟨w.heap.size, 4, none⟩) hz1).trans r4
  have hz2 : w.heap.size < w2.heap.size := Nat.lt_of_lt_of_le hz1 hb2.size
  have HB2 := hide (HB1.out.trans (hb2.mono HB1.out.size))
  clear hb2
  go_wp2_with fail
  refine (impl_hasClay _ _ _ zs x0 _ hn HL.out (HA.out.below HB2.out)).mono ?_
  rintro e w3 ⟨rfl, hb3⟩
  rw [hh]
  replace r0 := (hb3.cell (p := ⟨w.heap.size, 0, none⟩) hz2).trans r0
  replace r1 := (hb3.cell (p := ⟨w.heap.size, 1, none⟩) hz2).trans r1
  replace r2 := (hb3.cell (p := ⟨w.heap.size, 2, none⟩) hz2).trans r2
  replace r3 := (hb3.cell (p := ⟨w.heap.size, 3, none⟩) hz2).trans r3
  replace r4 := (hb3.cell (p := ⟨w.heap.size, 4, none⟩) hz2).trans r4
  have hz3 : w.heap.size < w3.heap.size := Nat.lt_of_lt_of_le hz2 hb3.size
  have HB3 := hide (HB2.out.trans (hb3.mono HB2.out.size))
  clear hb3
  go_wp2
  go_ret2
  exact ⟨none, 0, rfl, Own.nil (Nat.le_refl _), HB3.out⟩
set_option maxRecDepth 100000 in
set_option maxHeartbeats 1000000 in
theorem impl_add_yes (b off n c : Nat) (zs : List Clay) (x0 : ByteArray) (x1 x2 x3 x4 : Int) (w : World) (hn : n ≤ 16777216) (hnc : n ≤ c) (hl : zs.length = n) (ha : Row Clay.enc 5 w (some ⟨b, off, none⟩) zs) (hM : Names zs) (hs : x0.size ≤ maxLen) (hv : claysOk zs = true) (hc : Clay.ok ⟨x0, x1, x2, x3, x4⟩ = true) (hh : hasName zs x0 = false) (hf : n < 6) :
    Calls Tryz.prog 15 #[.slice (some ⟨b, off, none⟩) n c, .agg #[.string x0, .int .i64 x1, .int .i64 x2, .int .i64 x3, .int .i64 x4]] w fun e w' => ∃ A' c', e = .returned (.tuple #[.slice A' (n + 1) c', .int .i64 0]) ∧ Own 35 5 Clay.enc w' w.heap.size w'.heap.size A' (n + 1) c' (zs ++ [⟨x0, x1, x2, x3, x4⟩]) ∧ Below w.heap.size w w' := by
  obtain ⟨i0, hi, hz0, hz1, hz2⟩ := info_parts info_Clay
  have HI := hide hi
  have HZ0 := hide hz0
  have HZ1 := hide hz1
  have HZ2 := hide hz2
  clear hi hz0 hz1 hz2
  have dn : ((n : Int) == 6) = false := by simp; omega
  have HA := hide ha
  have HL := hide hl
  have HM := hide hM
  have hnm : n ≤ 9223372036854775807 := by omega
  clear ha hl hM
  go_enter Tryz.func15, Tryz.ntmps15
  have HB0 := hide ((Below.refl w.heap.size w).alloc (Nat.le_refl _) (.cells #[.string x0, .int .i64 x1, .int .i64 x2, .int .i64 x3, .int .i64 x4] 35))
  go_wp2_with fail
  refine (impl_validClays _ _ _ zs _ hn hnc HL.out (HA.out.below HB0.out) HM.out).mono ?_
  rintro e w1 ⟨rfl, hb1⟩
  rw [hv]
  have r0 := (hb1.cell (p := ⟨w.heap.size, 0, none⟩) (by simp)).trans (show _ = some (.string x0) from by simp [go_sem])
  have r1 := (hb1.cell (p := ⟨w.heap.size, 1, none⟩) (by simp)).trans (show _ = some (.int .i64 x1) from by simp [go_sem])
  have r2 := (hb1.cell (p := ⟨w.heap.size, 2, none⟩) (by simp)).trans (show _ = some (.int .i64 x2) from by simp [go_sem])
  have r3 := (hb1.cell (p := ⟨w.heap.size, 3, none⟩) (by simp)).trans (show _ = some (.int .i64 x3) from by simp [go_sem])
  have r4 := (hb1.cell (p := ⟨w.heap.size, 4, none⟩) (by simp)).trans (show _ = some (.int .i64 x4) from by simp [go_sem])
  have hz1 : w.heap.size < w1.heap.size := by have := hb1.size; simp at this; omega
  have HB1 := hide (HB0.out.trans (hb1.mono (by simp)))
  clear hb1
  go_wp2_with fail
  refine (impl_isClay x0 x1 x2 x3 x4 _ hs).mono ?_
  rintro e w2 ⟨rfl, hb2⟩
  rw [hc]
  replace r0 := (hb2.cell (p := ⟨w.heap.size, 0, none⟩) hz1).trans r0
  replace r1 := (hb2.cell (p := ⟨w.heap.size, 1, none⟩) hz1).trans r1
  replace r2 := (hb2.cell (p := ⟨w.heap.size, 2, none⟩) hz1).trans r2
  replace r3 := (hb2.cell (p := ⟨w.heap.size, 3, none⟩) hz1).trans r3
  replace r4 := (hb2.cell (p := ⟨w.heap.size, 4, none⟩) hz1).trans r4
  have hz2 : w.heap.size < w2.heap.size := Nat.lt_of_lt_of_le hz1 hb2.size
  have HB2 := hide (HB1.out.trans (hb2.mono HB1.out.size))
  clear hb2
  go_wp2_with fail
  refine (impl_hasClay _ _ _ zs x0 _ hn HL.out (HA.out.below HB2.out)).mono ?_
  rintro e w3 ⟨rfl, hb3⟩
  rw [hh]
  replace r0 := (hb3.cell (p := ⟨w.heap.size, 0, none⟩) hz2).trans r0
  replace r1 := (hb3.cell (p := ⟨w.heap.size, 1, none⟩) hz2).trans r1
  replace r2 := (hb3.cell (p := ⟨w.heap.size, 2, none⟩) hz2).trans r2
  replace r3 := (hb3.cell (p := ⟨w.heap.size, 3, none⟩) hz2).trans r3
  replace r4 := (hb3.cell (p := ⟨w.heap.size, 4, none⟩) hz2).trans r4
  have hz3 : w.heap.size < w3.heap.size := Nat.lt_of_lt_of_le hz2 hb3.size
  have HB3 := hide (HB2.out.trans (hb3.mono HB2.out.size))
  clear hb3
  go_wp2
  go_region_held3 (fun w' => w'.cell? ⟨w.heap.size, 0, none⟩ = some (.string x0) ∧ w'.cell? ⟨w.heap.size, 1, none⟩ = some (.int .i64 x1) ∧ w'.cell? ⟨w.heap.size, 2, none⟩ = some (.int .i64 x2) ∧ w'.cell? ⟨w.heap.size, 3, none⟩ = some (.int .i64 x3) ∧ w'.cell? ⟨w.heap.size, 4, none⟩ = some (.int .i64 x4))
    (first
      | go_keep
      | exact ⟨s0, s1, s2, s3, s4⟩
      | exact ⟨t0, t1, t2, t3, t4⟩)
    (first
      | (go_at_call 47
         refine (cloneClay b off n c zs _ hn HL.out (HA.out.below (by first | exact HB3.out.drew | exact HB3.out.drew.alloc HB3.out.size _))).mono ?_
         rintro e w4 ⟨g, cap, rfl, hown, hb4⟩
         have s0 := (hb4.cell (p := ⟨w.heap.size, 0, none⟩) (by first | exact hz3 | (simp; omega))).trans (by first | exact r0 | exact (World.cell?_alloc_lt _ _ ⟨w.heap.size, 0, none⟩ hz3).trans r0)
         have s1 := (hb4.cell (p := ⟨w.heap.size, 1, none⟩) (by first | exact hz3 | (simp; omega))).trans (by first | exact r1 | exact (World.cell?_alloc_lt _ _ ⟨w.heap.size, 1, none⟩ hz3).trans r1)
         have s2 := (hb4.cell (p := ⟨w.heap.size, 2, none⟩) (by first | exact hz3 | (simp; omega))).trans (by first | exact r2 | exact (World.cell?_alloc_lt _ _ ⟨w.heap.size, 2, none⟩ hz3).trans r2)
         have s3 := (hb4.cell (p := ⟨w.heap.size, 3, none⟩) (by first | exact hz3 | (simp; omega))).trans (by first | exact r3 | exact (World.cell?_alloc_lt _ _ ⟨w.heap.size, 3, none⟩ hz3).trans r3)
         have s4 := (hb4.cell (p := ⟨w.heap.size, 4, none⟩) (by first | exact hz3 | (simp; omega))).trans (by first | exact r4 | exact (World.cell?_alloc_lt _ _ ⟨w.heap.size, 4, none⟩ hz3).trans r4)
         have hs4 : w3.heap.size ≤ w4.heap.size := by
           have := hb4.size
           first
             | exact this
             | (simp at this; omega)
         have hgw : w.heap.size < g := Nat.lt_of_lt_of_le hz3 (by
           have := (own_lt hown).1
           first
             | exact this
             | (simp at this; omega))
         have HB4 := hide (show Below w.heap.size w w4 from by
           first
             | exact HB3.out.drew.trans (hb4.mono HB3.out.size)
             | exact (HB3.out.drew.alloc HB3.out.size _).trans (hb4.mono (by have := HB3.out.size; simp; omega)))
         have HO4 := hide (own_weak' (base' := w.heap.size) hown (by
           have := HB3.out.size
           first
             | exact this
             | (simp; omega)))
         first
           | (have hN := fun (j : Nat) (u : Value) (hj : [Value.string x0, .int .i64 x1, .int .i64 x2, .int .i64 x3, .int .i64 x4][j]? = some u) => (hb4.cell (p := (⟨w3.heap.size, 0, none⟩ : Addr).add j) (by rw [add_block]; simp)).trans (clay_new_at w3.drew x0 x1 x2 x3 x4 35 _ rfl j u hj))
           | skip
         clear hb4 hown)
      | (refine step_append_lies _ (by rfl) _ _ _ (by rfl) w.heap.size 35 i0 _ 5 48 Tryz.underlying24 HI.out HZ0.out HZ1.out HZ2.out rfl (by omega) (.slice (some ⟨g, 0, none⟩) n cap) n (flat Clay.enc zs) (by rfl) (HO4.out.alloc _) ⟨w4.heap.size, 0, none⟩ 1 1 [Value.string x0, .int .i64 x1, .int .i64 x2, .int .i64 x3, .int .i64 x4] (by rfl) (by rfl) (clay_new_at _ _ _ _ _ _ _ _ rfl) clay_one (by omega) (by unfold maxLen; omega) (by omega) (by have := HB4.out.size; simp; omega) (w4.heap.size + 1) (by simp) ?_
         intro g2 cap2 w5 hown5 hgrow hat hlt
         have t0 := (hgrow.cell_far ⟨w.heap.size, 0, none⟩ (by simp; omega) (by simp [Value.ownBlock]; omega)).trans ((World.cell?_alloc_lt _ _ ⟨w.heap.size, 0, none⟩ (Nat.lt_of_lt_of_le hz3 hs4)).trans s0)
         have t1 := (hgrow.cell_far ⟨w.heap.size, 1, none⟩ (by simp; omega) (by simp [Value.ownBlock]; omega)).trans ((World.cell?_alloc_lt _ _ ⟨w.heap.size, 1, none⟩ (Nat.lt_of_lt_of_le hz3 hs4)).trans s1)
         have t2 := (hgrow.cell_far ⟨w.heap.size, 2, none⟩ (by simp; omega) (by simp [Value.ownBlock]; omega)).trans ((World.cell?_alloc_lt _ _ ⟨w.heap.size, 2, none⟩ (Nat.lt_of_lt_of_le hz3 hs4)).trans s2)
         have t3 := (hgrow.cell_far ⟨w.heap.size, 3, none⟩ (by simp; omega) (by simp [Value.ownBlock]; omega)).trans ((World.cell?_alloc_lt _ _ ⟨w.heap.size, 3, none⟩ (Nat.lt_of_lt_of_le hz3 hs4)).trans s3)
         have t4 := (hgrow.cell_far ⟨w.heap.size, 4, none⟩ (by simp; omega) (by simp [Value.ownBlock]; omega)).trans ((World.cell?_alloc_lt _ _ ⟨w.heap.size, 4, none⟩ (Nat.lt_of_lt_of_le hz3 hs4)).trans s4))
      | (refine step_append_lies _ (by rfl) _ _ _ (by rfl) w.heap.size 35 i0 _ 5 48 Tryz.underlying24 HI.out HZ0.out HZ1.out HZ2.out rfl (by omega) (.slice (some ⟨g, 0, none⟩) n cap) n (flat Clay.enc zs) (by rfl) HO4.out ⟨w3.heap.size, 0, none⟩ 1 1 [Value.string x0, .int .i64 x1, .int .i64 x2, .int .i64 x3, .int .i64 x4] (by rfl) (by rfl) hN clay_one (by omega) (by unfold maxLen; omega) (by omega) HB4.out.size w4.heap.size rfl ?_
         intro g2 cap2 w5 hown5 hgrow hat hlt
         have t0 := (hgrow.cell_far ⟨w.heap.size, 0, none⟩ (Nat.lt_of_lt_of_le hz3 hs4) (by simp [Value.ownBlock]; omega)).trans s0
         have t1 := (hgrow.cell_far ⟨w.heap.size, 1, none⟩ (Nat.lt_of_lt_of_le hz3 hs4) (by simp [Value.ownBlock]; omega)).trans s1
         have t2 := (hgrow.cell_far ⟨w.heap.size, 2, none⟩ (Nat.lt_of_lt_of_le hz3 hs4) (by simp [Value.ownBlock]; omega)).trans s2
         have t3 := (hgrow.cell_far ⟨w.heap.size, 3, none⟩ (Nat.lt_of_lt_of_le hz3 hs4) (by simp [Value.ownBlock]; omega)).trans s3
         have t4 := (hgrow.cell_far ⟨w.heap.size, 4, none⟩ (Nat.lt_of_lt_of_le hz3 hs4) (by simp [Value.ownBlock]; omega)).trans s4))
  all_goals
    have HB5 := hide (show Below w.heap.size w w5 from by
      first
        | exact (HB4.out.alloc HB4.out.size _).grown hgrow (by have := HB4.out.size; simp; omega) (fun j hj => (HO4.out.lt j hj).1)
        | exact HB4.out.grown hgrow HB4.out.size (fun j hj => (HO4.out.lt j hj).1))
    have HO5 := hide (own_push_clay hown5)
    clear hown5 hgrow hat
    go_wp2
    go_ret2
    exact ⟨some ⟨g2, 0, none⟩, cap2, rfl, ⟨by rw [List.length_append, HL.out]; rfl, HO5.out, fun a ha => by
      obtain rfl := Option.some.inj ha
      exact (own_lt HO5.out).2, Nat.le_refl _⟩, HB5.out⟩
set_option maxRecDepth 100000 in
set_option maxHeartbeats 1000000 in
theorem spec_add_bad (b off n c : Nat) (zs : List Clay) (x0 : ByteArray) (x1 x2 x3 x4 : Int) (w : World) (hn : n ≤ 16777216) (hnc : n ≤ c) (hl : zs.length = n) (ha : Row Clay.enc 5 w (some ⟨b, off, none⟩) zs) (hM : Names zs) (hs : x0.size ≤ maxLen) (hv : claysOk zs = false) :
    Calls Tryz.prog 16 #[.slice (some ⟨b, off, none⟩) n c, .agg #[.string x0, .int .i64 x1, .int .i64 x2, .int .i64 x3, .int .i64 x4]] w fun e w' => ∃ A' c', e = .returned (.tuple #[.slice A' ([] : List Clay).length c', .int .i64 1]) ∧ Own 35 5 Clay.enc w' w.heap.size w'.heap.size A' ([] : List Clay).length c' ([] : List Clay) ∧ Below w.heap.size w w' := by
  have HA := hide ha
  have HL := hide hl
  have HM := hide hM
  have hnm : n ≤ 9223372036854775807 := by omega
  clear ha hl hM
  go_enter Tryz.func16, Tryz.ntmps16
  have HB0 := hide ((Below.refl w.heap.size w).alloc (Nat.le_refl _) (.cells #[.string x0, .int .i64 x1, .int .i64 x2, .int .i64 x3, .int .i64 x4] 35))
  go_wp2_with fail
  refine (spec_l03Ok _ _ _ zs _ hn HL.out (HA.out.below HB0.out) HM.out).mono ?_
  rintro e w1 ⟨rfl, hb1⟩
  rw [hv]
  have r0 := (hb1.cell (p := ⟨w.heap.size, 0, none⟩) (by simp)).trans (show _ = some (.string x0) from by simp [go_sem])
  have r1 := (hb1.cell (p := ⟨w.heap.size, 1, none⟩) (by simp)).trans (show _ = some (.int .i64 x1) from by simp [go_sem])
  have r2 := (hb1.cell (p := ⟨w.heap.size, 2, none⟩) (by simp)).trans (show _ = some (.int .i64 x2) from by simp [go_sem])
  have r3 := (hb1.cell (p := ⟨w.heap.size, 3, none⟩) (by simp)).trans (show _ = some (.int .i64 x3) from by simp [go_sem])
  have r4 := (hb1.cell (p := ⟨w.heap.size, 4, none⟩) (by simp)).trans (show _ = some (.int .i64 x4) from by simp [go_sem])
  have hz1 : w.heap.size < w1.heap.size := by have := hb1.size; simp at this; omega
  have HB1 := hide (HB0.out.trans (hb1.mono (by simp)))
  clear hb1
  go_wp2
  go_ret2
  exact ⟨none, 0, rfl, Own.nil (Nat.le_refl _), HB1.out⟩
set_option maxRecDepth 100000 in
set_option maxHeartbeats 1000000 in
theorem spec_add_range (b off n c : Nat) (zs : List Clay) (x0 : ByteArray) (x1 x2 x3 x4 : Int) (w : World) (hn : n ≤ 16777216) (hnc : n ≤ c) (hl : zs.length = n) (ha : Row Clay.enc 5 w (some ⟨b, off, none⟩) zs) (hM : Names zs) (hs : x0.size ≤ maxLen) (hv : claysOk zs = true) (hc : Clay.ok ⟨x0, x1, x2, x3, x4⟩ = false) :
    Calls Tryz.prog 16 #[.slice (some ⟨b, off, none⟩) n c, .agg #[.string x0, .int .i64 x1, .int .i64 x2, .int .i64 x3, .int .i64 x4]] w fun e w' => ∃ A' c', e = .returned (.tuple #[.slice A' ([] : List Clay).length c', .int .i64 2]) ∧ Own 35 5 Clay.enc w' w.heap.size w'.heap.size A' ([] : List Clay).length c' ([] : List Clay) ∧ Below w.heap.size w w' := by
  have HA := hide ha
  have HL := hide hl
  have HM := hide hM
  have hnm : n ≤ 9223372036854775807 := by omega
  clear ha hl hM
  go_enter Tryz.func16, Tryz.ntmps16
  have HB0 := hide ((Below.refl w.heap.size w).alloc (Nat.le_refl _) (.cells #[.string x0, .int .i64 x1, .int .i64 x2, .int .i64 x3, .int .i64 x4] 35))
  go_wp2_with fail
  refine (spec_l03Ok _ _ _ zs _ hn HL.out (HA.out.below HB0.out) HM.out).mono ?_
  rintro e w1 ⟨rfl, hb1⟩
  rw [hv]
  have r0 := (hb1.cell (p := ⟨w.heap.size, 0, none⟩) (by simp)).trans (show _ = some (.string x0) from by simp [go_sem])
  have r1 := (hb1.cell (p := ⟨w.heap.size, 1, none⟩) (by simp)).trans (show _ = some (.int .i64 x1) from by simp [go_sem])
  have r2 := (hb1.cell (p := ⟨w.heap.size, 2, none⟩) (by simp)).trans (show _ = some (.int .i64 x2) from by simp [go_sem])
  have r3 := (hb1.cell (p := ⟨w.heap.size, 3, none⟩) (by simp)).trans (show _ = some (.int .i64 x3) from by simp [go_sem])
  have r4 := (hb1.cell (p := ⟨w.heap.size, 4, none⟩) (by simp)).trans (show _ = some (.int .i64 x4) from by simp [go_sem])
  have hz1 : w.heap.size < w1.heap.size := by have := hb1.size; simp at this; omega
  have HB1 := hide (HB0.out.trans (hb1.mono (by simp)))
  clear hb1
  go_wp2_with fail
  refine (spec_isClay x0 x1 x2 x3 x4 _ _ _ hs r0 r1 r2 r3 r4).mono ?_
  rintro e w2 ⟨rfl, rfl⟩
  rw [hc]
  have HB2 := hide HB1.out
  have hz2 := hz1
  go_wp2
  go_ret2
  exact ⟨none, 0, rfl, Own.nil (Nat.le_refl _), HB2.out⟩
set_option maxRecDepth 100000 in
set_option maxHeartbeats 1000000 in
theorem spec_add_has (b off n c : Nat) (zs : List Clay) (x0 : ByteArray) (x1 x2 x3 x4 : Int) (w : World) (hn : n ≤ 16777216) (hnc : n ≤ c) (hl : zs.length = n) (ha : Row Clay.enc 5 w (some ⟨b, off, none⟩) zs) (hM : Names zs) (hs : x0.size ≤ maxLen) (hv : claysOk zs = true) (hc : Clay.ok ⟨x0, x1, x2, x3, x4⟩ = true) (hh : hasName zs x0 = true) :
    Calls Tryz.prog 16 #[.slice (some ⟨b, off, none⟩) n c, .agg #[.string x0, .int .i64 x1, .int .i64 x2, .int .i64 x3, .int .i64 x4]] w fun e w' => ∃ A' c', e = .returned (.tuple #[.slice A' ([] : List Clay).length c', .int .i64 4]) ∧ Own 35 5 Clay.enc w' w.heap.size w'.heap.size A' ([] : List Clay).length c' ([] : List Clay) ∧ Below w.heap.size w w' := by
  have HA := hide ha
  have HL := hide hl
  have HM := hide hM
  have hnm : n ≤ 9223372036854775807 := by omega
  clear ha hl hM
  go_enter Tryz.func16, Tryz.ntmps16
  have HB0 := hide ((Below.refl w.heap.size w).alloc (Nat.le_refl _) (.cells #[.string x0, .int .i64 x1, .int .i64 x2, .int .i64 x3, .int .i64 x4] 35))
  go_wp2_with fail
  refine (spec_l03Ok _ _ _ zs _ hn HL.out (HA.out.below HB0.out) HM.out).mono ?_
  rintro e w1 ⟨rfl, hb1⟩
  rw [hv]
  have r0 := (hb1.cell (p := ⟨w.heap.size, 0, none⟩) (by simp)).trans (show _ = some (.string x0) from by simp [go_sem])
  have r1 := (hb1.cell (p := ⟨w.heap.size, 1, none⟩) (by simp)).trans (show _ = some (.int .i64 x1) from by simp [go_sem])
  have r2 := (hb1.cell (p := ⟨w.heap.size, 2, none⟩) (by simp)).trans (show _ = some (.int .i64 x2) from by simp [go_sem])
  have r3 := (hb1.cell (p := ⟨w.heap.size, 3, none⟩) (by simp)).trans (show _ = some (.int .i64 x3) from by simp [go_sem])
  have r4 := (hb1.cell (p := ⟨w.heap.size, 4, none⟩) (by simp)).trans (show _ = some (.int .i64 x4) from by simp [go_sem])
  have hz1 : w.heap.size < w1.heap.size := by have := hb1.size; simp at this; omega
  have HB1 := hide (HB0.out.trans (hb1.mono (by simp)))
  clear hb1
  go_wp2_with fail
  refine (spec_isClay x0 x1 x2 x3 x4 _ _ _ hs r0 r1 r2 r3 r4).mono ?_
  rintro e w2 ⟨rfl, rfl⟩
  rw [hc]
  have HB2 := hide HB1.out
  have hz2 := hz1
  go_wp2
  go_loopw [6] (fun i wr => ∃ k : Nat, k ≤ n ∧ i = .int .i64 k ∧ Hid (∀ (j : Nat) (x : Clay), j < k → zs[j]? = some x → (x.n.toList == x0.toList) = false) ∧ Hid (Below w.heap.size w wr) ∧ Hid (wr.cell? ⟨w.heap.size, 0, none⟩ = some (.string x0) ∧ wr.cell? ⟨w.heap.size, 1, none⟩ = some (.int .i64 x1) ∧ wr.cell? ⟨w.heap.size, 2, none⟩ = some (.int .i64 x2) ∧ wr.cell? ⟨w.heap.size, 3, none⟩ = some (.int .i64 x3) ∧ wr.cell? ⟨w.heap.size, 4, none⟩ = some (.int .i64 x4)) ∧ w.heap.size < wr.heap.size) (fun i _ => n - (intOf i).toNat)
  case atStart => exact ⟨0, by omega, rfl, hide (fun j x hj => absurd hj (by omega)), HB2, hide ⟨r0, r1, r2, r3, r4⟩, hz2⟩
  case round =>
    clear r0 r1 r2 r3 r4 HB2 hz2
    obtain ⟨k, hk, rfl, HS, HB, HR, hz⟩ := hrel
    obtain ⟨r0, r1, r2, r3, r4⟩ := HR.out
    by_cases hlt : k < n
    · obtain ⟨⟨y0, y1, y2, y3, y4⟩, hzk⟩ : ∃ z, zs[k]? = some z := ⟨zs[k]'(by have := HL.out; omega), List.getElem?_eq_getElem (by have := HL.out; omega)⟩
      obtain ⟨b', off', heq, hb, a0, a1, a2, a3, a4⟩ := row_at_5 (HA.out.below HB.out) hzk rfl
      cases heq
      have HZ := hide hzk
      clear hzk
      have hki : (k : Int) < (n : Int) := by omega
      by_cases he : (y0.toList == x0.toList) = true
      · have HN := hide (any_some (f := fun z : Clay => z.n.toList == x0.toList) HZ.out he)
        go_wp2
        go_quiet (fail)
        go_wp2
        go_ret2
        exact ⟨none, 0, rfl, Own.nil (Nat.le_refl _), below_drewN HB.out _⟩
      · have he' : (y0.toList == x0.toList) = false := by simpa using he
        have HS' := hide (any_more (f := fun z : Clay => z.n.toList == x0.toList) HS.out HZ.out he')
        clear he
        go_wp2
        go_quiet (fail)
        go_wp2
        go_roundw
        case rel => exact ⟨k + 1, by omega, by go_num, HS', hide (below_drewN HB.out _), HR, hz⟩
        case measure => simp [intOf]; omega
    · obtain rfl : k = n := by omega
      have HN := hide (any_none (f := fun z : Clay => z.n.toList == x0.toList) (zs := zs) (fun j x hx => HS.out j x (by have := (List.getElem?_eq_some_iff.1 hx).1; have := HL.out; omega) hx))
      exact absurd (hh.symm.trans HN.out) (by decide)
set_option maxRecDepth 100000 in
set_option maxHeartbeats 1000000 in
theorem spec_add_full (b off n c : Nat) (zs : List Clay) (x0 : ByteArray) (x1 x2 x3 x4 : Int) (w : World) (hn : n ≤ 16777216) (hnc : n ≤ c) (hl : zs.length = n) (ha : Row Clay.enc 5 w (some ⟨b, off, none⟩) zs) (hM : Names zs) (hs : x0.size ≤ maxLen) (hv : claysOk zs = true) (hc : Clay.ok ⟨x0, x1, x2, x3, x4⟩ = true) (hh : hasName zs x0 = false) (hf : ¬ n < 6) :
    Calls Tryz.prog 16 #[.slice (some ⟨b, off, none⟩) n c, .agg #[.string x0, .int .i64 x1, .int .i64 x2, .int .i64 x3, .int .i64 x4]] w fun e w' => ∃ A' c', e = .returned (.tuple #[.slice A' ([] : List Clay).length c', .int .i64 5]) ∧ Own 35 5 Clay.enc w' w.heap.size w'.heap.size A' ([] : List Clay).length c' ([] : List Clay) ∧ Below w.heap.size w w' := by
  have d6 : decide (6 ≤ (n : Int)) = true := by simp; omega
  have HA := hide ha
  have HL := hide hl
  have HM := hide hM
  have hnm : n ≤ 9223372036854775807 := by omega
  clear ha hl hM
  go_enter Tryz.func16, Tryz.ntmps16
  have HB0 := hide ((Below.refl w.heap.size w).alloc (Nat.le_refl _) (.cells #[.string x0, .int .i64 x1, .int .i64 x2, .int .i64 x3, .int .i64 x4] 35))
  go_wp2_with fail
  refine (spec_l03Ok _ _ _ zs _ hn HL.out (HA.out.below HB0.out) HM.out).mono ?_
  rintro e w1 ⟨rfl, hb1⟩
  rw [hv]
  have r0 := (hb1.cell (p := ⟨w.heap.size, 0, none⟩) (by simp)).trans (show _ = some (.string x0) from by simp [go_sem])
  have r1 := (hb1.cell (p := ⟨w.heap.size, 1, none⟩) (by simp)).trans (show _ = some (.int .i64 x1) from by simp [go_sem])
  have r2 := (hb1.cell (p := ⟨w.heap.size, 2, none⟩) (by simp)).trans (show _ = some (.int .i64 x2) from by simp [go_sem])
  have r3 := (hb1.cell (p := ⟨w.heap.size, 3, none⟩) (by simp)).trans (show _ = some (.int .i64 x3) from by simp [go_sem])
  have r4 := (hb1.cell (p := ⟨w.heap.size, 4, none⟩) (by simp)).trans (show _ = some (.int .i64 x4) from by simp [go_sem])
  have hz1 : w.heap.size < w1.heap.size := by have := hb1.size; simp at this; omega
  have HB1 := hide (HB0.out.trans (hb1.mono (by simp)))
  clear hb1
  go_wp2_with fail
  refine (spec_isClay x0 x1 x2 x3 x4 _ _ _ hs r0 r1 r2 r3 r4).mono ?_
  rintro e w2 ⟨rfl, rfl⟩
  rw [hc]
  have HB2 := hide HB1.out
  have hz2 := hz1
  go_wp2
  go_loopw [6] (fun i wr => ∃ k : Nat, k ≤ n ∧ i = .int .i64 k ∧ Hid (∀ (j : Nat) (x : Clay), j < k → zs[j]? = some x → (x.n.toList == x0.toList) = false) ∧ Hid (Below w.heap.size w wr) ∧ Hid (wr.cell? ⟨w.heap.size, 0, none⟩ = some (.string x0) ∧ wr.cell? ⟨w.heap.size, 1, none⟩ = some (.int .i64 x1) ∧ wr.cell? ⟨w.heap.size, 2, none⟩ = some (.int .i64 x2) ∧ wr.cell? ⟨w.heap.size, 3, none⟩ = some (.int .i64 x3) ∧ wr.cell? ⟨w.heap.size, 4, none⟩ = some (.int .i64 x4)) ∧ w.heap.size < wr.heap.size) (fun i _ => n - (intOf i).toNat)
  case atStart => exact ⟨0, by omega, rfl, hide (fun j x hj => absurd hj (by omega)), HB2, hide ⟨r0, r1, r2, r3, r4⟩, hz2⟩
  case round =>
    clear r0 r1 r2 r3 r4 HB2 hz2
    obtain ⟨k, hk, rfl, HS, HB, HR, hz⟩ := hrel
    obtain ⟨r0, r1, r2, r3, r4⟩ := HR.out
    by_cases hlt : k < n
    · obtain ⟨⟨y0, y1, y2, y3, y4⟩, hzk⟩ : ∃ z, zs[k]? = some z := ⟨zs[k]'(by have := HL.out; omega), List.getElem?_eq_getElem (by have := HL.out; omega)⟩
      obtain ⟨b', off', heq, hb, a0, a1, a2, a3, a4⟩ := row_at_5 (HA.out.below HB.out) hzk rfl
      cases heq
      have HZ := hide hzk
      clear hzk
      have hki : (k : Int) < (n : Int) := by omega
      by_cases he : (y0.toList == x0.toList) = true
      · have HN := hide (any_some (f := fun z : Clay => z.n.toList == x0.toList) HZ.out he)
        exact absurd (hh.symm.trans HN.out) (by decide)
      · have he' : (y0.toList == x0.toList) = false := by simpa using he
        have HS' := hide (any_more (f := fun z : Clay => z.n.toList == x0.toList) HS.out HZ.out he')
        clear he
        go_wp2
        go_quiet (fail)
        go_wp2
        go_roundw
        case rel => exact ⟨k + 1, by omega, by go_num, HS', hide (below_drewN HB.out _), HR, hz⟩
        case measure => simp [intOf]; omega
    · obtain rfl : k = n := by omega
      have HN := hide (any_none (f := fun z : Clay => z.n.toList == x0.toList) (zs := zs) (fun j x hx => HS.out j x (by have := (List.getElem?_eq_some_iff.1 hx).1; have := HL.out; omega) hx))
      go_wp2
      go_ret2
      exact ⟨none, 0, rfl, Own.nil (Nat.le_refl _), HB.out⟩
set_option maxRecDepth 100000 in
set_option maxHeartbeats 1000000 in
theorem spec_add_yes (b off n c : Nat) (zs : List Clay) (x0 : ByteArray) (x1 x2 x3 x4 : Int) (w : World) (hn : n ≤ 16777216) (hnc : n ≤ c) (hl : zs.length = n) (ha : Row Clay.enc 5 w (some ⟨b, off, none⟩) zs) (hM : Names zs) (hs : x0.size ≤ maxLen) (hv : claysOk zs = true) (hc : Clay.ok ⟨x0, x1, x2, x3, x4⟩ = true) (hh : hasName zs x0 = false) (hf : n < 6) :
    Calls Tryz.prog 16 #[.slice (some ⟨b, off, none⟩) n c, .agg #[.string x0, .int .i64 x1, .int .i64 x2, .int .i64 x3, .int .i64 x4]] w fun e w' => ∃ A' c', e = .returned (.tuple #[.slice A' (n + 1) c', .int .i64 0]) ∧ Own 35 5 Clay.enc w' w.heap.size w'.heap.size A' (n + 1) c' (zs ++ [⟨x0, x1, x2, x3, x4⟩]) ∧ Below w.heap.size w w' := by
  obtain ⟨i0, hi, hz0, hz1, hz2⟩ := info_parts info_Clay
  have HI := hide hi
  have HZ0 := hide hz0
  have HZ1 := hide hz1
  have HZ2 := hide hz2
  clear hi hz0 hz1 hz2
  have d6 : decide (6 ≤ (n : Int)) = false := by simp; omega
  have HA := hide ha
  have HL := hide hl
  have HM := hide hM
  have hnm : n ≤ 9223372036854775807 := by omega
  clear ha hl hM
  go_enter Tryz.func16, Tryz.ntmps16
  have HB0 := hide ((Below.refl w.heap.size w).alloc (Nat.le_refl _) (.cells #[.string x0, .int .i64 x1, .int .i64 x2, .int .i64 x3, .int .i64 x4] 35))
  go_wp2_with fail
  refine (spec_l03Ok _ _ _ zs _ hn HL.out (HA.out.below HB0.out) HM.out).mono ?_
  rintro e w1 ⟨rfl, hb1⟩
  rw [hv]
  have r0 := (hb1.cell (p := ⟨w.heap.size, 0, none⟩) (by simp)).trans (show _ = some (.string x0) from by simp [go_sem])
  have r1 := (hb1.cell (p := ⟨w.heap.size, 1, none⟩) (by simp)).trans (show _ = some (.int .i64 x1) from by simp [go_sem])
  have r2 := (hb1.cell (p := ⟨w.heap.size, 2, none⟩) (by simp)).trans (show _ = some (.int .i64 x2) from by simp [go_sem])
  have r3 := (hb1.cell (p := ⟨w.heap.size, 3, none⟩) (by simp)).trans (show _ = some (.int .i64 x3) from by simp [go_sem])
  have r4 := (hb1.cell (p := ⟨w.heap.size, 4, none⟩) (by simp)).trans (show _ = some (.int .i64 x4) from by simp [go_sem])
  have hz1 : w.heap.size < w1.heap.size := by have := hb1.size; simp at this; omega
  have HB1 := hide (HB0.out.trans (hb1.mono (by simp)))
  clear hb1
  go_wp2_with fail
  refine (spec_isClay x0 x1 x2 x3 x4 _ _ _ hs r0 r1 r2 r3 r4).mono ?_
  rintro e w2 ⟨rfl, rfl⟩
  rw [hc]
  have HB2 := hide HB1.out
  have hz2 := hz1
  go_wp2
  go_loopw [6] (fun i wr => ∃ k : Nat, k ≤ n ∧ i = .int .i64 k ∧ Hid (∀ (j : Nat) (x : Clay), j < k → zs[j]? = some x → (x.n.toList == x0.toList) = false) ∧ Hid (Below w.heap.size w wr) ∧ Hid (wr.cell? ⟨w.heap.size, 0, none⟩ = some (.string x0) ∧ wr.cell? ⟨w.heap.size, 1, none⟩ = some (.int .i64 x1) ∧ wr.cell? ⟨w.heap.size, 2, none⟩ = some (.int .i64 x2) ∧ wr.cell? ⟨w.heap.size, 3, none⟩ = some (.int .i64 x3) ∧ wr.cell? ⟨w.heap.size, 4, none⟩ = some (.int .i64 x4)) ∧ w.heap.size < wr.heap.size) (fun i _ => n - (intOf i).toNat)
  case atStart => exact ⟨0, by omega, rfl, hide (fun j x hj => absurd hj (by omega)), HB2, hide ⟨r0, r1, r2, r3, r4⟩, hz2⟩
  case round =>
    clear r0 r1 r2 r3 r4 HB2 hz2
    obtain ⟨k, hk, rfl, HS, HB, HR, hz⟩ := hrel
    obtain ⟨r0, r1, r2, r3, r4⟩ := HR.out
    by_cases hlt : k < n
    · obtain ⟨⟨y0, y1, y2, y3, y4⟩, hzk⟩ : ∃ z, zs[k]? = some z := ⟨zs[k]'(by have := HL.out; omega), List.getElem?_eq_getElem (by have := HL.out; omega)⟩
      obtain ⟨b', off', heq, hb, a0, a1, a2, a3, a4⟩ := row_at_5 (HA.out.below HB.out) hzk rfl
      cases heq
      have HZ := hide hzk
      clear hzk
      have hki : (k : Int) < (n : Int) := by omega
      by_cases he : (y0.toList == x0.toList) = true
      · have HN := hide (any_some (f := fun z : Clay => z.n.toList == x0.toList) HZ.out he)
        exact absurd (hh.symm.trans HN.out) (by decide)
      · have he' : (y0.toList == x0.toList) = false := by simpa using he
        have HS' := hide (any_more (f := fun z : Clay => z.n.toList == x0.toList) HS.out HZ.out he')
        clear he
        go_wp2
        go_quiet (fail)
        go_wp2
        go_roundw
        case rel => exact ⟨k + 1, by omega, by go_num, HS', hide (below_drewN HB.out _), HR, hz⟩
        case measure => simp [intOf]; omega
    · obtain rfl : k = n := by omega
      have HN := hide (any_none (f := fun z : Clay => z.n.toList == x0.toList) (zs := zs) (fun j x hx => HS.out j x (by have := (List.getElem?_eq_some_iff.1 hx).1; have := HL.out; omega) hx))
      have HO0 := hide (own_empty wr w.heap.size 5 35 HB.out.size)
      have HBB := hide (HB.out.alloc HB.out.size (.cells #[] 35))
      have hrn := row_news (k := 5) (fun _ => rfl) (by omega) (HA.out.below HBB.out)
      have HRN := hide hrn
      clear hrn
      have hfl := flat_length (enc := Clay.enc) (k := 5) (fun _ => rfl) zs
      rw [HL.out] at hfl
      have HF := hide hfl
      clear hfl
      go_wp2_with (first
        | (at_builtin
           refine wpList_append_own _ rfl _ _ 24 rfl w.heap.size 35 i0 _ 5 48 Tryz.underlying24 HI.out HZ0.out HZ1.out HZ2.out rfl (by decide) _ _ _ rfl HO0.out ⟨b, off, none⟩ k c (flat Clay.enc zs) rfl HF.out HRN.out clay_oneCell (by unfold maxLen; omega) (by omega) (by have := HB.out.size; simp; omega) ?_
           intro v1 u1 hown1 hgrow1 hnil1
           rw [Nat.zero_add, List.nil_append] at hown1
           have s0 := far_cell hz hgrow1 r0
           have s1 := far_cell hz hgrow1 r1
           have s2 := far_cell hz hgrow1 r2
           have s3 := far_cell hz hgrow1 r3
           have s4 := far_cell hz hgrow1 r4
           have HBu := hide (grown_new HB.out hgrow1)
           have HO1 := hide hown1
           clear hown1 hgrow1 hnil1)
        | (at_builtin
           refine wpList_append_own _ rfl _ _ 24 rfl w.heap.size 35 i0 _ 5 48 Tryz.underlying24 HI.out HZ0.out HZ1.out HZ2.out rfl (by decide) _ _ _ rfl (HO1.out.alloc _) ⟨_, 0, none⟩ 1 1 [Value.string x0, .int .i64 x1, .int .i64 x2, .int .i64 x3, .int .i64 x4] rfl rfl (clay_new_at _ _ _ _ _ _ _ _ rfl) clay_one (by unfold maxLen; omega) (by omega) (by have := HBu.out.size; simp; omega) ?_
           intro v2 u2 hown2 hgrow2 hnil2
           have HB2 := hide (below_push HBu.out HO1.out hgrow2)
           have HO2 := hide (own_push_clay hown2)
           clear hown2 hgrow2 hnil2))
      obtain ⟨A', c', rfl, ho⟩ := Own.of_row (xs := zs ++ [⟨x0, x1, x2, x3, x4⟩]) (by rw [List.length_append, HL.out]; rfl) HO2.out HB2.out.size
      have HO3 := hide ho
      clear ho
      go_wp2
      go_ret2
      exact ⟨A', c', rfl, HO3.out, HB2.out⟩
end Go.Proofs.YtfjdhjbfingofaaGreatDoor
