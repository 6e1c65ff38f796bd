/-
  What is proved: a format and a mould read off texts by the reference. Condition: a length that fits.
-/
import Derived.Test.YtjoepnmmcagggaaDoorReadFI
namespace Go.Proofs.YtjoepnmmcagggaaDoor
open Go.RowKit Go.PlainAid
set_option linter.unusedVariables false

theorem num_false {x : List UInt8} (h : numB (ba x) = false) : numL x = none := by
  unfold numB at h
  rw [ba_data] at h
  cases hx : numL x with
  | none => rfl
  | some v => rw [hx] at h; cases h
theorem num_true {x : List UInt8} {v : Int} (h : numB (ba x) = true) (hv : numV (ba x) = v) : numL x = some v := by
  unfold numB at h
  unfold numV at hv
  rw [ba_data] at h hv
  cases hx : numL x with
  | none => rw [hx] at h; cases h
  | some u => rw [hx] at hv; rw [← hv]; rfl
theorem numV_I64 {x : List UInt8} : I64 (numV (ba x)) := by
  unfold numV
  rw [ba_data]
  cases hx : numL x with
  | none => unfold I64; simp
  | some u =>
    have := (num_iff.1 hx).2
    unfold Small at this
    unfold I64
    simp
    omega
theorem fmt_val {x y z b : List UInt8} {p q r j : Int} (h1 : numL x = some p) (h2 : numL y = some q) (h3 : numL z = some r) (h4 : numL b = some j) (h : fmtB p q r j = false) : ∀ p q r j, numL x = some p → numL y = some q → numL z = some r → numL b = some j → fmtB p q r j = false := by
  intro p' q' r' j' e1 e2 e3 e4
  rw [h1] at e1; rw [h2] at e2; rw [h3] at e3; rw [h4] at e4
  cases e1; cases e2; cases e3; cases e4
  exact h
theorem mld_val {x y z b : List UInt8} {p q r j : Int} (h1 : numL x = some p) (h2 : numL y = some q) (h3 : numL z = some r) (h4 : numL b = some j) (h : mldB p q r j = false) : ∀ p q r j, numL x = some p → numL y = some q → numL z = some r → numL b = some j → mldB p q r j = false := by
  intro p' q' r' j' e1 e2 e3 e4
  rw [h1] at e1; rw [h2] at e2; rw [h3] at e3; rw [h4] at e4
  cases e1; cases e2; cases e3; cases e4
  exact h
theorem splB_of {c : UInt8} {s : ByteArray} {xs : List (List UInt8)} (h : spl c s.data.toList = xs) : splB c s = xs.map ba := by
  unfold splB
  rw [h]
set_option maxRecDepth 100000 in
set_option maxHeartbeats 2000000 in
theorem spec_readFormat_count (s : ByteArray) (w : World) (hs : s.size ≤ 1048576) (h : (spl 43 s.data.toList).length ≠ 2) :
    Calls Tryd.prog 35 #[.string s] w (QuadPost (fmtL s.data.toList) w) := by
  have HN := hide (fmt_no2 h)
  obtain ⟨n, hn⟩ : ∃ n, (splB 43 s).length = n := ⟨_, rfl⟩
  have hn' : n ≠ 2 := by rw [← hn]; unfold splB; rw [List.length_map]; exact h
  have hd : ((n : Int) != 2) = true := by simp; omega
  have hd2 : ((n : Int) == 2) = false := by rw [beq_eq_false_iff_ne]; omega
  have HL := hide hn
  clear h hn
  have HB0 := hide ((Below.refl w.heap.size w).alloc (Nat.le_refl _) (.cells #[.int .i64 0, .int .i64 0, .int .i64 0, .int .i64 0] 34))
  go_enter Tryd.func35, Tryd.ntmps35
  go_wp2_with fail
  refine (spec_l01Split s 43 43 _ rfl (by omega)).mono ?_
  rintro e w1 ⟨A1, c1, rfl, ho, hb⟩
  rw [HL.out]
  have r0 := (hb.cell (p := ⟨w.heap.size, 0, none⟩) (by simp)).trans (show _ = some (.int .i64 0) from by simp [go_sem])
  have x0 := ((bcell hb).2 w.heap.size 0 (by simp)).trans (show _ = false from by simp [go_sem])
  have r1 := (hb.cell (p := ⟨w.heap.size, 1, none⟩) (by simp)).trans (show _ = some (.int .i64 0) from by simp [go_sem])
  have x1 := ((bcell hb).2 w.heap.size 1 (by simp)).trans (show _ = false from by simp [go_sem])
  have r2 := (hb.cell (p := ⟨w.heap.size, 2, none⟩) (by simp)).trans (show _ = some (.int .i64 0) from by simp [go_sem])
  have x2 := ((bcell hb).2 w.heap.size 2 (by simp)).trans (show _ = false from by simp [go_sem])
  have r3 := (hb.cell (p := ⟨w.heap.size, 3, none⟩) (by simp)).trans (show _ = some (.int .i64 0) from by simp [go_sem])
  have x3 := ((bcell hb).2 w.heap.size 3 (by simp)).trans (show _ = false from by simp [go_sem])
  have hz : w.heap.size < w1.heap.size := by have := hb.size; simp at this; omega
  have HB1 := hide (HB0.out.trans (hb.mono (by simp)))
  clear hb ho
  go_wp2
  refine bodyPost_ret (v := .tuple #[.agg #[.int .i64 0, .int .i64 0, .int .i64 0, .int .i64 0], .bool false]) ?_ rfl (quad_no HN.out rfl ?_)
  · simp [results, Tryd.results35, go_sem, r0, r1, r2, r3]
  · have BX := HB1.out
    go_grown
set_option maxRecDepth 100000 in
set_option maxHeartbeats 2000000 in
theorem spec_readFormat_sizes (s : ByteArray) (w : World) (hs : s.size ≤ 1048576) (a b : List UInt8) (h : spl 43 s.data.toList = [a, b]) (h3 : (spl 120 a).length ≠ 3) :
    Calls Tryd.prog 35 #[.string s] w (QuadPost (fmtL s.data.toList) w) := by
  have HN := hide (fmt_no3 h h3)
  obtain ⟨n, hn⟩ : ∃ n, (splB 120 (ba a)).length = n := ⟨_, rfl⟩
  have hn' : n ≠ 3 := by rw [← hn]; unfold splB; rw [List.length_map, ba_data]; exact h3
  have hd3 : ((n : Int) != 3) = true := by simp; omega
  have hd4 : ((n : Int) == 3) = false := by rw [beq_eq_false_iff_ne]; omega
  have HL3 := hide hn
  have HB0 := hide ((Below.refl w.heap.size w).alloc (Nat.le_refl _) (.cells #[.int .i64 0, .int .i64 0, .int .i64 0, .int .i64 0] 34))
  have HL := hide (splB_of h)
  have haz : (ba a).size ≤ 1048576 := by
    have := spl_size (c := 43) (l := s.data.toList) (p := a) (by rw [h]; simp)
    rw [ba_size']
    simp at this
    omega
  have hbz : (ba b).size ≤ 1048576 := by
    have := spl_size (c := 43) (l := s.data.toList) (p := b) (by rw [h]; simp)
    rw [ba_size']
    simp at this
    omega
  clear h h3 hn
  go_enter Tryd.func35, Tryd.ntmps35
  go_wp2_with fail
  refine (spec_l01Split s 43 43 _ rfl (by omega)).mono ?_
  rintro e w1 ⟨A1, c1, rfl, ho, hb⟩
  rw [HL.out] at ho ⊢
  have r0 := (hb.cell (p := ⟨w.heap.size, 0, none⟩) (by simp)).trans (show _ = some (.int .i64 0) from by simp [go_sem])
  have x0 := ((bcell hb).2 w.heap.size 0 (by simp)).trans (show _ = false from by simp [go_sem])
  have r1 := (hb.cell (p := ⟨w.heap.size, 1, none⟩) (by simp)).trans (show _ = some (.int .i64 0) from by simp [go_sem])
  have x1 := ((bcell hb).2 w.heap.size 1 (by simp)).trans (show _ = false from by simp [go_sem])
  have r2 := (hb.cell (p := ⟨w.heap.size, 2, none⟩) (by simp)).trans (show _ = some (.int .i64 0) from by simp [go_sem])
  have x2 := ((bcell hb).2 w.heap.size 2 (by simp)).trans (show _ = false from by simp [go_sem])
  have r3 := (hb.cell (p := ⟨w.heap.size, 3, none⟩) (by simp)).trans (show _ = some (.int .i64 0) from by simp [go_sem])
  have x3 := ((bcell hb).2 w.heap.size 3 (by simp)).trans (show _ = false from by simp [go_sem])
  have hz : w.heap.size < w1.heap.size := by have := hb.size; simp at this; omega
  have HB1 := hide (HB0.out.trans (hb.mono (by simp)))
  have hrow := ho.row (k := 1) (enc := encS) (fun _ => rfl)
  obtain ⟨g1, off1, rfl, hg1, a0⟩ := row_at_1 (i := 0) hrow rfl rfl
  obtain ⟨g', off', e', -, a1⟩ := row_at_1 (i := 1) hrow rfl rfl
  obtain ⟨rfl, rfl⟩ : g1 = g' ∧ off1 = off' := by injection e' with e'; injection e' with e1 e2 e3; exact ⟨e1, e2⟩
  clear e'
  rw [Nat.add_zero] at a0
  clear hb ho hrow
  go_wp2_with fail
  refine (spec_l01Split (ba a) 120 120 _ rfl (by omega)).mono ?_
  rintro e w2 ⟨A2, c2, rfl, ho, hb⟩
  rw [HL3.out]
  replace r0 := (hb.cell (p := ⟨w.heap.size, 0, none⟩) hz).trans r0
  replace x0 := ((bcell hb).2 w.heap.size 0 hz).trans x0
  replace r1 := (hb.cell (p := ⟨w.heap.size, 1, none⟩) hz).trans r1
  replace x1 := ((bcell hb).2 w.heap.size 1 hz).trans x1
  replace r2 := (hb.cell (p := ⟨w.heap.size, 2, none⟩) hz).trans r2
  replace x2 := ((bcell hb).2 w.heap.size 2 hz).trans x2
  replace r3 := (hb.cell (p := ⟨w.heap.size, 3, none⟩) hz).trans r3
  replace x3 := ((bcell hb).2 w.heap.size 3 hz).trans x3
  have HB2 := hide (HB1.out.trans (hb.mono HB1.out.size))
  clear hb ho
  go_wp2
  refine bodyPost_ret (v := .tuple #[.agg #[.int .i64 0, .int .i64 0, .int .i64 0, .int .i64 0], .bool false]) ?_ rfl (quad_no HN.out rfl ?_)
  · simp [results, Tryd.results35, go_sem, r0, r1, r2, r3]
  · have BX := HB2.out
    go_grown
set_option maxRecDepth 100000 in
set_option maxHeartbeats 4000000 in
theorem spec_readFormat_nums (s : ByteArray) (w : World) (hs : s.size ≤ 1048576) (a b x y z : List UInt8) (h : spl 43 s.data.toList = [a, b]) (h3 : spl 120 a = [x, y, z]) :
    Calls Tryd.prog 35 #[.string s] w (QuadPost (fmtL s.data.toList) w) := by
  have HS := hide h
  have HS3 := hide h3
  have HL3 := hide (splB_of (c := 120) (s := ba a) (xs := [x, y, z]) (by rw [ba_data]; exact h3))
  have HB0 := hide ((Below.refl w.heap.size w).alloc (Nat.le_refl _) (.cells #[.int .i64 0, .int .i64 0, .int .i64 0, .int .i64 0] 34))
  have HL := hide (splB_of h)
  have haz : (ba a).size ≤ 1048576 := by
    have := spl_size (c := 43) (l := s.data.toList) (p := a) (by rw [h]; simp)
    rw [ba_size']
    simp at this
    omega
  have hbz : (ba b).size ≤ 1048576 := by
    have := spl_size (c := 43) (l := s.data.toList) (p := b) (by rw [h]; simp)
    rw [ba_size']
    simp at this
    omega
  have hxz : (ba x).size ≤ 1048576 := by
    have := spl_size (c := 120) (l := a) (p := x) (by rw [h3]; simp)
    rw [ba_size'] at haz ⊢
    omega
  have hyz : (ba y).size ≤ 1048576 := by
    have := spl_size (c := 120) (l := a) (p := y) (by rw [h3]; simp)
    rw [ba_size'] at haz ⊢
    omega
  have hzz : (ba z).size ≤ 1048576 := by
    have := spl_size (c := 120) (l := a) (p := z) (by rw [h3]; simp)
    rw [ba_size'] at haz ⊢
    omega
  clear h h3
  go_enter Tryd.func35, Tryd.ntmps35
  go_wp2_with fail
  refine (spec_l01Split s 43 43 _ rfl (by omega)).mono ?_
  rintro e w1 ⟨A1, c1, rfl, ho, hb⟩
  rw [HL.out] at ho ⊢
  have r0 := (hb.cell (p := ⟨w.heap.size, 0, none⟩) (by simp)).trans (show _ = some (.int .i64 0) from by simp [go_sem])
  have x0 := ((bcell hb).2 w.heap.size 0 (by simp)).trans (show _ = false from by simp [go_sem])
  have r1 := (hb.cell (p := ⟨w.heap.size, 1, none⟩) (by simp)).trans (show _ = some (.int .i64 0) from by simp [go_sem])
  have x1 := ((bcell hb).2 w.heap.size 1 (by simp)).trans (show _ = false from by simp [go_sem])
  have r2 := (hb.cell (p := ⟨w.heap.size, 2, none⟩) (by simp)).trans (show _ = some (.int .i64 0) from by simp [go_sem])
  have x2 := ((bcell hb).2 w.heap.size 2 (by simp)).trans (show _ = false from by simp [go_sem])
  have r3 := (hb.cell (p := ⟨w.heap.size, 3, none⟩) (by simp)).trans (show _ = some (.int .i64 0) from by simp [go_sem])
  have x3 := ((bcell hb).2 w.heap.size 3 (by simp)).trans (show _ = false from by simp [go_sem])
  have hz : w.heap.size < w1.heap.size := by have := hb.size; simp at this; omega
  have HB1 := hide (HB0.out.trans (hb.mono (by simp)))
  have hrow := ho.row (k := 1) (enc := encS) (fun _ => rfl)
  obtain ⟨g1, off1, rfl, hg1, a0⟩ := row_at_1 (i := 0) hrow rfl rfl
  obtain ⟨g', off', e', -, a1⟩ := row_at_1 (i := 1) hrow rfl rfl
  obtain ⟨rfl, rfl⟩ : g1 = g' ∧ off1 = off' := by injection e' with e'; injection e' with e1 e2 e3; exact ⟨e1, e2⟩
  clear e'
  rw [Nat.add_zero] at a0
  clear hb ho hrow
  have a1b := a1
  go_wp2_with fail
  refine (spec_l01Split (ba a) 120 120 _ rfl (by omega)).mono ?_
  rintro e w2 ⟨A2, c2, rfl, ho, hb⟩
  rw [HL3.out] at ho ⊢
  replace r0 := (hb.cell (p := ⟨w.heap.size, 0, none⟩) hz).trans r0
  replace x0 := ((bcell hb).2 w.heap.size 0 hz).trans x0
  replace r1 := (hb.cell (p := ⟨w.heap.size, 1, none⟩) hz).trans r1
  replace x1 := ((bcell hb).2 w.heap.size 1 hz).trans x1
  replace r2 := (hb.cell (p := ⟨w.heap.size, 2, none⟩) hz).trans r2
  replace x2 := ((bcell hb).2 w.heap.size 2 hz).trans x2
  replace r3 := (hb.cell (p := ⟨w.heap.size, 3, none⟩) hz).trans r3
  replace x3 := ((bcell hb).2 w.heap.size 3 hz).trans x3
  have b3 := (hb.cell (p := ⟨g1, off1 + 1, none⟩) hg1).trans a1b
  have hg1b : g1 < w2.heap.size := Nat.lt_of_lt_of_le hg1 hb.size
  replace hz : w.heap.size < w2.heap.size := Nat.lt_of_lt_of_le hz hb.size
  have HB2 := hide (HB1.out.trans (hb.mono HB1.out.size))
  have hrow := ho.row (k := 1) (enc := encS) (fun _ => rfl)
  obtain ⟨g2, off2, rfl, hg2, b0⟩ := row_at_1 (i := 0) hrow rfl rfl
  obtain ⟨g', off', e', -, b1⟩ := row_at_1 (i := 1) hrow rfl rfl
  obtain ⟨rfl, rfl⟩ : g2 = g' ∧ off2 = off' := by injection e' with e'; injection e' with e1 e2 e3; exact ⟨e1, e2⟩
  clear e'
  obtain ⟨g', off', e', -, b2⟩ := row_at_1 (i := 2) hrow rfl rfl
  obtain ⟨rfl, rfl⟩ : g2 = g' ∧ off2 = off' := by injection e' with e'; injection e' with e1 e2 e3; exact ⟨e1, e2⟩
  clear e'
  rw [Nat.add_zero] at b0
  clear hb ho hrow a0 a1b a1
  obtain ⟨v0, hv0⟩ : ∃ v, numV (ba x) = v := ⟨_, rfl⟩
  obtain ⟨o0, ho0⟩ : ∃ o, numB (ba x) = o := ⟨_, rfl⟩
  have HV0 := hide hv0
  have HO0 := hide ho0
  have hi0 : I64 v0 := by rw [← hv0]; exact numV_I64
  clear hv0 ho0
  obtain ⟨v1, hv1⟩ : ∃ v, numV (ba y) = v := ⟨_, rfl⟩
  obtain ⟨o1, ho1⟩ : ∃ o, numB (ba y) = o := ⟨_, rfl⟩
  have HV1 := hide hv1
  have HO1 := hide ho1
  have hi1 : I64 v1 := by rw [← hv1]; exact numV_I64
  clear hv1 ho1
  obtain ⟨v2, hv2⟩ : ∃ v, numV (ba z) = v := ⟨_, rfl⟩
  obtain ⟨o2, ho2⟩ : ∃ o, numB (ba z) = o := ⟨_, rfl⟩
  have HV2 := hide hv2
  have HO2 := hide ho2
  have hi2 : I64 v2 := by rw [← hv2]; exact numV_I64
  clear hv2 ho2
  obtain ⟨v3, hv3⟩ : ∃ v, numV (ba b) = v := ⟨_, rfl⟩
  obtain ⟨o3, ho3⟩ : ∃ o, numB (ba b) = o := ⟨_, rfl⟩
  have HV3 := hide hv3
  have HO3 := hide ho3
  have hi3 : I64 v3 := by rw [← hv3]; exact numV_I64
  clear hv3 ho3
  go_wp2_with fail
  refine (spec_num (ba x) _ (by omega)).mono ?_
  rintro e w3 ⟨rfl, hb⟩
  rw [HV0.out, HO0.out]
  replace r0 := (hb.cell (p := ⟨w.heap.size, 0, none⟩) hz).trans r0
  replace x0 := ((bcell hb).2 w.heap.size 0 hz).trans x0
  replace r1 := (hb.cell (p := ⟨w.heap.size, 1, none⟩) hz).trans r1
  replace x1 := ((bcell hb).2 w.heap.size 1 hz).trans x1
  replace r2 := (hb.cell (p := ⟨w.heap.size, 2, none⟩) hz).trans r2
  replace x2 := ((bcell hb).2 w.heap.size 2 hz).trans x2
  replace r3 := (hb.cell (p := ⟨w.heap.size, 3, none⟩) hz).trans r3
  replace x3 := ((bcell hb).2 w.heap.size 3 hz).trans x3
  replace b1 := (hb.cell (p := ⟨g2, off2 + 1, none⟩) hg2).trans b1
  replace b2 := (hb.cell (p := ⟨g2, off2 + 2, none⟩) hg2).trans b2
  replace b3 := (hb.cell (p := ⟨g1, off1 + 1, none⟩) hg1b).trans b3
  replace hg2 := Nat.lt_of_lt_of_le hg2 hb.size
  replace hg1b := Nat.lt_of_lt_of_le hg1b hb.size
  replace hz : w.heap.size < w3.heap.size := Nat.lt_of_lt_of_le hz hb.size
  have HB3 := hide (HB2.out.trans (hb.mono HB2.out.size))
  clear hb b0
  go_wp2_with fail
  refine (spec_num (ba y) _ (by omega)).mono ?_
  rintro e w4 ⟨rfl, hb⟩
  rw [HV1.out, HO1.out]
  replace r0 := (hb.cell (p := ⟨w.heap.size, 0, none⟩) hz).trans r0
  replace x0 := ((bcell hb).2 w.heap.size 0 hz).trans x0
  replace r1 := (hb.cell (p := ⟨w.heap.size, 1, none⟩) hz).trans r1
  replace x1 := ((bcell hb).2 w.heap.size 1 hz).trans x1
  replace r2 := (hb.cell (p := ⟨w.heap.size, 2, none⟩) hz).trans r2
  replace x2 := ((bcell hb).2 w.heap.size 2 hz).trans x2
  replace r3 := (hb.cell (p := ⟨w.heap.size, 3, none⟩) hz).trans r3
  replace x3 := ((bcell hb).2 w.heap.size 3 hz).trans x3
  replace b2 := (hb.cell (p := ⟨g2, off2 + 2, none⟩) hg2).trans b2
  replace b3 := (hb.cell (p := ⟨g1, off1 + 1, none⟩) hg1b).trans b3
  replace hg2 := Nat.lt_of_lt_of_le hg2 hb.size
  replace hg1b := Nat.lt_of_lt_of_le hg1b hb.size
  replace hz : w.heap.size < w4.heap.size := Nat.lt_of_lt_of_le hz hb.size
  have HB4 := hide (HB3.out.trans (hb.mono HB3.out.size))
  clear hb b1
  go_wp2_with fail
  refine (spec_num (ba z) _ (by omega)).mono ?_
  rintro e w5 ⟨rfl, hb⟩
  rw [HV2.out, HO2.out]
  replace r0 := (hb.cell (p := ⟨w.heap.size, 0, none⟩) hz).trans r0
  replace x0 := ((bcell hb).2 w.heap.size 0 hz).trans x0
  replace r1 := (hb.cell (p := ⟨w.heap.size, 1, none⟩) hz).trans r1
  replace x1 := ((bcell hb).2 w.heap.size 1 hz).trans x1
  replace r2 := (hb.cell (p := ⟨w.heap.size, 2, none⟩) hz).trans r2
  replace x2 := ((bcell hb).2 w.heap.size 2 hz).trans x2
  replace r3 := (hb.cell (p := ⟨w.heap.size, 3, none⟩) hz).trans r3
  replace x3 := ((bcell hb).2 w.heap.size 3 hz).trans x3
  replace b3 := (hb.cell (p := ⟨g1, off1 + 1, none⟩) hg1b).trans b3
  replace hg2 := Nat.lt_of_lt_of_le hg2 hb.size
  replace hg1b := Nat.lt_of_lt_of_le hg1b hb.size
  replace hz : w.heap.size < w5.heap.size := Nat.lt_of_lt_of_le hz hb.size
  have HB5 := hide (HB4.out.trans (hb.mono HB4.out.size))
  clear hb b2
  go_wp2_with fail
  refine (spec_num (ba b) _ (by omega)).mono ?_
  rintro e w6 ⟨rfl, hb⟩
  rw [HV3.out, HO3.out]
  replace r0 := (hb.cell (p := ⟨w.heap.size, 0, none⟩) hz).trans r0
  replace x0 := ((bcell hb).2 w.heap.size 0 hz).trans x0
  replace r1 := (hb.cell (p := ⟨w.heap.size, 1, none⟩) hz).trans r1
  replace x1 := ((bcell hb).2 w.heap.size 1 hz).trans x1
  replace r2 := (hb.cell (p := ⟨w.heap.size, 2, none⟩) hz).trans r2
  replace x2 := ((bcell hb).2 w.heap.size 2 hz).trans x2
  replace r3 := (hb.cell (p := ⟨w.heap.size, 3, none⟩) hz).trans r3
  replace x3 := ((bcell hb).2 w.heap.size 3 hz).trans x3
  replace b3 := (hb.cell (p := ⟨g1, off1 + 1, none⟩) hg1b).trans b3
  replace hg2 := Nat.lt_of_lt_of_le hg2 hb.size
  replace hg1b := Nat.lt_of_lt_of_le hg1b hb.size
  replace hz : w.heap.size < w6.heap.size := Nat.lt_of_lt_of_le hz hb.size
  have HB6 := hide (HB5.out.trans (hb.mono HB5.out.size))
  clear hb b3
  have hwt : w.heap.size ≠ w6.heap.size := by omega
  cases o0
  · have HN := hide (fmt_no HS.out HS3.out (.inl (num_false HO0.out)))
    go_wp2
    refine bodyPost_ret (v := .tuple #[.agg #[.int .i64 0, .int .i64 0, .int .i64 0, .int .i64 0], .bool false]) ?_ rfl (quad_no HN.out rfl ?_)
    · simp [results, Tryd.results35, go_sem, hz, r0, r1, r2, r3]
    · have BX := HB6.out
      go_grown
  cases o1
  · have HN := hide (fmt_no HS.out HS3.out (.inr (.inl (num_false HO1.out))))
    go_wp2
    refine bodyPost_ret (v := .tuple #[.agg #[.int .i64 0, .int .i64 0, .int .i64 0, .int .i64 0], .bool false]) ?_ rfl (quad_no HN.out rfl ?_)
    · simp [results, Tryd.results35, go_sem, hz, r0, r1, r2, r3]
    · have BX := HB6.out
      go_grown
  cases o2
  · have HN := hide (fmt_no HS.out HS3.out (.inr (.inr (.inl (num_false HO2.out)))))
    go_wp2
    refine bodyPost_ret (v := .tuple #[.agg #[.int .i64 0, .int .i64 0, .int .i64 0, .int .i64 0], .bool false]) ?_ rfl (quad_no HN.out rfl ?_)
    · simp [results, Tryd.results35, go_sem, hz, r0, r1, r2, r3]
    · have BX := HB6.out
      go_grown
  cases o3
  · have HN := hide (fmt_no HS.out HS3.out (.inr (.inr (.inr (.inl (num_false HO3.out))))))
    go_wp2
    refine bodyPost_ret (v := .tuple #[.agg #[.int .i64 0, .int .i64 0, .int .i64 0, .int .i64 0], .bool false]) ?_ rfl (quad_no HN.out rfl ?_)
    · simp [results, Tryd.results35, go_sem, hz, r0, r1, r2, r3]
    · have BX := HB6.out
      go_grown
  have N0 := hide (num_true HO0.out HV0.out)
  have N1 := hide (num_true HO1.out HV1.out)
  have N2 := hide (num_true HO2.out HV2.out)
  have N3 := hide (num_true HO3.out HV3.out)
  have f0 : (w6.alloc (.cells #[.int .i64 v0, .int .i64 v1, .int .i64 v2, .int .i64 v3] 34)).cell? ⟨w6.heap.size, 0, none⟩ = some (.int .i64 v0) := by simp [go_sem]
  have f1 : (w6.alloc (.cells #[.int .i64 v0, .int .i64 v1, .int .i64 v2, .int .i64 v3] 34)).cell? ⟨w6.heap.size, 1, none⟩ = some (.int .i64 v1) := by simp [go_sem]
  have f2 : (w6.alloc (.cells #[.int .i64 v0, .int .i64 v1, .int .i64 v2, .int .i64 v3] 34)).cell? ⟨w6.heap.size, 2, none⟩ = some (.int .i64 v2) := by simp [go_sem]
  have f3 : (w6.alloc (.cells #[.int .i64 v0, .int .i64 v1, .int .i64 v2, .int .i64 v3] 34)).cell? ⟨w6.heap.size, 3, none⟩ = some (.int .i64 v3) := by simp [go_sem]
  go_wp2_with fail
  refine (spec_l02Ok v0 v1 v2 v3 _).mono ?_
  rintro e w8 ⟨rfl, hb⟩
  replace f0 := (hb.cell (p := ⟨w6.heap.size, 0, none⟩) (by simp)).trans (show _ = some (.int .i64 v0) from by simp [go_sem])
  replace r0 := (hb.cell (p := ⟨w.heap.size, 0, none⟩) (by simp; omega)).trans (show _ = some (.int .i64 0) from by simp [go_sem, hz, r0])
  replace x0 := ((bcell hb).2 w.heap.size 0 (by simp; omega)).trans (show _ = false from by simp [go_sem, hz, x0])
  replace f1 := (hb.cell (p := ⟨w6.heap.size, 1, none⟩) (by simp)).trans (show _ = some (.int .i64 v1) from by simp [go_sem])
  replace r1 := (hb.cell (p := ⟨w.heap.size, 1, none⟩) (by simp; omega)).trans (show _ = some (.int .i64 0) from by simp [go_sem, hz, r1])
  replace x1 := ((bcell hb).2 w.heap.size 1 (by simp; omega)).trans (show _ = false from by simp [go_sem, hz, x1])
  replace f2 := (hb.cell (p := ⟨w6.heap.size, 2, none⟩) (by simp)).trans (show _ = some (.int .i64 v2) from by simp [go_sem])
  replace r2 := (hb.cell (p := ⟨w.heap.size, 2, none⟩) (by simp; omega)).trans (show _ = some (.int .i64 0) from by simp [go_sem, hz, r2])
  replace x2 := ((bcell hb).2 w.heap.size 2 (by simp; omega)).trans (show _ = false from by simp [go_sem, hz, x2])
  replace f3 := (hb.cell (p := ⟨w6.heap.size, 3, none⟩) (by simp)).trans (show _ = some (.int .i64 v3) from by simp [go_sem])
  replace r3 := (hb.cell (p := ⟨w.heap.size, 3, none⟩) (by simp; omega)).trans (show _ = some (.int .i64 0) from by simp [go_sem, hz, r3])
  replace x3 := ((bcell hb).2 w.heap.size 3 (by simp; omega)).trans (show _ = false from by simp [go_sem, hz, x3])
  have HB8 := hide (show Below w.heap.size w w8 from by
    refine Below.trans ?_ (hb.mono (by simp; omega))
    have BX := HB6.out
    go_grown)
  have hz8 : w6.heap.size < w8.heap.size := by have := hb.size; simp at this; omega
  clear hb
  replace hz : w.heap.size < w8.heap.size := by omega
  cases hq : fmtB v0 v1 v2 v3
  · have HN := hide (fmt_no HS.out HS3.out (.inr (.inr (.inr (.inr (fmt_val N0.out N1.out N2.out N3.out hq))))))
    clear hq
    go_wp2
    refine bodyPost_ret (v := .tuple #[.agg #[.int .i64 0, .int .i64 0, .int .i64 0, .int .i64 0], .bool false]) ?_ rfl (quad_no HN.out rfl ?_)
    · simp [results, Tryd.results35, go_sem, r0, r1, r2, r3]
    · have BX := HB8.out
      go_grown
  · have HN := hide (fmt_yes HS.out HS3.out N0.out N1.out N2.out N3.out hq)
    clear hq
    go_wp2
    refine bodyPost_ret (v := .tuple #[.agg #[.int .i64 v0, .int .i64 v1, .int .i64 v2, .int .i64 v3], .bool true]) ?_ rfl (quad_yes HN.out rfl ?_)
    · simp [results, Tryd.results35, go_sem, r0, r1, r2, r3]
    · have BX := HB8.out
      go_grown
theorem spec_readFormat (s : ByteArray) (w : World) (hs : s.size ≤ 1048576) :
    Calls Tryd.prog 35 #[.string s] w (QuadPost (fmtL s.data.toList) w) := by
  by_cases h : (spl 43 s.data.toList).length = 2
  · obtain ⟨a, b, hab⟩ : ∃ a b, spl 43 s.data.toList = [a, b] := by
      match spl 43 s.data.toList, h with
      | [a, b], _ => exact ⟨a, b, rfl⟩
    by_cases h3 : (spl 120 a).length = 3
    · obtain ⟨x, y, z, hxyz⟩ : ∃ x y z, spl 120 a = [x, y, z] := by
        match spl 120 a, h3 with
        | [x, y, z], _ => exact ⟨x, y, z, rfl⟩
      exact spec_readFormat_nums s w hs a b x y z hab hxyz
    · exact spec_readFormat_sizes s w hs a b hab h3
  · exact spec_readFormat_count s w hs h
set_option maxRecDepth 100000 in
set_option maxHeartbeats 2000000 in
theorem spec_readMould_count (s : ByteArray) (w : World) (hs : s.size ≤ 1048576) (h : (spl 32 s.data.toList).length ≠ 3) :
    Calls Tryd.prog 38 #[.string s] w (QuadPost (mldL s.data.toList) w) := by
  have HN := hide (mld_no3 h)
  obtain ⟨n, hn⟩ : ∃ n, (splB 32 s).length = n := ⟨_, rfl⟩
  have hn' : n ≠ 3 := by rw [← hn]; unfold splB; rw [List.length_map]; exact h
  have hd : ((n : Int) != 3) = true := by simp; omega
  have hd2 : ((n : Int) == 3) = false := by rw [beq_eq_false_iff_ne]; omega
  have HL := hide hn
  clear h hn
  have HB0 := hide ((Below.refl w.heap.size w).alloc (Nat.le_refl _) (.cells #[.int .i64 0, .int .i64 0, .int .i64 0, .int .i64 0] 40))
  go_enter Tryd.func38, Tryd.ntmps38
  go_wp2_with fail
  refine (spec_l01Split s 32 32 _ rfl (by omega)).mono ?_
  rintro e w1 ⟨A1, c1, rfl, ho, hb⟩
  rw [HL.out]
  have r0 := (hb.cell (p := ⟨w.heap.size, 0, none⟩) (by simp)).trans (show _ = some (.int .i64 0) from by simp [go_sem])
  have x0 := ((bcell hb).2 w.heap.size 0 (by simp)).trans (show _ = false from by simp [go_sem])
  have r1 := (hb.cell (p := ⟨w.heap.size, 1, none⟩) (by simp)).trans (show _ = some (.int .i64 0) from by simp [go_sem])
  have x1 := ((bcell hb).2 w.heap.size 1 (by simp)).trans (show _ = false from by simp [go_sem])
  have r2 := (hb.cell (p := ⟨w.heap.size, 2, none⟩) (by simp)).trans (show _ = some (.int .i64 0) from by simp [go_sem])
  have x2 := ((bcell hb).2 w.heap.size 2 (by simp)).trans (show _ = false from by simp [go_sem])
  have r3 := (hb.cell (p := ⟨w.heap.size, 3, none⟩) (by simp)).trans (show _ = some (.int .i64 0) from by simp [go_sem])
  have x3 := ((bcell hb).2 w.heap.size 3 (by simp)).trans (show _ = false from by simp [go_sem])
  have hz : w.heap.size < w1.heap.size := by have := hb.size; simp at this; omega
  have HB1 := hide (HB0.out.trans (hb.mono (by simp)))
  clear hb ho
  go_wp2
  refine bodyPost_ret (v := .tuple #[.agg #[.int .i64 0, .int .i64 0, .int .i64 0, .int .i64 0], .bool false]) ?_ rfl (quad_no HN.out rfl ?_)
  · simp [results, Tryd.results38, go_sem, r0, r1, r2, r3]
  · have BX := HB1.out
    go_grown
set_option maxRecDepth 100000 in
set_option maxHeartbeats 2000000 in
theorem spec_readMould_word (s : ByteArray) (w : World) (hs : s.size ≤ 1048576) (a u b : List UInt8) (h : spl 32 s.data.toList = [a, u, b]) (hu : u ≠ usedW) :
    Calls Tryd.prog 38 #[.string s] w (QuadPost (mldL s.data.toList) w) := by
  have HN := hide (mld_noW h hu)
  have hd2 : ((ba u).toList == [117, 115, 101, 100]) = false := by
    rw [Lib.toList_data, ba_data, beq_eq_false_iff_ne]
    exact hu
  have HB0 := hide ((Below.refl w.heap.size w).alloc (Nat.le_refl _) (.cells #[.int .i64 0, .int .i64 0, .int .i64 0, .int .i64 0] 40))
  have HL := hide (splB_of h)
  have haz : (ba a).size ≤ 1048576 := by
    have := spl_size (c := 32) (l := s.data.toList) (p := a) (by rw [h]; simp)
    rw [ba_size']
    simp at this
    omega
  have huz : (ba u).size ≤ 1048576 := by
    have := spl_size (c := 32) (l := s.data.toList) (p := u) (by rw [h]; simp)
    rw [ba_size']
    simp at this
    omega
  have hbz : (ba b).size ≤ 1048576 := by
    have := spl_size (c := 32) (l := s.data.toList) (p := b) (by rw [h]; simp)
    rw [ba_size']
    simp at this
    omega
  clear h hu
  go_enter Tryd.func38, Tryd.ntmps38
  go_wp2_with fail
  refine (spec_l01Split s 32 32 _ rfl (by omega)).mono ?_
  rintro e w1 ⟨A1, c1, rfl, ho, hb⟩
  rw [HL.out] at ho ⊢
  have r0 := (hb.cell (p := ⟨w.heap.size, 0, none⟩) (by simp)).trans (show _ = some (.int .i64 0) from by simp [go_sem])
  have x0 := ((bcell hb).2 w.heap.size 0 (by simp)).trans (show _ = false from by simp [go_sem])
  have r1 := (hb.cell (p := ⟨w.heap.size, 1, none⟩) (by simp)).trans (show _ = some (.int .i64 0) from by simp [go_sem])
  have x1 := ((bcell hb).2 w.heap.size 1 (by simp)).trans (show _ = false from by simp [go_sem])
  have r2 := (hb.cell (p := ⟨w.heap.size, 2, none⟩) (by simp)).trans (show _ = some (.int .i64 0) from by simp [go_sem])
  have x2 := ((bcell hb).2 w.heap.size 2 (by simp)).trans (show _ = false from by simp [go_sem])
  have r3 := (hb.cell (p := ⟨w.heap.size, 3, none⟩) (by simp)).trans (show _ = some (.int .i64 0) from by simp [go_sem])
  have x3 := ((bcell hb).2 w.heap.size 3 (by simp)).trans (show _ = false from by simp [go_sem])
  have hz : w.heap.size < w1.heap.size := by have := hb.size; simp at this; omega
  have HB1 := hide (HB0.out.trans (hb.mono (by simp)))
  have hrow := ho.row (k := 1) (enc := encS) (fun _ => rfl)
  obtain ⟨g1, off1, rfl, hg1, a0⟩ := row_at_1 (i := 0) hrow rfl rfl
  obtain ⟨g', off', e', -, a1⟩ := row_at_1 (i := 1) hrow rfl rfl
  obtain ⟨rfl, rfl⟩ : g1 = g' ∧ off1 = off' := by injection e' with e'; injection e' with e1 e2 e3; exact ⟨e1, e2⟩
  clear e'
  obtain ⟨g', off', e', -, a2⟩ := row_at_1 (i := 2) hrow rfl rfl
  obtain ⟨rfl, rfl⟩ : g1 = g' ∧ off1 = off' := by injection e' with e'; injection e' with e1 e2 e3; exact ⟨e1, e2⟩
  clear e'
  rw [Nat.add_zero] at a0
  clear hb ho hrow
  go_wp2
  refine bodyPost_ret (v := .tuple #[.agg #[.int .i64 0, .int .i64 0, .int .i64 0, .int .i64 0], .bool false]) ?_ rfl (quad_no HN.out rfl ?_)
  · simp [results, Tryd.results38, go_sem, r0, r1, r2, r3]
  · have BX := HB1.out
    go_grown
set_option maxRecDepth 100000 in
set_option maxHeartbeats 2000000 in
theorem spec_readMould_sizes (s : ByteArray) (w : World) (hs : s.size ≤ 1048576) (a b : List UInt8) (h : spl 32 s.data.toList = [a, usedW, b]) (h3 : (spl 120 a).length ≠ 3) :
    Calls Tryd.prog 38 #[.string s] w (QuadPost (mldL s.data.toList) w) := by
  have HN := hide (mld_noS h h3)
  obtain ⟨n, hn⟩ : ∃ n, (splB 120 (ba a)).length = n := ⟨_, rfl⟩
  have hn' : n ≠ 3 := by rw [← hn]; unfold splB; rw [List.length_map, ba_data]; exact h3
  have hd3 : ((n : Int) != 3) = true := by simp; omega
  have hd4 : ((n : Int) == 3) = false := by rw [beq_eq_false_iff_ne]; omega
  have HL3 := hide hn
  have hd : ((ba usedW).toList == [117, 115, 101, 100]) = true := by
    rw [Lib.toList_data, ba_data]
    rfl
  have HB0 := hide ((Below.refl w.heap.size w).alloc (Nat.le_refl _) (.cells #[.int .i64 0, .int .i64 0, .int .i64 0, .int .i64 0] 40))
  have HL := hide (splB_of h)
  have haz : (ba a).size ≤ 1048576 := by
    have := spl_size (c := 32) (l := s.data.toList) (p := a) (by rw [h]; simp)
    rw [ba_size']
    simp at this
    omega
  have huz := hs
  have hbz : (ba b).size ≤ 1048576 := by
    have := spl_size (c := 32) (l := s.data.toList) (p := b) (by rw [h]; simp)
    rw [ba_size']
    simp at this
    omega
  clear h h3 hn
  go_enter Tryd.func38, Tryd.ntmps38
  go_wp2_with fail
  refine (spec_l01Split s 32 32 _ rfl (by omega)).mono ?_
  rintro e w1 ⟨A1, c1, rfl, ho, hb⟩
  rw [HL.out] at ho ⊢
  have r0 := (hb.cell (p := ⟨w.heap.size, 0, none⟩) (by simp)).trans (show _ = some (.int .i64 0) from by simp [go_sem])
  have x0 := ((bcell hb).2 w.heap.size 0 (by simp)).trans (show _ = false from by simp [go_sem])
  have r1 := (hb.cell (p := ⟨w.heap.size, 1, none⟩) (by simp)).trans (show _ = some (.int .i64 0) from by simp [go_sem])
  have x1 := ((bcell hb).2 w.heap.size 1 (by simp)).trans (show _ = false from by simp [go_sem])
  have r2 := (hb.cell (p := ⟨w.heap.size, 2, none⟩) (by simp)).trans (show _ = some (.int .i64 0) from by simp [go_sem])
  have x2 := ((bcell hb).2 w.heap.size 2 (by simp)).trans (show _ = false from by simp [go_sem])
  have r3 := (hb.cell (p := ⟨w.heap.size, 3, none⟩) (by simp)).trans (show _ = some (.int .i64 0) from by simp [go_sem])
  have x3 := ((bcell hb).2 w.heap.size 3 (by simp)).trans (show _ = false from by simp [go_sem])
  have hz : w.heap.size < w1.heap.size := by have := hb.size; simp at this; omega
  have HB1 := hide (HB0.out.trans (hb.mono (by simp)))
  have hrow := ho.row (k := 1) (enc := encS) (fun _ => rfl)
  obtain ⟨g1, off1, rfl, hg1, a0⟩ := row_at_1 (i := 0) hrow rfl rfl
  obtain ⟨g', off', e', -, a1⟩ := row_at_1 (i := 1) hrow rfl rfl
  obtain ⟨rfl, rfl⟩ : g1 = g' ∧ off1 = off' := by injection e' with e'; injection e' with e1 e2 e3; exact ⟨e1, e2⟩
  clear e'
  obtain ⟨g', off', e', -, a2⟩ := row_at_1 (i := 2) hrow rfl rfl
  obtain ⟨rfl, rfl⟩ : g1 = g' ∧ off1 = off' := by injection e' with e'; injection e' with e1 e2 e3; exact ⟨e1, e2⟩
  clear e'
  rw [Nat.add_zero] at a0
  clear hb ho hrow
  go_wp2_with fail
  refine (spec_l01Split (ba a) 120 120 _ rfl (by omega)).mono ?_
  rintro e w2 ⟨A2, c2, rfl, ho, hb⟩
  rw [HL3.out]
  replace r0 := (hb.cell (p := ⟨w.heap.size, 0, none⟩) hz).trans r0
  replace x0 := ((bcell hb).2 w.heap.size 0 hz).trans x0
  replace r1 := (hb.cell (p := ⟨w.heap.size, 1, none⟩) hz).trans r1
  replace x1 := ((bcell hb).2 w.heap.size 1 hz).trans x1
  replace r2 := (hb.cell (p := ⟨w.heap.size, 2, none⟩) hz).trans r2
  replace x2 := ((bcell hb).2 w.heap.size 2 hz).trans x2
  replace r3 := (hb.cell (p := ⟨w.heap.size, 3, none⟩) hz).trans r3
  replace x3 := ((bcell hb).2 w.heap.size 3 hz).trans x3
  have HB2 := hide (HB1.out.trans (hb.mono HB1.out.size))
  clear hb ho
  go_wp2
  refine bodyPost_ret (v := .tuple #[.agg #[.int .i64 0, .int .i64 0, .int .i64 0, .int .i64 0], .bool false]) ?_ rfl (quad_no HN.out rfl ?_)
  · simp [results, Tryd.results38, go_sem, r0, r1, r2, r3]
  · have BX := HB2.out
    go_grown
set_option maxRecDepth 100000 in
set_option maxHeartbeats 4000000 in
theorem spec_readMould_nums (s : ByteArray) (w : World) (hs : s.size ≤ 1048576) (a b x y z : List UInt8) (h : spl 32 s.data.toList = [a, usedW, b]) (h3 : spl 120 a = [x, y, z]) :
    Calls Tryd.prog 38 #[.string s] w (QuadPost (mldL s.data.toList) w) := by
  have HS := hide h
  have HS3 := hide h3
  have HL3 := hide (splB_of (c := 120) (s := ba a) (xs := [x, y, z]) (by rw [ba_data]; exact h3))
  have hd : ((ba usedW).toList == [117, 115, 101, 100]) = true := by
    rw [Lib.toList_data, ba_data]
    rfl
  have HB0 := hide ((Below.refl w.heap.size w).alloc (Nat.le_refl _) (.cells #[.int .i64 0, .int .i64 0, .int .i64 0, .int .i64 0] 40))
  have HL := hide (splB_of h)
  have haz : (ba a).size ≤ 1048576 := by
    have := spl_size (c := 32) (l := s.data.toList) (p := a) (by rw [h]; simp)
    rw [ba_size']
    simp at this
    omega
  have huz := hs
  have hbz : (ba b).size ≤ 1048576 := by
    have := spl_size (c := 32) (l := s.data.toList) (p := b) (by rw [h]; simp)
    rw [ba_size']
    simp at this
    omega
  have hxz : (ba x).size ≤ 1048576 := by
    have := spl_size (c := 120) (l := a) (p := x) (by rw [h3]; simp)
    rw [ba_size'] at haz ⊢
    omega
  have hyz : (ba y).size ≤ 1048576 := by
    have := spl_size (c := 120) (l := a) (p := y) (by rw [h3]; simp)
    rw [ba_size'] at haz ⊢
    omega
  have hzz : (ba z).size ≤ 1048576 := by
    have := spl_size (c := 120) (l := a) (p := z) (by rw [h3]; simp)
    rw [ba_size'] at haz ⊢
    omega
  clear h h3
  go_enter Tryd.func38, Tryd.ntmps38
  go_wp2_with fail
  refine (spec_l01Split s 32 32 _ rfl (by omega)).mono ?_
  rintro e w1 ⟨A1, c1, rfl, ho, hb⟩
  rw [HL.out] at ho ⊢
  have r0 := (hb.cell (p := ⟨w.heap.size, 0, none⟩) (by simp)).trans (show _ = some (.int .i64 0) from by simp [go_sem])
  have x0 := ((bcell hb).2 w.heap.size 0 (by simp)).trans (show _ = false from by simp [go_sem])
  have r1 := (hb.cell (p := ⟨w.heap.size, 1, none⟩) (by simp)).trans (show _ = some (.int .i64 0) from by simp [go_sem])
  have x1 := ((bcell hb).2 w.heap.size 1 (by simp)).trans (show _ = false from by simp [go_sem])
  have r2 := (hb.cell (p := ⟨w.heap.size, 2, none⟩) (by simp)).trans (show _ = some (.int .i64 0) from by simp [go_sem])
  have x2 := ((bcell hb).2 w.heap.size 2 (by simp)).trans (show _ = false from by simp [go_sem])
  have r3 := (hb.cell (p := ⟨w.heap.size, 3, none⟩) (by simp)).trans (show _ = some (.int .i64 0) from by simp [go_sem])
  have x3 := ((bcell hb).2 w.heap.size 3 (by simp)).trans (show _ = false from by simp [go_sem])
  have hz : w.heap.size < w1.heap.size := by have := hb.size; simp at this; omega
  have HB1 := hide (HB0.out.trans (hb.mono (by simp)))
  have hrow := ho.row (k := 1) (enc := encS) (fun _ => rfl)
  obtain ⟨g1, off1, rfl, hg1, a0⟩ := row_at_1 (i := 0) hrow rfl rfl
  obtain ⟨g', off', e', -, a1⟩ := row_at_1 (i := 1) hrow rfl rfl
  obtain ⟨rfl, rfl⟩ : g1 = g' ∧ off1 = off' := by injection e' with e'; injection e' with e1 e2 e3; exact ⟨e1, e2⟩
  clear e'
  obtain ⟨g', off', e', -, a2⟩ := row_at_1 (i := 2) hrow rfl rfl
  obtain ⟨rfl, rfl⟩ : g1 = g' ∧ off1 = off' := by injection e' with e'; injection e' with e1 e2 e3; exact ⟨e1, e2⟩
  clear e'
  rw [Nat.add_zero] at a0
  clear hb ho hrow
  have a2b := a2
  go_wp2_with fail
  refine (spec_l01Split (ba a) 120 120 _ rfl (by omega)).mono ?_
  rintro e w2 ⟨A2, c2, rfl, ho, hb⟩
  rw [HL3.out] at ho ⊢
  replace r0 := (hb.cell (p := ⟨w.heap.size, 0, none⟩) hz).trans r0
  replace x0 := ((bcell hb).2 w.heap.size 0 hz).trans x0
  replace r1 := (hb.cell (p := ⟨w.heap.size, 1, none⟩) hz).trans r1
  replace x1 := ((bcell hb).2 w.heap.size 1 hz).trans x1
  replace r2 := (hb.cell (p := ⟨w.heap.size, 2, none⟩) hz).trans r2
  replace x2 := ((bcell hb).2 w.heap.size 2 hz).trans x2
  replace r3 := (hb.cell (p := ⟨w.heap.size, 3, none⟩) hz).trans r3
  replace x3 := ((bcell hb).2 w.heap.size 3 hz).trans x3
  have b3 := (hb.cell (p := ⟨g1, off1 + 2, none⟩) hg1).trans a2b
  have hg1b : g1 < w2.heap.size := Nat.lt_of_lt_of_le hg1 hb.size
  replace hz : w.heap.size < w2.heap.size := Nat.lt_of_lt_of_le hz hb.size
  have HB2 := hide (HB1.out.trans (hb.mono HB1.out.size))
  have hrow := ho.row (k := 1) (enc := encS) (fun _ => rfl)
  obtain ⟨g2, off2, rfl, hg2, b0⟩ := row_at_1 (i := 0) hrow rfl rfl
  obtain ⟨g', off', e', -, b1⟩ := row_at_1 (i := 1) hrow rfl rfl
  obtain ⟨rfl, rfl⟩ : g2 = g' ∧ off2 = off' := by injection e' with e'; injection e' with e1 e2 e3; exact ⟨e1, e2⟩
  clear e'
  obtain ⟨g', off', e', -, b2⟩ := row_at_1 (i := 2) hrow rfl rfl
  obtain ⟨rfl, rfl⟩ : g2 = g' ∧ off2 = off' := by injection e' with e'; injection e' with e1 e2 e3; exact ⟨e1, e2⟩
  clear e'
  rw [Nat.add_zero] at b0
  clear hb ho hrow a0 a2b a1 a2
  obtain ⟨v0, hv0⟩ : ∃ v, numV (ba x) = v := ⟨_, rfl⟩
  obtain ⟨o0, ho0⟩ : ∃ o, numB (ba x) = o := ⟨_, rfl⟩
  have HV0 := hide hv0
  have HO0 := hide ho0
  have hi0 : I64 v0 := by rw [← hv0]; exact numV_I64
  clear hv0 ho0
  obtain ⟨v1, hv1⟩ : ∃ v, numV (ba y) = v := ⟨_, rfl⟩
  obtain ⟨o1, ho1⟩ : ∃ o, numB (ba y) = o := ⟨_, rfl⟩
  have HV1 := hide hv1
  have HO1 := hide ho1
  have hi1 : I64 v1 := by rw [← hv1]; exact numV_I64
  clear hv1 ho1
  obtain ⟨v2, hv2⟩ : ∃ v, numV (ba z) = v := ⟨_, rfl⟩
  obtain ⟨o2, ho2⟩ : ∃ o, numB (ba z) = o := ⟨_, rfl⟩
  have HV2 := hide hv2
  have HO2 := hide ho2
  have hi2 : I64 v2 := by rw [← hv2]; exact numV_I64
  clear hv2 ho2
  obtain ⟨v3, hv3⟩ : ∃ v, numV (ba b) = v := ⟨_, rfl⟩
  obtain ⟨o3, ho3⟩ : ∃ o, numB (ba b) = o := ⟨_, rfl⟩
  have HV3 := hide hv3
  have HO3 := hide ho3
  have hi3 : I64 v3 := by rw [← hv3]; exact numV_I64
  clear hv3 ho3
  go_wp2_with fail
  refine (spec_num (ba x) _ (by omega)).mono ?_
  rintro e w3 ⟨rfl, hb⟩
  rw [HV0.out, HO0.out]
  replace r0 := (hb.cell (p := ⟨w.heap.size, 0, none⟩) hz).trans r0
  replace x0 := ((bcell hb).2 w.heap.size 0 hz).trans x0
  replace r1 := (hb.cell (p := ⟨w.heap.size, 1, none⟩) hz).trans r1
  replace x1 := ((bcell hb).2 w.heap.size 1 hz).trans x1
  replace r2 := (hb.cell (p := ⟨w.heap.size, 2, none⟩) hz).trans r2
  replace x2 := ((bcell hb).2 w.heap.size 2 hz).trans x2
  replace r3 := (hb.cell (p := ⟨w.heap.size, 3, none⟩) hz).trans r3
  replace x3 := ((bcell hb).2 w.heap.size 3 hz).trans x3
  replace b1 := (hb.cell (p := ⟨g2, off2 + 1, none⟩) hg2).trans b1
  replace b2 := (hb.cell (p := ⟨g2, off2 + 2, none⟩) hg2).trans b2
  replace b3 := (hb.cell (p := ⟨g1, off1 + 2, none⟩) hg1b).trans b3
  replace hg2 := Nat.lt_of_lt_of_le hg2 hb.size
  replace hg1b := Nat.lt_of_lt_of_le hg1b hb.size
  replace hz : w.heap.size < w3.heap.size := Nat.lt_of_lt_of_le hz hb.size
  have HB3 := hide (HB2.out.trans (hb.mono HB2.out.size))
  clear hb b0
  go_wp2_with fail
  refine (spec_num (ba y) _ (by omega)).mono ?_
  rintro e w4 ⟨rfl, hb⟩
  rw [HV1.out, HO1.out]
  replace r0 := (hb.cell (p := ⟨w.heap.size, 0, none⟩) hz).trans r0
  replace x0 := ((bcell hb).2 w.heap.size 0 hz).trans x0
  replace r1 := (hb.cell (p := ⟨w.heap.size, 1, none⟩) hz).trans r1
  replace x1 := ((bcell hb).2 w.heap.size 1 hz).trans x1
  replace r2 := (hb.cell (p := ⟨w.heap.size, 2, none⟩) hz).trans r2
  replace x2 := ((bcell hb).2 w.heap.size 2 hz).trans x2
  replace r3 := (hb.cell (p := ⟨w.heap.size, 3, none⟩) hz).trans r3
  replace x3 := ((bcell hb).2 w.heap.size 3 hz).trans x3
  replace b2 := (hb.cell (p := ⟨g2, off2 + 2, none⟩) hg2).trans b2
  replace b3 := (hb.cell (p := ⟨g1, off1 + 2, none⟩) hg1b).trans b3
  replace hg2 := Nat.lt_of_lt_of_le hg2 hb.size
  replace hg1b := Nat.lt_of_lt_of_le hg1b hb.size
  replace hz : w.heap.size < w4.heap.size := Nat.lt_of_lt_of_le hz hb.size
  have HB4 := hide (HB3.out.trans (hb.mono HB3.out.size))
  clear hb b1
  go_wp2_with fail
  refine (spec_num (ba z) _ (by omega)).mono ?_
  rintro e w5 ⟨rfl, hb⟩
  rw [HV2.out, HO2.out]
  replace r0 := (hb.cell (p := ⟨w.heap.size, 0, none⟩) hz).trans r0
  replace x0 := ((bcell hb).2 w.heap.size 0 hz).trans x0
  replace r1 := (hb.cell (p := ⟨w.heap.size, 1, none⟩) hz).trans r1
  replace x1 := ((bcell hb).2 w.heap.size 1 hz).trans x1
  replace r2 := (hb.cell (p := ⟨w.heap.size, 2, none⟩) hz).trans r2
  replace x2 := ((bcell hb).2 w.heap.size 2 hz).trans x2
  replace r3 := (hb.cell (p := ⟨w.heap.size, 3, none⟩) hz).trans r3
  replace x3 := ((bcell hb).2 w.heap.size 3 hz).trans x3
  replace b3 := (hb.cell (p := ⟨g1, off1 + 2, none⟩) hg1b).trans b3
  replace hg2 := Nat.lt_of_lt_of_le hg2 hb.size
  replace hg1b := Nat.lt_of_lt_of_le hg1b hb.size
  replace hz : w.heap.size < w5.heap.size := Nat.lt_of_lt_of_le hz hb.size
  have HB5 := hide (HB4.out.trans (hb.mono HB4.out.size))
  clear hb b2
  go_wp2_with fail
  refine (spec_num (ba b) _ (by omega)).mono ?_
  rintro e w6 ⟨rfl, hb⟩
  rw [HV3.out, HO3.out]
  replace r0 := (hb.cell (p := ⟨w.heap.size, 0, none⟩) hz).trans r0
  replace x0 := ((bcell hb).2 w.heap.size 0 hz).trans x0
  replace r1 := (hb.cell (p := ⟨w.heap.size, 1, none⟩) hz).trans r1
  replace x1 := ((bcell hb).2 w.heap.size 1 hz).trans x1
  replace r2 := (hb.cell (p := ⟨w.heap.size, 2, none⟩) hz).trans r2
  replace x2 := ((bcell hb).2 w.heap.size 2 hz).trans x2
  replace r3 := (hb.cell (p := ⟨w.heap.size, 3, none⟩) hz).trans r3
  replace x3 := ((bcell hb).2 w.heap.size 3 hz).trans x3
  replace b3 := (hb.cell (p := ⟨g1, off1 + 2, none⟩) hg1b).trans b3
  replace hg2 := Nat.lt_of_lt_of_le hg2 hb.size
  replace hg1b := Nat.lt_of_lt_of_le hg1b hb.size
  replace hz : w.heap.size < w6.heap.size := Nat.lt_of_lt_of_le hz hb.size
  have HB6 := hide (HB5.out.trans (hb.mono HB5.out.size))
  clear hb b3
  have hwt : w.heap.size ≠ w6.heap.size := by omega
  cases o0
  · have HN := hide (mld_no HS.out HS3.out (.inl (num_false HO0.out)))
    go_wp2
    refine bodyPost_ret (v := .tuple #[.agg #[.int .i64 0, .int .i64 0, .int .i64 0, .int .i64 0], .bool false]) ?_ rfl (quad_no HN.out rfl ?_)
    · simp [results, Tryd.results38, go_sem, hz, r0, r1, r2, r3]
    · have BX := HB6.out
      go_grown
  cases o1
  · have HN := hide (mld_no HS.out HS3.out (.inr (.inl (num_false HO1.out))))
    go_wp2
    refine bodyPost_ret (v := .tuple #[.agg #[.int .i64 0, .int .i64 0, .int .i64 0, .int .i64 0], .bool false]) ?_ rfl (quad_no HN.out rfl ?_)
    · simp [results, Tryd.results38, go_sem, hz, r0, r1, r2, r3]
    · have BX := HB6.out
      go_grown
  cases o2
  · have HN := hide (mld_no HS.out HS3.out (.inr (.inr (.inl (num_false HO2.out)))))
    go_wp2
    refine bodyPost_ret (v := .tuple #[.agg #[.int .i64 0, .int .i64 0, .int .i64 0, .int .i64 0], .bool false]) ?_ rfl (quad_no HN.out rfl ?_)
    · simp [results, Tryd.results38, go_sem, hz, r0, r1, r2, r3]
    · have BX := HB6.out
      go_grown
  cases o3
  · have HN := hide (mld_no HS.out HS3.out (.inr (.inr (.inr (.inl (num_false HO3.out))))))
    go_wp2
    refine bodyPost_ret (v := .tuple #[.agg #[.int .i64 0, .int .i64 0, .int .i64 0, .int .i64 0], .bool false]) ?_ rfl (quad_no HN.out rfl ?_)
    · simp [results, Tryd.results38, go_sem, hz, r0, r1, r2, r3]
    · have BX := HB6.out
      go_grown
  have N0 := hide (num_true HO0.out HV0.out)
  have N1 := hide (num_true HO1.out HV1.out)
  have N2 := hide (num_true HO2.out HV2.out)
  have N3 := hide (num_true HO3.out HV3.out)
  have f0 : (w6.alloc (.cells #[.int .i64 v0, .int .i64 v1, .int .i64 v2, .int .i64 v3] 40)).cell? ⟨w6.heap.size, 0, none⟩ = some (.int .i64 v0) := by simp [go_sem]
  have f1 : (w6.alloc (.cells #[.int .i64 v0, .int .i64 v1, .int .i64 v2, .int .i64 v3] 40)).cell? ⟨w6.heap.size, 1, none⟩ = some (.int .i64 v1) := by simp [go_sem]
  have f2 : (w6.alloc (.cells #[.int .i64 v0, .int .i64 v1, .int .i64 v2, .int .i64 v3] 40)).cell? ⟨w6.heap.size, 2, none⟩ = some (.int .i64 v2) := by simp [go_sem]
  have f3 : (w6.alloc (.cells #[.int .i64 v0, .int .i64 v1, .int .i64 v2, .int .i64 v3] 40)).cell? ⟨w6.heap.size, 3, none⟩ = some (.int .i64 v3) := by simp [go_sem]
  go_wp2_with fail
  refine (spec_l05One v0 v1 v2 v3 w6.heap.size 0 _ (by simp [go_sem]) (by simp [go_sem]) (by simp [go_sem]) (by simp [go_sem])).mono ?_
  rintro e w8 ⟨rfl, rfl⟩
  rw [mldB_ok]
  cases hq : mldB v0 v1 v2 v3
  · have HN := hide (mld_no HS.out HS3.out (.inr (.inr (.inr (.inr (mld_val N0.out N1.out N2.out N3.out hq))))))
    clear hq
    go_wp2
    refine bodyPost_ret (v := .tuple #[.agg #[.int .i64 0, .int .i64 0, .int .i64 0, .int .i64 0], .bool false]) ?_ rfl (quad_no HN.out rfl ?_)
    · simp [results, Tryd.results38, go_sem, hz, r0, r1, r2, r3]
    · have BX := HB6.out
      go_grown
  · have HN := hide (mld_yes HS.out HS3.out N0.out N1.out N2.out N3.out hq)
    clear hq
    go_wp2
    refine bodyPost_ret (v := .tuple #[.agg #[.int .i64 v0, .int .i64 v1, .int .i64 v2, .int .i64 v3], .bool true]) ?_ rfl (quad_yes HN.out rfl ?_)
    · simp [results, Tryd.results38, go_sem, hz, r0, r1, r2, r3]
    · have BX := HB6.out
      go_grown
theorem spec_readMould (s : ByteArray) (w : World) (hs : s.size ≤ 1048576) :
    Calls Tryd.prog 38 #[.string s] w (QuadPost (mldL s.data.toList) w) := by
  by_cases h : (spl 32 s.data.toList).length = 3
  · obtain ⟨a, u, b, hab⟩ : ∃ a u b, spl 32 s.data.toList = [a, u, b] := by
      match spl 32 s.data.toList, h with
      | [a, u, b], _ => exact ⟨a, u, b, rfl⟩
    by_cases hu : u = usedW
    · subst hu
      by_cases h3 : (spl 120 a).length = 3
      · obtain ⟨x, y, z, hxyz⟩ : ∃ x y z, spl 120 a = [x, y, z] := by
          match spl 120 a, h3 with
          | [x, y, z], _ => exact ⟨x, y, z, rfl⟩
        exact spec_readMould_nums s w hs a b x y z hab hxyz
      · exact spec_readMould_sizes s w hs a b hab h3
    · exact spec_readMould_word s w hs a u b hab hu
  · exact spec_readMould_count s w hs h
end Go.Proofs.YtjoepnmmcagggaaDoor
