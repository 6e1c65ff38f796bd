/-
  What is proved: a clay read off a text by the reference. Conditions: a length that fits; the library's own variables hold what they are laid with.
-/
import Derived.Test.YtfjdhjbfingofaaGreatDoorReadClayS2
import Derived.Test.YtfjdhjbfingofaaGreatDoorReadClayS3
namespace Go.Proofs.YtfjdhjbfingofaaGreatDoor
open Go.RowKit Go.PlainAid
set_option linter.unusedVariables false

set_option maxRecDepth 100000 in
set_option maxHeartbeats 8000000 in
theorem spec_readClay_nums (s : ByteArray) (w : World) (hs : s.size ≤ 1048576) (n x y z u : List UInt8) (h : spl 32 s.data.toList = [n, shrW, x, limW, y, sanW, z, priW, u]) (t0 : numB (ba x) = true) (t1 : numB (ba y) = true) (t2 : numB (ba z) = true) (t3 : numB (ba u) = true) :
    Calls Tryz.prog 21 #[.string s] w (ClayPost (clyL s.data.toList) w) := by
  have HS := hide h
  have HB0 := hide ((Below.refl w.heap.size w).alloc (Nat.le_refl _) (.cells #[.string ⟨#[]⟩, .int .i64 0, .int .i64 0, .int .i64 0, .int .i64 0] 35))
  have HL := hide (splB_of h)
  have hnz : (ba n).size ≤ 1048576 := by
    have := spl_size (c := 32) (l := s.data.toList) (p := n) (by rw [h]; simp)
    rw [ba_size']
    simp at this
    omega
  have hxz : (ba x).size ≤ 1048576 := by
    have := spl_size (c := 32) (l := s.data.toList) (p := x) (by rw [h]; simp)
    rw [ba_size']
    simp at this
    omega
  have hyz : (ba y).size ≤ 1048576 := by
    have := spl_size (c := 32) (l := s.data.toList) (p := y) (by rw [h]; simp)
    rw [ba_size']
    simp at this
    omega
  have hzz : (ba z).size ≤ 1048576 := by
    have := spl_size (c := 32) (l := s.data.toList) (p := z) (by rw [h]; simp)
    rw [ba_size']
    simp at this
    omega
  have huz : (ba u).size ≤ 1048576 := by
    have := spl_size (c := 32) (l := s.data.toList) (p := u) (by rw [h]; simp)
    rw [ba_size']
    simp at this
    omega
  have d0 : ((ba shrW).toList == [115, 104, 114, 105, 110, 107]) = true := by
    rw [Lib.toList_data, ba_data]
    rfl
  have d1 : ((ba limW).toList == [108, 105, 109, 101]) = true := by
    rw [Lib.toList_data, ba_data]
    rfl
  have d2 : ((ba sanW).toList == [115, 97, 110, 100]) = true := by
    rw [Lib.toList_data, ba_data]
    rfl
  have d3 : ((ba priW).toList == [112, 114, 105, 99, 101]) = true := by
    rw [Lib.toList_data, ba_data]
    rfl
  obtain ⟨v0, hv0⟩ : ∃ v, numV (ba x) = v := ⟨_, rfl⟩
  have HV0 := hide hv0
  have hi0 : I64 v0 := by rw [← hv0]; exact numV_I64
  clear hv0
  have HO0 := hide t0
  clear t0
  obtain ⟨v1, hv1⟩ : ∃ v, numV (ba y) = v := ⟨_, rfl⟩
  have HV1 := hide hv1
  have hi1 : I64 v1 := by rw [← hv1]; exact numV_I64
  clear hv1
  have HO1 := hide t1
  clear t1
  obtain ⟨v2, hv2⟩ : ∃ v, numV (ba z) = v := ⟨_, rfl⟩
  have HV2 := hide hv2
  have hi2 : I64 v2 := by rw [← hv2]; exact numV_I64
  clear hv2
  have HO2 := hide t2
  clear t2
  obtain ⟨v3, hv3⟩ : ∃ v, numV (ba u) = v := ⟨_, rfl⟩
  have HV3 := hide hv3
  have hi3 : I64 v3 := by rw [← hv3]; exact numV_I64
  clear hv3
  have HO3 := hide t3
  clear t3
  clear h
  go_enter Tryz.func21, Tryz.ntmps21
  go_wp2_with fail
  refine (spec_l01Split s 32 32 _ rfl (by omega)).mono ?_
  rintro e w1 ⟨A1, c1, rfl, ho, hb⟩
  rw [HL.out] at ho ⊢
  have r0 := (hb.cell (p := ⟨w.heap.size, 0, none⟩) (by simp)).trans (show _ = some (.string ⟨#[]⟩) from by simp [go_sem])
  have x0 := ((bcell hb).2 w.heap.size 0 (by simp)).trans (show _ = false from by simp [go_sem])
  have r1 := (hb.cell (p := ⟨w.heap.size, 1, none⟩) (by simp)).trans (show _ = some (.int .i64 0) from by simp [go_sem])
  have x1 := ((bcell hb).2 w.heap.size 1 (by simp)).trans (show _ = false from by simp [go_sem])
  have r2 := (hb.cell (p := ⟨w.heap.size, 2, none⟩) (by simp)).trans (show _ = some (.int .i64 0) from by simp [go_sem])
  have x2 := ((bcell hb).2 w.heap.size 2 (by simp)).trans (show _ = false from by simp [go_sem])
  have r3 := (hb.cell (p := ⟨w.heap.size, 3, none⟩) (by simp)).trans (show _ = some (.int .i64 0) from by simp [go_sem])
  have x3 := ((bcell hb).2 w.heap.size 3 (by simp)).trans (show _ = false from by simp [go_sem])
  have r4 := (hb.cell (p := ⟨w.heap.size, 4, none⟩) (by simp)).trans (show _ = some (.int .i64 0) from by simp [go_sem])
  have x4 := ((bcell hb).2 w.heap.size 4 (by simp)).trans (show _ = false from by simp [go_sem])
  have hz : w.heap.size < w1.heap.size := by have := hb.size; simp at this; omega
  have HB1 := hide (HB0.out.trans (hb.mono (by simp)))
  have hrow := ho.row (k := 1) (enc := encS) (fun _ => rfl)
  obtain ⟨g, off, rfl, hg, a0⟩ := row_at_1 (i := 0) hrow rfl rfl
  obtain ⟨g', off', e', -, a1⟩ := row_at_1 (i := 1) hrow rfl rfl
  obtain ⟨rfl, rfl⟩ : g = g' ∧ off = off' := by injection e' with e'; injection e' with e1 e2 e3; exact ⟨e1, e2⟩
  clear e'
  obtain ⟨g', off', e', -, a2⟩ := row_at_1 (i := 2) hrow rfl rfl
  obtain ⟨rfl, rfl⟩ : g = g' ∧ off = off' := by injection e' with e'; injection e' with e1 e2 e3; exact ⟨e1, e2⟩
  clear e'
  obtain ⟨g', off', e', -, a3⟩ := row_at_1 (i := 3) hrow rfl rfl
  obtain ⟨rfl, rfl⟩ : g = g' ∧ off = off' := by injection e' with e'; injection e' with e1 e2 e3; exact ⟨e1, e2⟩
  clear e'
  obtain ⟨g', off', e', -, a4⟩ := row_at_1 (i := 4) hrow rfl rfl
  obtain ⟨rfl, rfl⟩ : g = g' ∧ off = off' := by injection e' with e'; injection e' with e1 e2 e3; exact ⟨e1, e2⟩
  clear e'
  obtain ⟨g', off', e', -, a5⟩ := row_at_1 (i := 5) hrow rfl rfl
  obtain ⟨rfl, rfl⟩ : g = g' ∧ off = off' := by injection e' with e'; injection e' with e1 e2 e3; exact ⟨e1, e2⟩
  clear e'
  obtain ⟨g', off', e', -, a6⟩ := row_at_1 (i := 6) hrow rfl rfl
  obtain ⟨rfl, rfl⟩ : g = g' ∧ off = off' := by injection e' with e'; injection e' with e1 e2 e3; exact ⟨e1, e2⟩
  clear e'
  obtain ⟨g', off', e', -, a7⟩ := row_at_1 (i := 7) hrow rfl rfl
  obtain ⟨rfl, rfl⟩ : g = g' ∧ off = off' := by injection e' with e'; injection e' with e1 e2 e3; exact ⟨e1, e2⟩
  clear e'
  obtain ⟨g', off', e', -, a8⟩ := row_at_1 (i := 8) hrow rfl rfl
  obtain ⟨rfl, rfl⟩ : g = g' ∧ off = off' := by injection e' with e'; injection e' with e1 e2 e3; exact ⟨e1, e2⟩
  clear e'
  rw [Nat.add_zero] at a0
  clear hb ho hrow
  go_wp2_with fail
  refine (spec_num (ba x) _ (by omega)).mono ?_
  rintro e w2 ⟨rfl, hb⟩
  rw [HV0.out, HO0.out]
  replace r0 := (hb.cell (p := ⟨w.heap.size, 0, none⟩) hz).trans r0
  replace x0 := ((bcell hb).2 w.heap.size 0 hz).trans x0
  replace r1 := (hb.cell (p := ⟨w.heap.size, 1, none⟩) hz).trans r1
  replace x1 := ((bcell hb).2 w.heap.size 1 hz).trans x1
  replace r2 := (hb.cell (p := ⟨w.heap.size, 2, none⟩) hz).trans r2
  replace x2 := ((bcell hb).2 w.heap.size 2 hz).trans x2
  replace r3 := (hb.cell (p := ⟨w.heap.size, 3, none⟩) hz).trans r3
  replace x3 := ((bcell hb).2 w.heap.size 3 hz).trans x3
  replace r4 := (hb.cell (p := ⟨w.heap.size, 4, none⟩) hz).trans r4
  replace x4 := ((bcell hb).2 w.heap.size 4 hz).trans x4
  replace a4 := (hb.cell (p := ⟨g, off + 4, none⟩) hg).trans a4
  replace a6 := (hb.cell (p := ⟨g, off + 6, none⟩) hg).trans a6
  replace a8 := (hb.cell (p := ⟨g, off + 8, none⟩) hg).trans a8
  replace a0 := (hb.cell (p := ⟨g, off, none⟩) hg).trans a0
  replace hg := Nat.lt_of_lt_of_le hg hb.size
  replace hz : w.heap.size < w2.heap.size := Nat.lt_of_lt_of_le hz hb.size
  have HB2 := hide (HB1.out.trans (hb.mono HB1.out.size))
  clear hb a2 a1 a3 a5 a7 d0 d1 d2 d3
  go_wp2_with fail
  refine (spec_num (ba y) _ (by omega)).mono ?_
  rintro e w3 ⟨rfl, hb⟩
  rw [HV1.out, HO1.out]
  replace r0 := (hb.cell (p := ⟨w.heap.size, 0, none⟩) hz).trans r0
  replace x0 := ((bcell hb).2 w.heap.size 0 hz).trans x0
  replace r1 := (hb.cell (p := ⟨w.heap.size, 1, none⟩) hz).trans r1
  replace x1 := ((bcell hb).2 w.heap.size 1 hz).trans x1
  replace r2 := (hb.cell (p := ⟨w.heap.size, 2, none⟩) hz).trans r2
  replace x2 := ((bcell hb).2 w.heap.size 2 hz).trans x2
  replace r3 := (hb.cell (p := ⟨w.heap.size, 3, none⟩) hz).trans r3
  replace x3 := ((bcell hb).2 w.heap.size 3 hz).trans x3
  replace r4 := (hb.cell (p := ⟨w.heap.size, 4, none⟩) hz).trans r4
  replace x4 := ((bcell hb).2 w.heap.size 4 hz).trans x4
  replace a6 := (hb.cell (p := ⟨g, off + 6, none⟩) hg).trans a6
  replace a8 := (hb.cell (p := ⟨g, off + 8, none⟩) hg).trans a8
  replace a0 := (hb.cell (p := ⟨g, off, none⟩) hg).trans a0
  replace hg := Nat.lt_of_lt_of_le hg hb.size
  replace hz : w.heap.size < w3.heap.size := Nat.lt_of_lt_of_le hz hb.size
  have HB3 := hide (HB2.out.trans (hb.mono HB2.out.size))
  clear hb a4
  go_wp2_with fail
  refine (spec_num (ba z) _ (by omega)).mono ?_
  rintro e w4 ⟨rfl, hb⟩
  rw [HV2.out, HO2.out]
  replace r0 := (hb.cell (p := ⟨w.heap.size, 0, none⟩) hz).trans r0
  replace x0 := ((bcell hb).2 w.heap.size 0 hz).trans x0
  replace r1 := (hb.cell (p := ⟨w.heap.size, 1, none⟩) hz).trans r1
  replace x1 := ((bcell hb).2 w.heap.size 1 hz).trans x1
  replace r2 := (hb.cell (p := ⟨w.heap.size, 2, none⟩) hz).trans r2
  replace x2 := ((bcell hb).2 w.heap.size 2 hz).trans x2
  replace r3 := (hb.cell (p := ⟨w.heap.size, 3, none⟩) hz).trans r3
  replace x3 := ((bcell hb).2 w.heap.size 3 hz).trans x3
  replace r4 := (hb.cell (p := ⟨w.heap.size, 4, none⟩) hz).trans r4
  replace x4 := ((bcell hb).2 w.heap.size 4 hz).trans x4
  replace a8 := (hb.cell (p := ⟨g, off + 8, none⟩) hg).trans a8
  replace a0 := (hb.cell (p := ⟨g, off, none⟩) hg).trans a0
  replace hg := Nat.lt_of_lt_of_le hg hb.size
  replace hz : w.heap.size < w4.heap.size := Nat.lt_of_lt_of_le hz hb.size
  have HB4 := hide (HB3.out.trans (hb.mono HB3.out.size))
  clear hb a6
  go_wp2_with fail
  refine (spec_num (ba u) _ (by omega)).mono ?_
  rintro e w5 ⟨rfl, hb⟩
  rw [HV3.out, HO3.out]
  replace r0 := (hb.cell (p := ⟨w.heap.size, 0, none⟩) hz).trans r0
  replace x0 := ((bcell hb).2 w.heap.size 0 hz).trans x0
  replace r1 := (hb.cell (p := ⟨w.heap.size, 1, none⟩) hz).trans r1
  replace x1 := ((bcell hb).2 w.heap.size 1 hz).trans x1
  replace r2 := (hb.cell (p := ⟨w.heap.size, 2, none⟩) hz).trans r2
  replace x2 := ((bcell hb).2 w.heap.size 2 hz).trans x2
  replace r3 := (hb.cell (p := ⟨w.heap.size, 3, none⟩) hz).trans r3
  replace x3 := ((bcell hb).2 w.heap.size 3 hz).trans x3
  replace r4 := (hb.cell (p := ⟨w.heap.size, 4, none⟩) hz).trans r4
  replace x4 := ((bcell hb).2 w.heap.size 4 hz).trans x4
  replace a0 := (hb.cell (p := ⟨g, off, none⟩) hg).trans a0
  replace hg := Nat.lt_of_lt_of_le hg hb.size
  replace hz : w.heap.size < w5.heap.size := Nat.lt_of_lt_of_le hz hb.size
  have HB5 := hide (HB4.out.trans (hb.mono HB4.out.size))
  clear hb a8
  have hwt : w.heap.size ≠ w5.heap.size := by omega
  have N0 := hide (num_true HO0.out HV0.out)
  have N1 := hide (num_true HO1.out HV1.out)
  have N2 := hide (num_true HO2.out HV2.out)
  have N3 := hide (num_true HO3.out HV3.out)
  go_wp2_with fail
  refine (spec_isClay (ba n) v0 v1 v2 v3 w5.heap.size 0 _ (by unfold maxLen; omega) (by simp [go_sem]) (by simp [go_sem]) (by simp [go_sem]) (by simp [go_sem]) (by simp [go_sem])).mono ?_
  rintro e w8 ⟨rfl, rfl⟩
  cases hq : Clay.ok ⟨ba n, v0, v1, v2, v3⟩
  · have HN := hide (cly_not HS.out N0.out N1.out N2.out N3.out hq)
    clear hq
    go_wp2
    refine bodyPost_ret (v := .tuple #[.agg #[.string ⟨#[]⟩, .int .i64 0, .int .i64 0, .int .i64 0, .int .i64 0], .bool false]) ?_ rfl (clay_no HN.out rfl ?_)
    · simp [results, Tryz.results21, go_sem, hz, r0, r1, r2, r3, r4]
    · have BX := HB5.out
      go_grown
  · have HN := hide (cly_yes HS.out N0.out N1.out N2.out N3.out hq)
    clear hq
    go_wp2
    refine bodyPost_ret (v := .tuple #[.agg #[.string (ba n), .int .i64 v0, .int .i64 v1, .int .i64 v2, .int .i64 v3], .bool true]) ?_ rfl (clay_got HN.out rfl ?_)
    · simp [results, Tryz.results21, go_sem, hz, r0, r1, r2, r3, r4]
    · have BX := HB5.out
      go_grown
theorem spec_readClay (s : ByteArray) (w : World) (hs : s.size ≤ 1048576) :
    Calls Tryz.prog 21 #[.string s] w (ClayPost (clyL s.data.toList) w) := by
  by_cases h : (spl 32 s.data.toList).length = 9
  · obtain ⟨n, a, x, b, y, c, z, d, u, hl⟩ : ∃ n a x b y c z d u, spl 32 s.data.toList = [n, a, x, b, y, c, z, d, u] := by
      match spl 32 s.data.toList, h with
      | [n, a, x, b, y, c, z, d, u], _ => exact ⟨n, a, x, b, y, c, z, d, u, rfl⟩
    by_cases hw : a = shrW ∧ b = limW ∧ c = sanW ∧ d = priW
    · obtain ⟨rfl, rfl, rfl, rfl⟩ := hw
      cases t0 : numB (ba x) with
      | false => exact spec_readClay_no0 s w hs n x y z u hl t0
      | true =>
        cases t1 : numB (ba y) with
        | false => exact spec_readClay_no1 s w hs n x y z u hl t0 t1
        | true =>
          cases t2 : numB (ba z) with
          | false => exact spec_readClay_no2 s w hs n x y z u hl t0 t1 t2
          | true =>
            cases t3 : numB (ba u) with
            | false => exact spec_readClay_no3 s w hs n x y z u hl t0 t1 t2 t3
            | true => exact spec_readClay_nums s w hs n x y z u hl t0 t1 t2 t3
    · exact spec_readClay_word s w hs n a x b y c z d u hl hw
  · exact spec_readClay_count s w hs h
end Go.Proofs.YtfjdhjbfingofaaGreatDoor
