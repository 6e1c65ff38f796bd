/-
  What is proved: a clay read off a text by the reference. Conditions: a length that fits; the library's own variables hold what they are laid with.
-/
import Derived.Test.YtfjdhjbfingofaaGreatDoorReadClayI
namespace Go.Proofs.YtfjdhjbfingofaaGreatDoor
open Go.RowKit Go.PlainAid
set_option linter.unusedVariables false

set_option maxRecDepth 100000 in
set_option maxHeartbeats 2000000 in
theorem spec_readClay_count (s : ByteArray) (w : World) (hs : s.size ≤ 1048576) (h : (spl 32 s.data.toList).length ≠ 9) :
    Calls Tryz.prog 21 #[.string s] w (ClayPost (clyL s.data.toList) w) := by
  have HN := hide (cly_no9 h)
  obtain ⟨n, hn⟩ : ∃ n, (splB 32 s).length = n := ⟨_, rfl⟩
  have hn' : n ≠ 9 := by rw [← hn]; unfold splB; rw [List.length_map]; exact h
  have hd : ((n : Int) != 9) = true := by simp; omega
  have hd2 : ((n : Int) == 9) = false := by rw [beq_eq_false_iff_ne]; omega
  have HL := hide hn
  clear h hn
  have HB0 := hide ((Below.refl w.heap.size w).alloc (Nat.le_refl _) (.cells #[.string ⟨#[]⟩, .int .i64 0, .int .i64 0, .int .i64 0, .int .i64 0] 35))
  go_enter Tryz.func21, Tryz.ntmps21
  go_wp2_with fail
  refine (spec_l01Split s 32 32 _ rfl (by omega)).mono ?_
  rintro e w1 ⟨A1, c1, rfl, ho, hb⟩
  rw [HL.out]
  have r0 := (hb.cell (p := ⟨w.heap.size, 0, none⟩) (by simp)).trans (show _ = some (.string ⟨#[]⟩) from by simp [go_sem])
  have x0 := ((bcell hb).2 w.heap.size 0 (by simp)).trans (show _ = false from by simp [go_sem])
  have r1 := (hb.cell (p := ⟨w.heap.size, 1, none⟩) (by simp)).trans (show _ = some (.int .i64 0) from by simp [go_sem])
  have x1 := ((bcell hb).2 w.heap.size 1 (by simp)).trans (show _ = false from by simp [go_sem])
  have r2 := (hb.cell (p := ⟨w.heap.size, 2, none⟩) (by simp)).trans (show _ = some (.int .i64 0) from by simp [go_sem])
  have x2 := ((bcell hb).2 w.heap.size 2 (by simp)).trans (show _ = false from by simp [go_sem])
  have r3 := (hb.cell (p := ⟨w.heap.size, 3, none⟩) (by simp)).trans (show _ = some (.int .i64 0) from by simp [go_sem])
  have x3 := ((bcell hb).2 w.heap.size 3 (by simp)).trans (show _ = false from by simp [go_sem])
  have r4 := (hb.cell (p := ⟨w.heap.size, 4, none⟩) (by simp)).trans (show _ = some (.int .i64 0) from by simp [go_sem])
  have x4 := ((bcell hb).2 w.heap.size 4 (by simp)).trans (show _ = false from by simp [go_sem])
  have hz : w.heap.size < w1.heap.size := by have := hb.size; simp at this; omega
  have HB1 := hide (HB0.out.trans (hb.mono (by simp)))
  clear hb ho
  go_wp2
  refine bodyPost_ret (v := .tuple #[.agg #[.string ⟨#[]⟩, .int .i64 0, .int .i64 0, .int .i64 0, .int .i64 0], .bool false]) ?_ rfl (clay_no HN.out rfl ?_)
  · simp [results, Tryz.results21, go_sem, r0, r1, r2, r3, r4]
  · have BX := HB1.out
    go_grown
set_option maxRecDepth 100000 in
set_option maxHeartbeats 4000000 in
theorem spec_readClay_word (s : ByteArray) (w : World) (hs : s.size ≤ 1048576) (n a x b y c z d u : List UInt8) (h : spl 32 s.data.toList = [n, a, x, b, y, c, z, d, u]) (hw : ¬ (a = shrW ∧ b = limW ∧ c = sanW ∧ d = priW)) :
    Calls Tryz.prog 21 #[.string s] w (ClayPost (clyL s.data.toList) w) := by
  have HN := hide (cly_word h hw)
  have HB0 := hide ((Below.refl w.heap.size w).alloc (Nat.le_refl _) (.cells #[.string ⟨#[]⟩, .int .i64 0, .int .i64 0, .int .i64 0, .int .i64 0] 35))
  have HL := hide (splB_of h)
  have HW := hide hw
  clear h hw
  go_enter Tryz.func21, Tryz.ntmps21
  go_wp2_with fail
  refine (spec_l01Split s 32 32 _ rfl (by omega)).mono ?_
  rintro e w1 ⟨A1, c1, rfl, ho, hb⟩
  rw [HL.out] at ho ⊢
  have r0 := (hb.cell (p := ⟨w.heap.size, 0, none⟩) (by simp)).trans (show _ = some (.string ⟨#[]⟩) from by simp [go_sem])
  have x0 := ((bcell hb).2 w.heap.size 0 (by simp)).trans (show _ = false from by simp [go_sem])
  have r1 := (hb.cell (p := ⟨w.heap.size, 1, none⟩) (by simp)).trans (show _ = some (.int .i64 0) from by simp [go_sem])
  have x1 := ((bcell hb).2 w.heap.size 1 (by simp)).trans (show _ = false from by simp [go_sem])
  have r2 := (hb.cell (p := ⟨w.heap.size, 2, none⟩) (by simp)).trans (show _ = some (.int .i64 0) from by simp [go_sem])
  have x2 := ((bcell hb).2 w.heap.size 2 (by simp)).trans (show _ = false from by simp [go_sem])
  have r3 := (hb.cell (p := ⟨w.heap.size, 3, none⟩) (by simp)).trans (show _ = some (.int .i64 0) from by simp [go_sem])
  have x3 := ((bcell hb).2 w.heap.size 3 (by simp)).trans (show _ = false from by simp [go_sem])
  have r4 := (hb.cell (p := ⟨w.heap.size, 4, none⟩) (by simp)).trans (show _ = some (.int .i64 0) from by simp [go_sem])
  have x4 := ((bcell hb).2 w.heap.size 4 (by simp)).trans (show _ = false from by simp [go_sem])
  have hz : w.heap.size < w1.heap.size := by have := hb.size; simp at this; omega
  have HB1 := hide (HB0.out.trans (hb.mono (by simp)))
  have hrow := ho.row (k := 1) (enc := encS) (fun _ => rfl)
  obtain ⟨g, off, rfl, hg, a0⟩ := row_at_1 (i := 0) hrow rfl rfl
  obtain ⟨g', off', e', -, a1⟩ := row_at_1 (i := 1) hrow rfl rfl
  obtain ⟨rfl, rfl⟩ : g = g' ∧ off = off' := by injection e' with e'; injection e' with e1 e2 e3; exact ⟨e1, e2⟩
  clear e'
  obtain ⟨g', off', e', -, a3⟩ := row_at_1 (i := 3) hrow rfl rfl
  obtain ⟨rfl, rfl⟩ : g = g' ∧ off = off' := by injection e' with e'; injection e' with e1 e2 e3; exact ⟨e1, e2⟩
  clear e'
  obtain ⟨g', off', e', -, a5⟩ := row_at_1 (i := 5) hrow rfl rfl
  obtain ⟨rfl, rfl⟩ : g = g' ∧ off = off' := by injection e' with e'; injection e' with e1 e2 e3; exact ⟨e1, e2⟩
  clear e'
  obtain ⟨g', off', e', -, a7⟩ := row_at_1 (i := 7) hrow rfl rfl
  obtain ⟨rfl, rfl⟩ : g = g' ∧ off = off' := by injection e' with e'; injection e' with e1 e2 e3; exact ⟨e1, e2⟩
  clear e'
  rw [Nat.add_zero] at a0
  clear hb ho hrow a0
  cases d0 : ((ba a).toList == [115, 104, 114, 105, 110, 107]) with
  | false =>
    go_wp2
    refine bodyPost_ret (v := .tuple #[.agg #[.string ⟨#[]⟩, .int .i64 0, .int .i64 0, .int .i64 0, .int .i64 0], .bool false]) ?_ rfl (clay_no HN.out rfl ?_)
    · simp [results, Tryz.results21, go_sem, r0, r1, r2, r3, r4]
    · have BX := HB1.out
      go_grown
  | true =>
    cases d1 : ((ba b).toList == [108, 105, 109, 101]) with
    | false =>
      go_wp2
      refine bodyPost_ret (v := .tuple #[.agg #[.string ⟨#[]⟩, .int .i64 0, .int .i64 0, .int .i64 0, .int .i64 0], .bool false]) ?_ rfl (clay_no HN.out rfl ?_)
      · simp [results, Tryz.results21, go_sem, r0, r1, r2, r3, r4]
      · have BX := HB1.out
        go_grown
    | true =>
      cases d2 : ((ba c).toList == [115, 97, 110, 100]) with
      | false =>
        go_wp2
        refine bodyPost_ret (v := .tuple #[.agg #[.string ⟨#[]⟩, .int .i64 0, .int .i64 0, .int .i64 0, .int .i64 0], .bool false]) ?_ rfl (clay_no HN.out rfl ?_)
        · simp [results, Tryz.results21, go_sem, r0, r1, r2, r3, r4]
        · have BX := HB1.out
          go_grown
      | true =>
        cases d3 : ((ba d).toList == [112, 114, 105, 99, 101]) with
        | false =>
          go_wp2
          refine bodyPost_ret (v := .tuple #[.agg #[.string ⟨#[]⟩, .int .i64 0, .int .i64 0, .int .i64 0, .int .i64 0], .bool false]) ?_ rfl (clay_no HN.out rfl ?_)
          · simp [results, Tryz.results21, go_sem, r0, r1, r2, r3, r4]
          · have BX := HB1.out
            go_grown
        | true =>
          exfalso
          rw [Lib.toList_data, ba_data, beq_iff_eq] at d0
          rw [Lib.toList_data, ba_data, beq_iff_eq] at d1
          rw [Lib.toList_data, ba_data, beq_iff_eq] at d2
          rw [Lib.toList_data, ba_data, beq_iff_eq] at d3
          exact HW.out ⟨d0, d1, d2, d3⟩
end Go.Proofs.YtfjdhjbfingofaaGreatDoor
