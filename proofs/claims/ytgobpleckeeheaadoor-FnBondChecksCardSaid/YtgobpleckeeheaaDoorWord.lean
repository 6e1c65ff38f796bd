/-
  What is proved: the course of a word and the kind of its problem, of the reference. Condition: a length that fits.
-/
import Derived.Test.YtgobpleckeeheaaDoorReadP
import Derived.Test.YtgobpleckeeheaaDoorCourseM
namespace Go.Proofs.YtgobpleckeeheaaDoor
open Go.RowKit Go.PlainAid
set_option linter.unusedVariables false

def wordC (w : List UInt8) : Course := if 1 < w.count 43 then ⟨⟨#[]⟩, ⟨#[]⟩⟩ else courseOfL w
theorem wordC_zero {w : List UInt8} (h : kindL w = 0) : wordC w = courseOfL w := by
  have hc := kind_zero.1 h
  have := course_count hc.1
  rw [hc.2] at this
  unfold wordC
  rw [if_neg (by split at this <;> omega)]
theorem splB_length (c : UInt8) (s : ByteArray) : (splB c s).length = s.data.toList.count c + 1 := by
  unfold splB
  rw [List.length_map, spl_length]
theorem shape_none {s : ByteArray} (h : (43 : UInt8) ∉ s.data.toList) : splB 43 s = [s] ∧ courseOfL s.data.toList = ⟨⟨#[]⟩, s⟩ ∧ s.data.toList.count 43 = 0 := by
  refine ⟨?_, ?_, List.count_eq_zero_of_not_mem h⟩
  · unfold splB
    rw [spl_none h, List.map_cons, ba_of]
    rfl
  · unfold courseOfL
    rw [cut_none h, if_neg (by simp), ba_of]
theorem shape_one {s : ByteArray} (h : s.data.toList.count 43 = 1) : ∃ l y, splB 43 s = [l, y] ∧ courseOfL s.data.toList = ⟨l, y⟩ ∧ l.size ≤ s.size ∧ y.size ≤ s.size := by
  rcases spl_cases 43 s.data.toList with ⟨h1, -⟩ | ⟨a, b, e, ha, -⟩
  · rw [List.count_eq_zero_of_not_mem h1] at h
    omega
  · have hb : (43 : UInt8) ∉ b := by
      rw [e, List.count_append, List.count_eq_zero_of_not_mem ha, List.count_cons_self] at h
      exact List.count_eq_zero.1 (by omega)
    have hl : s.size = a.length + (b.length + 1) := by rw [← data_size, e]; simp
    refine ⟨ba a, ba b, ?_, ?_, by rw [ba_size]; omega, by rw [ba_size]; omega⟩
    · unfold splB
      rw [e, spl_cut ha, spl_none hb]
      rfl
    · unfold courseOfL
      rw [e, cut_hit ha, if_pos rfl]
theorem kind_many {w : List UInt8} (h : 1 < w.count 43) : kindL w = 3 := by unfold kindL; rw [if_pos (.inl h)]
theorem kind_piece {w : List UInt8} {l y : ByteArray} (hc : courseOfL w = ⟨l, y⟩) (h : pieceB l = false) : kindL w = 3 := by unfold kindL; rw [hc, if_pos (.inr (.inl h))]
theorem kind_plain {w : List UInt8} {l y : ByteArray} (hc : courseOfL w = ⟨l, y⟩) (h : plainB y = false) : kindL w = 3 := by unfold kindL; rw [hc, if_pos (.inr (.inr h))]
theorem kind_rest {w : List UInt8} {l y : ByteArray} (hc : courseOfL w = ⟨l, y⟩) (hn : ¬ 1 < w.count 43) (h1 : pieceB l = true) (h2 : plainB y = true) : kindL w = if y.size = 0 ∨ (w.count 43 = 1 ∧ l.size = 0) then 4 else if 6 < l.size ∨ 8 < y.size then 5 else 0 := by
  unfold kindL
  rw [hc, if_neg]
  rintro (q | q | q)
  · exact hn q
  · rw [h1] at q; cases q
  · rw [h2] at q; cases q
theorem piece_empty : pieceB ⟨#[]⟩ = true := by
  unfold pieceB onlyB
  exact decide_eq_true (fun j hj => absurd hj (Nat.not_lt_zero j))
theorem isEmpty_of {s : ByteArray} (h : s.size = 0) : s.toList.isEmpty = true := by rw [empty_of h, Lib.toList_data]; rfl
/-- What a word gives. -/
def WordPost (s : ByteArray) (w : World) (e : Ending) (w' : World) : Prop := e = .returned (.tuple #[.agg #[.string (wordC s.data.toList).lead, .string (wordC s.data.toList).cycle], .int .i64 (kindL s.data.toList)]) ∧ Below w.heap.size w w'
theorem wordPost {s l y : ByteArray} {k : Int} {w w' : World} {e : Ending} (hc : wordC s.data.toList = ⟨l, y⟩) (hk : kindL s.data.toList = k) (he : e = .returned (.tuple #[.agg #[.string l, .string y], .int .i64 k])) (hb : Below w.heap.size w w') : WordPost s w e w' := by
  unfold WordPost
  rw [hc, hk]
  exact ⟨he, hb⟩
set_option maxRecDepth 100000 in
set_option maxHeartbeats 1000000 in
theorem word_many (s : ByteArray) (w : World) (hs : s.size ≤ 1048576) (h : 1 < s.data.toList.count 43) :
    Calls Tryd.prog 51 #[.string s] w (WordPost s w) := by
  have hle : True := trivial
  have HC := hide (show wordC s.data.toList = ⟨⟨#[]⟩, ⟨#[]⟩⟩ from by unfold wordC; rw [if_pos h])
  have HK := hide (kind_many h)
  have HN := hide (splB_length 43 s)
  have hn3 : 2 < (splB 43 s).length := by rw [HN.out]; omega
  have HB0 := hide ((Below.refl w.heap.size w).alloc (Nat.le_refl _) (.cells #[.string ⟨#[]⟩, .string ⟨#[]⟩] 33))
  clear h hle
  go_enter Tryd.func51, Tryd.ntmps51
  go_wp2_with fail
  refine (spec_l01Split s 43 43 _ rfl (by omega)).mono ?_
  rintro e w1 ⟨A, C, rfl, ho, hb1⟩
  have HB1 := hide (HB0.out.trans (hb1.mono (by simp)))
  have r0 := (hb1.cell (p := ⟨w.heap.size, 0, none⟩) (by simp)).trans (show _ = some (.string ⟨#[]⟩) from by simp [go_sem])
  have r1 := (hb1.cell (p := ⟨w.heap.size, 1, none⟩) (by simp)).trans (show _ = some (.string ⟨#[]⟩) from by simp [go_sem])
  have x0 := ((bcell hb1).2 w.heap.size 0 (by simp)).trans (show _ = false from by simp [go_sem])
  have x1 := ((bcell hb1).2 w.heap.size 1 (by simp)).trans (show _ = false from by simp [go_sem])
  have hz : w.heap.size < w1.heap.size := by have := hb1.size; simp at this; omega
  have HRW := hide (show Row encS 1 w1 A (splB 43 s) from ho.row (fun _ => rfl))
  clear hb1 ho
  go_wp2
  refine bodyPost_ret (v := .tuple #[.agg #[.string ⟨#[]⟩, .string ⟨#[]⟩], .int .i64 3]) ?_ rfl (wordPost HC.out HK.out rfl ?_)
  · simp [results, Tryd.results51, go_sem, r0, r1]
  · have BX := HB1.out
    first
      | exact ((below_drewN (BX.alloc (Nat.le_of_lt hz) _) _).setCell (Nat.le_refl _) _).setCell (Nat.le_refl _) _
      | go_grown
set_option maxRecDepth 100000 in
set_option maxHeartbeats 1000000 in
theorem wordA_plain (s : ByteArray) (w : World) (hs : s.size ≤ 1048576) (hsp : splB 43 s = [s]) (hc : courseOfL s.data.toList = ⟨⟨#[]⟩, s⟩) (hcn : s.data.toList.count 43 = 0) (h2 : plainB s = false) :
    Calls Tryd.prog 51 #[.string s] w (WordPost s w) := by
  have hle : s.size ≤ maxLen := by unfold maxLen; omega
  have HC := hide (show wordC s.data.toList = ⟨⟨#[]⟩, s⟩ from by unfold wordC; rw [if_neg (by omega), hc])
  have HK := hide (show kindL s.data.toList = 3 from kind_plain hc h2)
  have HSP := hide hsp
  have HB0 := hide ((Below.refl w.heap.size w).alloc (Nat.le_refl _) (.cells #[.string ⟨#[]⟩, .string ⟨#[]⟩] 33))
  clear hsp hc hcn
  go_enter Tryd.func51, Tryd.ntmps51
  go_wp2_with fail
  refine (spec_l01Split s 43 43 _ rfl (by omega)).mono ?_
  rintro e w1 ⟨A, C, rfl, ho, hb1⟩
  have HB1 := hide (HB0.out.trans (hb1.mono (by simp)))
  have r0 := (hb1.cell (p := ⟨w.heap.size, 0, none⟩) (by simp)).trans (show _ = some (.string ⟨#[]⟩) from by simp [go_sem])
  have r1 := (hb1.cell (p := ⟨w.heap.size, 1, none⟩) (by simp)).trans (show _ = some (.string ⟨#[]⟩) from by simp [go_sem])
  have x0 := ((bcell hb1).2 w.heap.size 0 (by simp)).trans (show _ = false from by simp [go_sem])
  have x1 := ((bcell hb1).2 w.heap.size 1 (by simp)).trans (show _ = false from by simp [go_sem])
  have hz : w.heap.size < w1.heap.size := by have := hb1.size; simp at this; omega
  have HRW := hide (show Row encS 1 w1 A (splB 43 s) from ho.row (fun _ => rfl))
  clear hb1 ho
  rw [HSP.out] at HRW ⊢
  obtain ⟨b0, off0, rfl, hb0, a0⟩ := row_at_1 (i := 0) HRW.out rfl rfl
  rw [Nat.add_zero] at a0
  go_wp2_with fail
  refine (spec_l04Pieces ⟨#[]⟩ _ (by show (0 : Nat) ≤ maxLen; exact Nat.zero_le _)).mono ?_
  rintro e w2 ⟨rfl, q2, rfl⟩
  rw [show onlyB pcC ⟨#[]⟩ = true from piece_empty]
  go_wp2_with fail
  refine (spec_l04Plain s _ hle).mono ?_
  rintro e w3 ⟨rfl, q3, rfl⟩
  rw [show onlyB plC s = false from h2]
  go_wp2
  refine bodyPost_ret (v := .tuple #[.agg #[.string ⟨#[]⟩, .string s], .int .i64 3]) ?_ rfl (wordPost HC.out HK.out rfl ?_)
  · have e0 := (World.cell?_alloc_lt w1 (.cells #[.string ⟨#[]⟩, .string s] 33) ⟨w.heap.size, 0, none⟩ hz).trans r0
    have e1 := (World.cell?_alloc_lt w1 (.cells #[.string ⟨#[]⟩, .string s] 33) ⟨w.heap.size, 1, none⟩ hz).trans r1
    simp [results, Tryd.results51, go_sem, e0, e1]
  · have BX := HB1.out
    first
      | exact ((below_drewN (BX.alloc (Nat.le_of_lt hz) _) _).setCell (Nat.le_refl _) _).setCell (Nat.le_refl _) _
      | go_grown
set_option maxRecDepth 100000 in
set_option maxHeartbeats 1000000 in
theorem wordA_empty (s : ByteArray) (w : World) (hs : s.size ≤ 1048576) (hsp : splB 43 s = [s]) (hc : courseOfL s.data.toList = ⟨⟨#[]⟩, s⟩) (hcn : s.data.toList.count 43 = 0) (h2 : plainB s = true) (h3 : s.size = 0) :
    Calls Tryd.prog 51 #[.string s] w (WordPost s w) := by
  have hle : s.size ≤ maxLen := by unfold maxLen; omega
  have HC := hide (show wordC s.data.toList = ⟨⟨#[]⟩, s⟩ from by unfold wordC; rw [if_neg (by omega), hc])
  have HK := hide (show kindL s.data.toList = 4 from by rw [kind_rest hc (by omega) piece_empty h2]; rw [if_pos (.inl h3)])
  have HSP := hide hsp
  have HB0 := hide ((Below.refl w.heap.size w).alloc (Nat.le_refl _) (.cells #[.string ⟨#[]⟩, .string ⟨#[]⟩] 33))
  clear hsp hc hcn
  have em := isEmpty_of h3
  clear h3
  go_enter Tryd.func51, Tryd.ntmps51
  go_wp2_with fail
  refine (spec_l01Split s 43 43 _ rfl (by omega)).mono ?_
  rintro e w1 ⟨A, C, rfl, ho, hb1⟩
  have HB1 := hide (HB0.out.trans (hb1.mono (by simp)))
  have r0 := (hb1.cell (p := ⟨w.heap.size, 0, none⟩) (by simp)).trans (show _ = some (.string ⟨#[]⟩) from by simp [go_sem])
  have r1 := (hb1.cell (p := ⟨w.heap.size, 1, none⟩) (by simp)).trans (show _ = some (.string ⟨#[]⟩) from by simp [go_sem])
  have x0 := ((bcell hb1).2 w.heap.size 0 (by simp)).trans (show _ = false from by simp [go_sem])
  have x1 := ((bcell hb1).2 w.heap.size 1 (by simp)).trans (show _ = false from by simp [go_sem])
  have hz : w.heap.size < w1.heap.size := by have := hb1.size; simp at this; omega
  have HRW := hide (show Row encS 1 w1 A (splB 43 s) from ho.row (fun _ => rfl))
  clear hb1 ho
  rw [HSP.out] at HRW ⊢
  obtain ⟨b0, off0, rfl, hb0, a0⟩ := row_at_1 (i := 0) HRW.out rfl rfl
  rw [Nat.add_zero] at a0
  go_wp2_with fail
  refine (spec_l04Pieces ⟨#[]⟩ _ (by show (0 : Nat) ≤ maxLen; exact Nat.zero_le _)).mono ?_
  rintro e w2 ⟨rfl, q2, rfl⟩
  rw [show onlyB pcC ⟨#[]⟩ = true from piece_empty]
  go_wp2_with fail
  refine (spec_l04Plain s _ hle).mono ?_
  rintro e w3 ⟨rfl, q3, rfl⟩
  rw [show onlyB plC s = true from h2]
  go_wp2
  refine bodyPost_ret (v := .tuple #[.agg #[.string ⟨#[]⟩, .string s], .int .i64 4]) ?_ rfl (wordPost HC.out HK.out rfl ?_)
  · have e0 := (World.cell?_alloc_lt w1 (.cells #[.string ⟨#[]⟩, .string s] 33) ⟨w.heap.size, 0, none⟩ hz).trans r0
    have e1 := (World.cell?_alloc_lt w1 (.cells #[.string ⟨#[]⟩, .string s] 33) ⟨w.heap.size, 1, none⟩ hz).trans r1
    simp [results, Tryd.results51, go_sem, e0, e1]
  · have BX := HB1.out
    first
      | exact ((below_drewN (BX.alloc (Nat.le_of_lt hz) _) _).setCell (Nat.le_refl _) _).setCell (Nat.le_refl _) _
      | go_grown
set_option maxRecDepth 100000 in
set_option maxHeartbeats 1000000 in
theorem wordA_long (s : ByteArray) (w : World) (hs : s.size ≤ 1048576) (hsp : splB 43 s = [s]) (hc : courseOfL s.data.toList = ⟨⟨#[]⟩, s⟩) (hcn : s.data.toList.count 43 = 0) (h2 : plainB s = true) (h3 : ¬ s.size = 0) (h4 : 8 < s.size) :
    Calls Tryd.prog 51 #[.string s] w (WordPost s w) := by
  have hle : s.size ≤ maxLen := by unfold maxLen; omega
  have HC := hide (show wordC s.data.toList = ⟨⟨#[]⟩, s⟩ from by unfold wordC; rw [if_neg (by omega), hc])
  have HK := hide (show kindL s.data.toList = 5 from by rw [kind_rest hc (by omega) piece_empty h2]; rw [if_neg (by rintro (q | q) <;> omega), if_pos (.inr h4)])
  have HSP := hide hsp
  have HB0 := hide ((Below.refl w.heap.size w).alloc (Nat.le_refl _) (.cells #[.string ⟨#[]⟩, .string ⟨#[]⟩] 33))
  clear hsp hc hcn
  have em := nonempty_of h3
  clear h3
  go_enter Tryd.func51, Tryd.ntmps51
  go_wp2_with fail
  refine (spec_l01Split s 43 43 _ rfl (by omega)).mono ?_
  rintro e w1 ⟨A, C, rfl, ho, hb1⟩
  have HB1 := hide (HB0.out.trans (hb1.mono (by simp)))
  have r0 := (hb1.cell (p := ⟨w.heap.size, 0, none⟩) (by simp)).trans (show _ = some (.string ⟨#[]⟩) from by simp [go_sem])
  have r1 := (hb1.cell (p := ⟨w.heap.size, 1, none⟩) (by simp)).trans (show _ = some (.string ⟨#[]⟩) from by simp [go_sem])
  have x0 := ((bcell hb1).2 w.heap.size 0 (by simp)).trans (show _ = false from by simp [go_sem])
  have x1 := ((bcell hb1).2 w.heap.size 1 (by simp)).trans (show _ = false from by simp [go_sem])
  have hz : w.heap.size < w1.heap.size := by have := hb1.size; simp at this; omega
  have HRW := hide (show Row encS 1 w1 A (splB 43 s) from ho.row (fun _ => rfl))
  clear hb1 ho
  rw [HSP.out] at HRW ⊢
  obtain ⟨b0, off0, rfl, hb0, a0⟩ := row_at_1 (i := 0) HRW.out rfl rfl
  rw [Nat.add_zero] at a0
  go_wp2_with fail
  refine (spec_l04Pieces ⟨#[]⟩ _ (by show (0 : Nat) ≤ maxLen; exact Nat.zero_le _)).mono ?_
  rintro e w2 ⟨rfl, q2, rfl⟩
  rw [show onlyB pcC ⟨#[]⟩ = true from piece_empty]
  go_wp2_with fail
  refine (spec_l04Plain s _ hle).mono ?_
  rintro e w3 ⟨rfl, q3, rfl⟩
  rw [show onlyB plC s = true from h2]
  go_wp2
  refine bodyPost_ret (v := .tuple #[.agg #[.string ⟨#[]⟩, .string s], .int .i64 5]) ?_ rfl (wordPost HC.out HK.out rfl ?_)
  · have e0 := (World.cell?_alloc_lt w1 (.cells #[.string ⟨#[]⟩, .string s] 33) ⟨w.heap.size, 0, none⟩ hz).trans r0
    have e1 := (World.cell?_alloc_lt w1 (.cells #[.string ⟨#[]⟩, .string s] 33) ⟨w.heap.size, 1, none⟩ hz).trans r1
    simp [results, Tryd.results51, go_sem, e0, e1]
  · have BX := HB1.out
    first
      | exact ((below_drewN (BX.alloc (Nat.le_of_lt hz) _) _).setCell (Nat.le_refl _) _).setCell (Nat.le_refl _) _
      | go_grown
set_option maxRecDepth 100000 in
set_option maxHeartbeats 1000000 in
theorem wordA_yes (s : ByteArray) (w : World) (hs : s.size ≤ 1048576) (hsp : splB 43 s = [s]) (hc : courseOfL s.data.toList = ⟨⟨#[]⟩, s⟩) (hcn : s.data.toList.count 43 = 0) (h2 : plainB s = true) (h3 : ¬ s.size = 0) (h4 : ¬ 8 < s.size) :
    Calls Tryd.prog 51 #[.string s] w (WordPost s w) := by
  have hle : s.size ≤ maxLen := by unfold maxLen; omega
  have HC := hide (show wordC s.data.toList = ⟨⟨#[]⟩, s⟩ from by unfold wordC; rw [if_neg (by omega), hc])
  have HK := hide (show kindL s.data.toList = 0 from by rw [kind_rest hc (by omega) piece_empty h2]; rw [if_neg (by rintro (q | q) <;> omega), if_neg (by rintro (q | q); exact absurd q (by decide); exact h4 q)])
  have HSP := hide hsp
  have HB0 := hide ((Below.refl w.heap.size w).alloc (Nat.le_refl _) (.cells #[.string ⟨#[]⟩, .string ⟨#[]⟩] 33))
  clear hsp hc hcn
  have em := nonempty_of h3
  clear h3
  go_enter Tryd.func51, Tryd.ntmps51
  go_wp2_with fail
  refine (spec_l01Split s 43 43 _ rfl (by omega)).mono ?_
  rintro e w1 ⟨A, C, rfl, ho, hb1⟩
  have HB1 := hide (HB0.out.trans (hb1.mono (by simp)))
  have r0 := (hb1.cell (p := ⟨w.heap.size, 0, none⟩) (by simp)).trans (show _ = some (.string ⟨#[]⟩) from by simp [go_sem])
  have r1 := (hb1.cell (p := ⟨w.heap.size, 1, none⟩) (by simp)).trans (show _ = some (.string ⟨#[]⟩) from by simp [go_sem])
  have x0 := ((bcell hb1).2 w.heap.size 0 (by simp)).trans (show _ = false from by simp [go_sem])
  have x1 := ((bcell hb1).2 w.heap.size 1 (by simp)).trans (show _ = false from by simp [go_sem])
  have hz : w.heap.size < w1.heap.size := by have := hb1.size; simp at this; omega
  have HRW := hide (show Row encS 1 w1 A (splB 43 s) from ho.row (fun _ => rfl))
  clear hb1 ho
  rw [HSP.out] at HRW ⊢
  obtain ⟨b0, off0, rfl, hb0, a0⟩ := row_at_1 (i := 0) HRW.out rfl rfl
  rw [Nat.add_zero] at a0
  go_wp2_with fail
  refine (spec_l04Pieces ⟨#[]⟩ _ (by show (0 : Nat) ≤ maxLen; exact Nat.zero_le _)).mono ?_
  rintro e w2 ⟨rfl, q2, rfl⟩
  rw [show onlyB pcC ⟨#[]⟩ = true from piece_empty]
  go_wp2_with fail
  refine (spec_l04Plain s _ hle).mono ?_
  rintro e w3 ⟨rfl, q3, rfl⟩
  rw [show onlyB plC s = true from h2]
  go_wp2
  refine bodyPost_ret (v := .tuple #[.agg #[.string ⟨#[]⟩, .string s], .int .i64 0]) ?_ rfl (wordPost HC.out HK.out rfl ?_)
  · have e0 := (World.cell?_alloc_lt w1 (.cells #[.string ⟨#[]⟩, .string s] 33) ⟨w.heap.size, 0, none⟩ hz).trans r0
    have e1 := (World.cell?_alloc_lt w1 (.cells #[.string ⟨#[]⟩, .string s] 33) ⟨w.heap.size, 1, none⟩ hz).trans r1
    simp [results, Tryd.results51, go_sem, e0, e1]
  · have BX := HB1.out
    first
      | exact ((below_drewN (BX.alloc (Nat.le_of_lt hz) _) _).setCell (Nat.le_refl _) _).setCell (Nat.le_refl _) _
      | go_grown
set_option maxRecDepth 100000 in
set_option maxHeartbeats 1000000 in
theorem wordB_piece (s l y : ByteArray) (w : World) (hs : s.size ≤ 1048576) (hsp : splB 43 s = [l, y]) (hc : courseOfL s.data.toList = ⟨l, y⟩) (hcn : s.data.toList.count 43 = 1) (hl0 : l.size ≤ s.size) (hy0 : y.size ≤ s.size) (h1 : pieceB l = false) :
    Calls Tryd.prog 51 #[.string s] w (WordPost s w) := by
  have hle : l.size ≤ maxLen ∧ y.size ≤ maxLen := by unfold maxLen; omega
  have HC := hide (show wordC s.data.toList = ⟨l, y⟩ from by unfold wordC; rw [if_neg (by omega), hc])
  have HK := hide (show kindL s.data.toList = 3 from kind_piece hc h1)
  have HSP := hide hsp
  have HB0 := hide ((Below.refl w.heap.size w).alloc (Nat.le_refl _) (.cells #[.string ⟨#[]⟩, .string ⟨#[]⟩] 33))
  clear hsp hc hcn
  go_enter Tryd.func51, Tryd.ntmps51
  go_wp2_with fail
  refine (spec_l01Split s 43 43 _ rfl (by omega)).mono ?_
  rintro e w1 ⟨A, C, rfl, ho, hb1⟩
  have HB1 := hide (HB0.out.trans (hb1.mono (by simp)))
  have r0 := (hb1.cell (p := ⟨w.heap.size, 0, none⟩) (by simp)).trans (show _ = some (.string ⟨#[]⟩) from by simp [go_sem])
  have r1 := (hb1.cell (p := ⟨w.heap.size, 1, none⟩) (by simp)).trans (show _ = some (.string ⟨#[]⟩) from by simp [go_sem])
  have x0 := ((bcell hb1).2 w.heap.size 0 (by simp)).trans (show _ = false from by simp [go_sem])
  have x1 := ((bcell hb1).2 w.heap.size 1 (by simp)).trans (show _ = false from by simp [go_sem])
  have hz : w.heap.size < w1.heap.size := by have := hb1.size; simp at this; omega
  have HRW := hide (show Row encS 1 w1 A (splB 43 s) from ho.row (fun _ => rfl))
  clear hb1 ho
  rw [HSP.out] at HRW ⊢
  obtain ⟨b0, off0, rfl, hb0, a0⟩ := row_at_1 (i := 0) HRW.out rfl rfl
  obtain ⟨b9, off9, e9, hb9, a1⟩ := row_at_1 (i := 1) HRW.out rfl rfl
  obtain ⟨rfl, rfl⟩ : b9 = b0 ∧ off9 = off0 := by injection e9 with e9; injection e9 with e1 e2 e3; exact ⟨e1.symm, e2.symm⟩
  rw [Nat.add_zero] at a0
  clear e9
  go_wp2_with fail
  refine (spec_l04Pieces l _ hle.1).mono ?_
  rintro e w2 ⟨rfl, q2, rfl⟩
  rw [show onlyB pcC l = false from h1]
  go_wp2
  refine bodyPost_ret (v := .tuple #[.agg #[.string l, .string y], .int .i64 3]) ?_ rfl (wordPost HC.out HK.out rfl ?_)
  · have e0 := (World.cell?_alloc_lt w1 (.cells #[.string l, .string y] 33) ⟨w.heap.size, 0, none⟩ hz).trans r0
    have e1 := (World.cell?_alloc_lt w1 (.cells #[.string l, .string y] 33) ⟨w.heap.size, 1, none⟩ hz).trans r1
    simp [results, Tryd.results51, go_sem, e0, e1]
  · have BX := HB1.out
    first
      | exact ((below_drewN (BX.alloc (Nat.le_of_lt hz) _) _).setCell (Nat.le_refl _) _).setCell (Nat.le_refl _) _
      | go_grown
set_option maxRecDepth 100000 in
set_option maxHeartbeats 1000000 in
theorem wordB_plain (s l y : ByteArray) (w : World) (hs : s.size ≤ 1048576) (hsp : splB 43 s = [l, y]) (hc : courseOfL s.data.toList = ⟨l, y⟩) (hcn : s.data.toList.count 43 = 1) (hl0 : l.size ≤ s.size) (hy0 : y.size ≤ s.size) (h1 : pieceB l = true) (h2 : plainB y = false) :
    Calls Tryd.prog 51 #[.string s] w (WordPost s w) := by
  have hle : l.size ≤ maxLen ∧ y.size ≤ maxLen := by unfold maxLen; omega
  have HC := hide (show wordC s.data.toList = ⟨l, y⟩ from by unfold wordC; rw [if_neg (by omega), hc])
  have HK := hide (show kindL s.data.toList = 3 from kind_plain hc h2)
  have HSP := hide hsp
  have HB0 := hide ((Below.refl w.heap.size w).alloc (Nat.le_refl _) (.cells #[.string ⟨#[]⟩, .string ⟨#[]⟩] 33))
  clear hsp hc hcn
  go_enter Tryd.func51, Tryd.ntmps51
  go_wp2_with fail
  refine (spec_l01Split s 43 43 _ rfl (by omega)).mono ?_
  rintro e w1 ⟨A, C, rfl, ho, hb1⟩
  have HB1 := hide (HB0.out.trans (hb1.mono (by simp)))
  have r0 := (hb1.cell (p := ⟨w.heap.size, 0, none⟩) (by simp)).trans (show _ = some (.string ⟨#[]⟩) from by simp [go_sem])
  have r1 := (hb1.cell (p := ⟨w.heap.size, 1, none⟩) (by simp)).trans (show _ = some (.string ⟨#[]⟩) from by simp [go_sem])
  have x0 := ((bcell hb1).2 w.heap.size 0 (by simp)).trans (show _ = false from by simp [go_sem])
  have x1 := ((bcell hb1).2 w.heap.size 1 (by simp)).trans (show _ = false from by simp [go_sem])
  have hz : w.heap.size < w1.heap.size := by have := hb1.size; simp at this; omega
  have HRW := hide (show Row encS 1 w1 A (splB 43 s) from ho.row (fun _ => rfl))
  clear hb1 ho
  rw [HSP.out] at HRW ⊢
  obtain ⟨b0, off0, rfl, hb0, a0⟩ := row_at_1 (i := 0) HRW.out rfl rfl
  obtain ⟨b9, off9, e9, hb9, a1⟩ := row_at_1 (i := 1) HRW.out rfl rfl
  obtain ⟨rfl, rfl⟩ : b9 = b0 ∧ off9 = off0 := by injection e9 with e9; injection e9 with e1 e2 e3; exact ⟨e1.symm, e2.symm⟩
  rw [Nat.add_zero] at a0
  clear e9
  go_wp2_with fail
  refine (spec_l04Pieces l _ hle.1).mono ?_
  rintro e w2 ⟨rfl, q2, rfl⟩
  rw [show onlyB pcC l = true from h1]
  go_wp2_with fail
  refine (spec_l04Plain y _ hle.2).mono ?_
  rintro e w3 ⟨rfl, q3, rfl⟩
  rw [show onlyB plC y = false from h2]
  go_wp2
  refine bodyPost_ret (v := .tuple #[.agg #[.string l, .string y], .int .i64 3]) ?_ rfl (wordPost HC.out HK.out rfl ?_)
  · have e0 := (World.cell?_alloc_lt w1 (.cells #[.string l, .string y] 33) ⟨w.heap.size, 0, none⟩ hz).trans r0
    have e1 := (World.cell?_alloc_lt w1 (.cells #[.string l, .string y] 33) ⟨w.heap.size, 1, none⟩ hz).trans r1
    simp [results, Tryd.results51, go_sem, e0, e1]
  · have BX := HB1.out
    first
      | exact ((below_drewN (BX.alloc (Nat.le_of_lt hz) _) _).setCell (Nat.le_refl _) _).setCell (Nat.le_refl _) _
      | go_grown
set_option maxRecDepth 100000 in
set_option maxHeartbeats 1000000 in
theorem wordB_empty (s l y : ByteArray) (w : World) (hs : s.size ≤ 1048576) (hsp : splB 43 s = [l, y]) (hc : courseOfL s.data.toList = ⟨l, y⟩) (hcn : s.data.toList.count 43 = 1) (hl0 : l.size ≤ s.size) (hy0 : y.size ≤ s.size) (h1 : pieceB l = true) (h2 : plainB y = true) (h3 : y.size = 0) :
    Calls Tryd.prog 51 #[.string s] w (WordPost s w) := by
  have hle : l.size ≤ maxLen ∧ y.size ≤ maxLen := by unfold maxLen; omega
  have HC := hide (show wordC s.data.toList = ⟨l, y⟩ from by unfold wordC; rw [if_neg (by omega), hc])
  have HK := hide (show kindL s.data.toList = 4 from by rw [kind_rest hc (by omega) h1 h2]; rw [if_pos (.inl h3)])
  have HSP := hide hsp
  have HB0 := hide ((Below.refl w.heap.size w).alloc (Nat.le_refl _) (.cells #[.string ⟨#[]⟩, .string ⟨#[]⟩] 33))
  clear hsp hc hcn
  have em := isEmpty_of h3
  clear h3
  go_enter Tryd.func51, Tryd.ntmps51
  go_wp2_with fail
  refine (spec_l01Split s 43 43 _ rfl (by omega)).mono ?_
  rintro e w1 ⟨A, C, rfl, ho, hb1⟩
  have HB1 := hide (HB0.out.trans (hb1.mono (by simp)))
  have r0 := (hb1.cell (p := ⟨w.heap.size, 0, none⟩) (by simp)).trans (show _ = some (.string ⟨#[]⟩) from by simp [go_sem])
  have r1 := (hb1.cell (p := ⟨w.heap.size, 1, none⟩) (by simp)).trans (show _ = some (.string ⟨#[]⟩) from by simp [go_sem])
  have x0 := ((bcell hb1).2 w.heap.size 0 (by simp)).trans (show _ = false from by simp [go_sem])
  have x1 := ((bcell hb1).2 w.heap.size 1 (by simp)).trans (show _ = false from by simp [go_sem])
  have hz : w.heap.size < w1.heap.size := by have := hb1.size; simp at this; omega
  have HRW := hide (show Row encS 1 w1 A (splB 43 s) from ho.row (fun _ => rfl))
  clear hb1 ho
  rw [HSP.out] at HRW ⊢
  obtain ⟨b0, off0, rfl, hb0, a0⟩ := row_at_1 (i := 0) HRW.out rfl rfl
  obtain ⟨b9, off9, e9, hb9, a1⟩ := row_at_1 (i := 1) HRW.out rfl rfl
  obtain ⟨rfl, rfl⟩ : b9 = b0 ∧ off9 = off0 := by injection e9 with e9; injection e9 with e1 e2 e3; exact ⟨e1.symm, e2.symm⟩
  rw [Nat.add_zero] at a0
  clear e9
  go_wp2_with fail
  refine (spec_l04Pieces l _ hle.1).mono ?_
  rintro e w2 ⟨rfl, q2, rfl⟩
  rw [show onlyB pcC l = true from h1]
  go_wp2_with fail
  refine (spec_l04Plain y _ hle.2).mono ?_
  rintro e w3 ⟨rfl, q3, rfl⟩
  rw [show onlyB plC y = true from h2]
  go_wp2
  refine bodyPost_ret (v := .tuple #[.agg #[.string l, .string y], .int .i64 4]) ?_ rfl (wordPost HC.out HK.out rfl ?_)
  · have e0 := (World.cell?_alloc_lt w1 (.cells #[.string l, .string y] 33) ⟨w.heap.size, 0, none⟩ hz).trans r0
    have e1 := (World.cell?_alloc_lt w1 (.cells #[.string l, .string y] 33) ⟨w.heap.size, 1, none⟩ hz).trans r1
    simp [results, Tryd.results51, go_sem, e0, e1]
  · have BX := HB1.out
    first
      | exact ((below_drewN (BX.alloc (Nat.le_of_lt hz) _) _).setCell (Nat.le_refl _) _).setCell (Nat.le_refl _) _
      | go_grown
set_option maxRecDepth 100000 in
set_option maxHeartbeats 1000000 in
theorem wordB_lead (s l y : ByteArray) (w : World) (hs : s.size ≤ 1048576) (hsp : splB 43 s = [l, y]) (hc : courseOfL s.data.toList = ⟨l, y⟩) (hcn : s.data.toList.count 43 = 1) (hl0 : l.size ≤ s.size) (hy0 : y.size ≤ s.size) (h1 : pieceB l = true) (h2 : plainB y = true) (h3 : ¬ y.size = 0) (h4 : l.size = 0) :
    Calls Tryd.prog 51 #[.string s] w (WordPost s w) := by
  have hle : l.size ≤ maxLen ∧ y.size ≤ maxLen := by unfold maxLen; omega
  have HC := hide (show wordC s.data.toList = ⟨l, y⟩ from by unfold wordC; rw [if_neg (by omega), hc])
  have HK := hide (show kindL s.data.toList = 4 from by rw [kind_rest hc (by omega) h1 h2]; rw [if_pos (.inr ⟨hcn, h4⟩)])
  have HSP := hide hsp
  have HB0 := hide ((Below.refl w.heap.size w).alloc (Nat.le_refl _) (.cells #[.string ⟨#[]⟩, .string ⟨#[]⟩] 33))
  clear hsp hc hcn
  have em := nonempty_of h3
  have es := isEmpty_of h4
  clear h3 h4
  go_enter Tryd.func51, Tryd.ntmps51
  go_wp2_with fail
  refine (spec_l01Split s 43 43 _ rfl (by omega)).mono ?_
  rintro e w1 ⟨A, C, rfl, ho, hb1⟩
  have HB1 := hide (HB0.out.trans (hb1.mono (by simp)))
  have r0 := (hb1.cell (p := ⟨w.heap.size, 0, none⟩) (by simp)).trans (show _ = some (.string ⟨#[]⟩) from by simp [go_sem])
  have r1 := (hb1.cell (p := ⟨w.heap.size, 1, none⟩) (by simp)).trans (show _ = some (.string ⟨#[]⟩) from by simp [go_sem])
  have x0 := ((bcell hb1).2 w.heap.size 0 (by simp)).trans (show _ = false from by simp [go_sem])
  have x1 := ((bcell hb1).2 w.heap.size 1 (by simp)).trans (show _ = false from by simp [go_sem])
  have hz : w.heap.size < w1.heap.size := by have := hb1.size; simp at this; omega
  have HRW := hide (show Row encS 1 w1 A (splB 43 s) from ho.row (fun _ => rfl))
  clear hb1 ho
  rw [HSP.out] at HRW ⊢
  obtain ⟨b0, off0, rfl, hb0, a0⟩ := row_at_1 (i := 0) HRW.out rfl rfl
  obtain ⟨b9, off9, e9, hb9, a1⟩ := row_at_1 (i := 1) HRW.out rfl rfl
  obtain ⟨rfl, rfl⟩ : b9 = b0 ∧ off9 = off0 := by injection e9 with e9; injection e9 with e1 e2 e3; exact ⟨e1.symm, e2.symm⟩
  rw [Nat.add_zero] at a0
  clear e9
  go_wp2_with fail
  refine (spec_l04Pieces l _ hle.1).mono ?_
  rintro e w2 ⟨rfl, q2, rfl⟩
  rw [show onlyB pcC l = true from h1]
  go_wp2_with fail
  refine (spec_l04Plain y _ hle.2).mono ?_
  rintro e w3 ⟨rfl, q3, rfl⟩
  rw [show onlyB plC y = true from h2]
  go_wp2
  refine bodyPost_ret (v := .tuple #[.agg #[.string l, .string y], .int .i64 4]) ?_ rfl (wordPost HC.out HK.out rfl ?_)
  · have e0 := (World.cell?_alloc_lt w1 (.cells #[.string l, .string y] 33) ⟨w.heap.size, 0, none⟩ hz).trans r0
    have e1 := (World.cell?_alloc_lt w1 (.cells #[.string l, .string y] 33) ⟨w.heap.size, 1, none⟩ hz).trans r1
    simp [results, Tryd.results51, go_sem, e0, e1]
  · have BX := HB1.out
    first
      | exact ((below_drewN (BX.alloc (Nat.le_of_lt hz) _) _).setCell (Nat.le_refl _) _).setCell (Nat.le_refl _) _
      | go_grown
set_option maxRecDepth 100000 in
set_option maxHeartbeats 1000000 in
theorem wordB_long1 (s l y : ByteArray) (w : World) (hs : s.size ≤ 1048576) (hsp : splB 43 s = [l, y]) (hc : courseOfL s.data.toList = ⟨l, y⟩) (hcn : s.data.toList.count 43 = 1) (hl0 : l.size ≤ s.size) (hy0 : y.size ≤ s.size) (h1 : pieceB l = true) (h2 : plainB y = true) (h3 : ¬ y.size = 0) (h4 : ¬ l.size = 0) (h5 : 6 < l.size) :
    Calls Tryd.prog 51 #[.string s] w (WordPost s w) := by
  have hle : l.size ≤ maxLen ∧ y.size ≤ maxLen := by unfold maxLen; omega
  have HC := hide (show wordC s.data.toList = ⟨l, y⟩ from by unfold wordC; rw [if_neg (by omega), hc])
  have HK := hide (show kindL s.data.toList = 5 from by rw [kind_rest hc (by omega) h1 h2]; rw [if_neg (by rintro (q | q) <;> omega), if_pos (.inl h5)])
  have HSP := hide hsp
  have HB0 := hide ((Below.refl w.heap.size w).alloc (Nat.le_refl _) (.cells #[.string ⟨#[]⟩, .string ⟨#[]⟩] 33))
  clear hsp hc hcn
  have em := nonempty_of h3
  have em2 := nonempty_of h4
  clear h3 h4
  go_enter Tryd.func51, Tryd.ntmps51
  go_wp2_with fail
  refine (spec_l01Split s 43 43 _ rfl (by omega)).mono ?_
  rintro e w1 ⟨A, C, rfl, ho, hb1⟩
  have HB1 := hide (HB0.out.trans (hb1.mono (by simp)))
  have r0 := (hb1.cell (p := ⟨w.heap.size, 0, none⟩) (by simp)).trans (show _ = some (.string ⟨#[]⟩) from by simp [go_sem])
  have r1 := (hb1.cell (p := ⟨w.heap.size, 1, none⟩) (by simp)).trans (show _ = some (.string ⟨#[]⟩) from by simp [go_sem])
  have x0 := ((bcell hb1).2 w.heap.size 0 (by simp)).trans (show _ = false from by simp [go_sem])
  have x1 := ((bcell hb1).2 w.heap.size 1 (by simp)).trans (show _ = false from by simp [go_sem])
  have hz : w.heap.size < w1.heap.size := by have := hb1.size; simp at this; omega
  have HRW := hide (show Row encS 1 w1 A (splB 43 s) from ho.row (fun _ => rfl))
  clear hb1 ho
  rw [HSP.out] at HRW ⊢
  obtain ⟨b0, off0, rfl, hb0, a0⟩ := row_at_1 (i := 0) HRW.out rfl rfl
  obtain ⟨b9, off9, e9, hb9, a1⟩ := row_at_1 (i := 1) HRW.out rfl rfl
  obtain ⟨rfl, rfl⟩ : b9 = b0 ∧ off9 = off0 := by injection e9 with e9; injection e9 with e1 e2 e3; exact ⟨e1.symm, e2.symm⟩
  rw [Nat.add_zero] at a0
  clear e9
  go_wp2_with fail
  refine (spec_l04Pieces l _ hle.1).mono ?_
  rintro e w2 ⟨rfl, q2, rfl⟩
  rw [show onlyB pcC l = true from h1]
  go_wp2_with fail
  refine (spec_l04Plain y _ hle.2).mono ?_
  rintro e w3 ⟨rfl, q3, rfl⟩
  rw [show onlyB plC y = true from h2]
  go_wp2
  refine bodyPost_ret (v := .tuple #[.agg #[.string l, .string y], .int .i64 5]) ?_ rfl (wordPost HC.out HK.out rfl ?_)
  · have e0 := (World.cell?_alloc_lt w1 (.cells #[.string l, .string y] 33) ⟨w.heap.size, 0, none⟩ hz).trans r0
    have e1 := (World.cell?_alloc_lt w1 (.cells #[.string l, .string y] 33) ⟨w.heap.size, 1, none⟩ hz).trans r1
    simp [results, Tryd.results51, go_sem, e0, e1]
  · have BX := HB1.out
    first
      | exact ((below_drewN (BX.alloc (Nat.le_of_lt hz) _) _).setCell (Nat.le_refl _) _).setCell (Nat.le_refl _) _
      | go_grown
set_option maxRecDepth 100000 in
set_option maxHeartbeats 1000000 in
theorem wordB_long2 (s l y : ByteArray) (w : World) (hs : s.size ≤ 1048576) (hsp : splB 43 s = [l, y]) (hc : courseOfL s.data.toList = ⟨l, y⟩) (hcn : s.data.toList.count 43 = 1) (hl0 : l.size ≤ s.size) (hy0 : y.size ≤ s.size) (h1 : pieceB l = true) (h2 : plainB y = true) (h3 : ¬ y.size = 0) (h4 : ¬ l.size = 0) (h5 : ¬ 6 < l.size) (h6 : 8 < y.size) :
    Calls Tryd.prog 51 #[.string s] w (WordPost s w) := by
  have hle : l.size ≤ maxLen ∧ y.size ≤ maxLen := by unfold maxLen; omega
  have HC := hide (show wordC s.data.toList = ⟨l, y⟩ from by unfold wordC; rw [if_neg (by omega), hc])
  have HK := hide (show kindL s.data.toList = 5 from by rw [kind_rest hc (by omega) h1 h2]; rw [if_neg (by rintro (q | q) <;> omega), if_pos (.inr h6)])
  have HSP := hide hsp
  have HB0 := hide ((Below.refl w.heap.size w).alloc (Nat.le_refl _) (.cells #[.string ⟨#[]⟩, .string ⟨#[]⟩] 33))
  clear hsp hc hcn
  have em := nonempty_of h3
  have em2 := nonempty_of h4
  clear h3 h4
  go_enter Tryd.func51, Tryd.ntmps51
  go_wp2_with fail
  refine (spec_l01Split s 43 43 _ rfl (by omega)).mono ?_
  rintro e w1 ⟨A, C, rfl, ho, hb1⟩
  have HB1 := hide (HB0.out.trans (hb1.mono (by simp)))
  have r0 := (hb1.cell (p := ⟨w.heap.size, 0, none⟩) (by simp)).trans (show _ = some (.string ⟨#[]⟩) from by simp [go_sem])
  have r1 := (hb1.cell (p := ⟨w.heap.size, 1, none⟩) (by simp)).trans (show _ = some (.string ⟨#[]⟩) from by simp [go_sem])
  have x0 := ((bcell hb1).2 w.heap.size 0 (by simp)).trans (show _ = false from by simp [go_sem])
  have x1 := ((bcell hb1).2 w.heap.size 1 (by simp)).trans (show _ = false from by simp [go_sem])
  have hz : w.heap.size < w1.heap.size := by have := hb1.size; simp at this; omega
  have HRW := hide (show Row encS 1 w1 A (splB 43 s) from ho.row (fun _ => rfl))
  clear hb1 ho
  rw [HSP.out] at HRW ⊢
  obtain ⟨b0, off0, rfl, hb0, a0⟩ := row_at_1 (i := 0) HRW.out rfl rfl
  obtain ⟨b9, off9, e9, hb9, a1⟩ := row_at_1 (i := 1) HRW.out rfl rfl
  obtain ⟨rfl, rfl⟩ : b9 = b0 ∧ off9 = off0 := by injection e9 with e9; injection e9 with e1 e2 e3; exact ⟨e1.symm, e2.symm⟩
  rw [Nat.add_zero] at a0
  clear e9
  go_wp2_with fail
  refine (spec_l04Pieces l _ hle.1).mono ?_
  rintro e w2 ⟨rfl, q2, rfl⟩
  rw [show onlyB pcC l = true from h1]
  go_wp2_with fail
  refine (spec_l04Plain y _ hle.2).mono ?_
  rintro e w3 ⟨rfl, q3, rfl⟩
  rw [show onlyB plC y = true from h2]
  go_wp2
  refine bodyPost_ret (v := .tuple #[.agg #[.string l, .string y], .int .i64 5]) ?_ rfl (wordPost HC.out HK.out rfl ?_)
  · have e0 := (World.cell?_alloc_lt w1 (.cells #[.string l, .string y] 33) ⟨w.heap.size, 0, none⟩ hz).trans r0
    have e1 := (World.cell?_alloc_lt w1 (.cells #[.string l, .string y] 33) ⟨w.heap.size, 1, none⟩ hz).trans r1
    simp [results, Tryd.results51, go_sem, e0, e1]
  · have BX := HB1.out
    first
      | exact ((below_drewN (BX.alloc (Nat.le_of_lt hz) _) _).setCell (Nat.le_refl _) _).setCell (Nat.le_refl _) _
      | go_grown
set_option maxRecDepth 100000 in
set_option maxHeartbeats 1000000 in
theorem wordB_yes (s l y : ByteArray) (w : World) (hs : s.size ≤ 1048576) (hsp : splB 43 s = [l, y]) (hc : courseOfL s.data.toList = ⟨l, y⟩) (hcn : s.data.toList.count 43 = 1) (hl0 : l.size ≤ s.size) (hy0 : y.size ≤ s.size) (h1 : pieceB l = true) (h2 : plainB y = true) (h3 : ¬ y.size = 0) (h4 : ¬ l.size = 0) (h5 : ¬ 6 < l.size) (h6 : ¬ 8 < y.size) :
    Calls Tryd.prog 51 #[.string s] w (WordPost s w) := by
  have hle : l.size ≤ maxLen ∧ y.size ≤ maxLen := by unfold maxLen; omega
  have HC := hide (show wordC s.data.toList = ⟨l, y⟩ from by unfold wordC; rw [if_neg (by omega), hc])
  have HK := hide (show kindL s.data.toList = 0 from by rw [kind_rest hc (by omega) h1 h2]; rw [if_neg (by rintro (q | q) <;> omega), if_neg (by rintro (q | q) <;> omega)])
  have HSP := hide hsp
  have HB0 := hide ((Below.refl w.heap.size w).alloc (Nat.le_refl _) (.cells #[.string ⟨#[]⟩, .string ⟨#[]⟩] 33))
  clear hsp hc hcn
  have em := nonempty_of h3
  have em2 := nonempty_of h4
  clear h3 h4
  go_enter Tryd.func51, Tryd.ntmps51
  go_wp2_with fail
  refine (spec_l01Split s 43 43 _ rfl (by omega)).mono ?_
  rintro e w1 ⟨A, C, rfl, ho, hb1⟩
  have HB1 := hide (HB0.out.trans (hb1.mono (by simp)))
  have r0 := (hb1.cell (p := ⟨w.heap.size, 0, none⟩) (by simp)).trans (show _ = some (.string ⟨#[]⟩) from by simp [go_sem])
  have r1 := (hb1.cell (p := ⟨w.heap.size, 1, none⟩) (by simp)).trans (show _ = some (.string ⟨#[]⟩) from by simp [go_sem])
  have x0 := ((bcell hb1).2 w.heap.size 0 (by simp)).trans (show _ = false from by simp [go_sem])
  have x1 := ((bcell hb1).2 w.heap.size 1 (by simp)).trans (show _ = false from by simp [go_sem])
  have hz : w.heap.size < w1.heap.size := by have := hb1.size; simp at this; omega
  have HRW := hide (show Row encS 1 w1 A (splB 43 s) from ho.row (fun _ => rfl))
  clear hb1 ho
  rw [HSP.out] at HRW ⊢
  obtain ⟨b0, off0, rfl, hb0, a0⟩ := row_at_1 (i := 0) HRW.out rfl rfl
  obtain ⟨b9, off9, e9, hb9, a1⟩ := row_at_1 (i := 1) HRW.out rfl rfl
  obtain ⟨rfl, rfl⟩ : b9 = b0 ∧ off9 = off0 := by injection e9 with e9; injection e9 with e1 e2 e3; exact ⟨e1.symm, e2.symm⟩
  rw [Nat.add_zero] at a0
  clear e9
  go_wp2_with fail
  refine (spec_l04Pieces l _ hle.1).mono ?_
  rintro e w2 ⟨rfl, q2, rfl⟩
  rw [show onlyB pcC l = true from h1]
  go_wp2_with fail
  refine (spec_l04Plain y _ hle.2).mono ?_
  rintro e w3 ⟨rfl, q3, rfl⟩
  rw [show onlyB plC y = true from h2]
  go_wp2
  refine bodyPost_ret (v := .tuple #[.agg #[.string l, .string y], .int .i64 0]) ?_ rfl (wordPost HC.out HK.out rfl ?_)
  · have e0 := (World.cell?_alloc_lt w1 (.cells #[.string l, .string y] 33) ⟨w.heap.size, 0, none⟩ hz).trans r0
    have e1 := (World.cell?_alloc_lt w1 (.cells #[.string l, .string y] 33) ⟨w.heap.size, 1, none⟩ hz).trans r1
    simp [results, Tryd.results51, go_sem, e0, e1]
  · have BX := HB1.out
    first
      | exact ((below_drewN (BX.alloc (Nat.le_of_lt hz) _) _).setCell (Nat.le_refl _) _).setCell (Nat.le_refl _) _
      | go_grown
theorem spec_l04Word (s : ByteArray) (w : World) (hs : s.size ≤ 1048576) : Calls Tryd.prog 51 #[.string s] w (WordPost s w) := by
  by_cases hm : 1 < s.data.toList.count 43
  · exact word_many s w hs hm
  by_cases h0 : (43 : UInt8) ∈ s.data.toList
  · have h1 : s.data.toList.count 43 = 1 := by have := List.count_pos_iff.2 h0; omega
    obtain ⟨l, y, hsp, hc, hl0, hy0⟩ := shape_one h1
    cases hp : pieceB l with
    | false => exact wordB_piece s l y w hs hsp hc h1 hl0 hy0 hp
    | true =>
      cases hq : plainB y with
      | false => exact wordB_plain s l y w hs hsp hc h1 hl0 hy0 hp hq
      | true =>
        by_cases h3 : y.size = 0
        · exact wordB_empty s l y w hs hsp hc h1 hl0 hy0 hp hq h3
        by_cases h4 : l.size = 0
        · exact wordB_lead s l y w hs hsp hc h1 hl0 hy0 hp hq h3 h4
        by_cases h5 : 6 < l.size
        · exact wordB_long1 s l y w hs hsp hc h1 hl0 hy0 hp hq h3 h4 h5
        by_cases h6 : 8 < y.size
        · exact wordB_long2 s l y w hs hsp hc h1 hl0 hy0 hp hq h3 h4 h5 h6
        exact wordB_yes s l y w hs hsp hc h1 hl0 hy0 hp hq h3 h4 h5 h6
  · obtain ⟨hsp, hc, hcn⟩ := shape_none h0
    cases hq : plainB s with
    | false => exact wordA_plain s w hs hsp hc hcn hq
    | true =>
      by_cases h3 : s.size = 0
      · exact wordA_empty s w hs hsp hc hcn hq h3
      by_cases h4 : 8 < s.size
      · exact wordA_long s w hs hsp hc hcn hq h3 h4
      exact wordA_yes s w hs hsp hc hcn hq h3 h4
end Go.Proofs.YtgobpleckeeheaaDoor
