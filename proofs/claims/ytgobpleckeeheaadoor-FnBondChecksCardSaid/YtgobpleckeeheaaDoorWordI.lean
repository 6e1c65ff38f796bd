/-
  What is proved: the kind of a word's problem, of the program. Condition: a length that fits, the library's own variable holds some number.
-/
import Derived.Test.YtgobpleckeeheaaDoorRead2
import Derived.Test.YtgobpleckeeheaaDoorWord
namespace Go.Proofs.YtgobpleckeeheaaDoor
open Go.RowKit Go.PlainAid
set_option linter.unusedVariables false

theorem courseOfL_size (s : ByteArray) : (courseOfL s.data.toList).lead.size ≤ s.size ∧ (courseOfL s.data.toList).cycle.size ≤ s.size := by
  rcases spl_cases 43 s.data.toList with ⟨h1, -⟩ | ⟨a, b, e, ha, -⟩
  · unfold courseOfL
    rw [cut_none h1, if_neg (by simp), ba_of]
    exact ⟨Nat.zero_le _, Nat.le_refl _⟩
  · have hl : s.size = a.length + (b.length + 1) := by rw [← data_size, e]; simp
    unfold courseOfL
    rw [e, cut_hit ha, if_pos rfl, ba_size, ba_size]
    constructor <;> simp <;> omega
set_option maxRecDepth 100000 in
set_option maxHeartbeats 1000000 in
theorem wordI_many (s l y : ByteArray) (w : World) (hs : s.size ≤ 1048576) (hm : MaxLenIs w) (hc : courseOfL s.data.toList = ⟨l, y⟩) (hl0 : l.size ≤ s.size) (hy0 : y.size ≤ s.size) (hcn : 1 < s.data.toList.count 43) :
    Calls Tryd.prog 17 #[.string s] w fun e w' => e = .returned (.int .i64 (kindL s.data.toList)) ∧ Below w.heap.size w w' := by
  have hMz : 0 < w.heap.size := by obtain ⟨m, hm⟩ := hm; exact cell_lt hm
  have HM := hide hm
  have hle : l.size ≤ maxLen ∧ y.size ≤ maxLen := by unfold maxLen; omega
  rw [show kindL s.data.toList = 3 from kind_many hcn]
  obtain ⟨n, hn⟩ : ∃ n, Lib.countByte s.data.toList 43 = n := ⟨_, rfl⟩
  have hn' : s.data.toList.count 43 = n := hn
  have hnn : decide ((1 : Int) < (n : Int)) = true := by simp; omega
  clear hcn
  have HN := hide hn
  have HC := hide hc
  clear hn hn' hc hm
  have HB0 := hide (Below.refl w.heap.size w)
  go_enter Tryd.func17, Tryd.ntmps17
  go_wp2_with fail
  refine (impl_courseOf' s l y HC.out _ (by omega) HM.out).mono ?_
  rintro e w1 ⟨rfl, hb1⟩
  have HB1 := hide (HB0.out.trans hb1)
  have hz : w.heap.size ≤ w1.heap.size := hb1.size
  clear hb1 HB0
  go_wp2_with fail
  refine (Tryd.strings_Count_one s 43 _).mono ?_
  rintro e w2 ⟨rfl, rfl⟩
  rw [HN.out]
  have HB2 := hide (HB1.out.alloc hz (.cells #[.string l, .string y] 33))
  go_wp2
  go_ret
  refine ⟨rfl, ?_⟩
  have BX := HB2.out
  first
    | exact BX
    | exact below_drewN BX _
    | exact below_drewN (below_drewN BX _) _
    | go_grown
set_option maxRecDepth 100000 in
set_option maxHeartbeats 1000000 in
theorem wordI_piece (s l y : ByteArray) (w : World) (hs : s.size ≤ 1048576) (hm : MaxLenIs w) (hc : courseOfL s.data.toList = ⟨l, y⟩) (hl0 : l.size ≤ s.size) (hy0 : y.size ≤ s.size) (hcn : ¬ 1 < s.data.toList.count 43) (h1 : pieceB l = false) :
    Calls Tryd.prog 17 #[.string s] w fun e w' => e = .returned (.int .i64 (kindL s.data.toList)) ∧ Below w.heap.size w w' := by
  have hMz : 0 < w.heap.size := by obtain ⟨m, hm⟩ := hm; exact cell_lt hm
  have HM := hide hm
  have hle : l.size ≤ maxLen ∧ y.size ≤ maxLen := by unfold maxLen; omega
  rw [show kindL s.data.toList = 3 from kind_piece hc h1]
  obtain ⟨n, hn⟩ : ∃ n, Lib.countByte s.data.toList 43 = n := ⟨_, rfl⟩
  have hn' : s.data.toList.count 43 = n := hn
  have hnn : decide ((1 : Int) < (n : Int)) = false := by simp; omega
  have hn01 : n = 0 ∨ n = 1 := by omega
  clear hcn
  have HN := hide hn
  have HC := hide hc
  clear hn hn' hc hm
  have HB0 := hide (Below.refl w.heap.size w)
  go_enter Tryd.func17, Tryd.ntmps17
  go_wp2_with fail
  refine (impl_courseOf' s l y HC.out _ (by omega) HM.out).mono ?_
  rintro e w1 ⟨rfl, hb1⟩
  have HB1 := hide (HB0.out.trans hb1)
  have hz : w.heap.size ≤ w1.heap.size := hb1.size
  clear hb1 HB0
  go_wp2_with fail
  refine (Tryd.strings_Count_one s 43 _).mono ?_
  rintro e w2 ⟨rfl, rfl⟩
  rw [HN.out]
  have HB2 := hide (HB1.out.alloc hz (.cells #[.string l, .string y] 33))
  go_wp2_with fail
  refine (impl_onlyPieces l _ hle.1).mono ?_
  rintro e w3 ⟨rfl, q3, rfl⟩
  rw [show onlyB pcC l = false from h1]
  go_wp2
  go_ret
  refine ⟨rfl, ?_⟩
  have BX := HB2.out
  first
    | exact BX
    | exact below_drewN BX _
    | exact below_drewN (below_drewN BX _) _
    | go_grown
set_option maxRecDepth 100000 in
set_option maxHeartbeats 1000000 in
theorem wordI_plain (s l y : ByteArray) (w : World) (hs : s.size ≤ 1048576) (hm : MaxLenIs w) (hc : courseOfL s.data.toList = ⟨l, y⟩) (hl0 : l.size ≤ s.size) (hy0 : y.size ≤ s.size) (hcn : ¬ 1 < s.data.toList.count 43) (h1 : pieceB l = true) (h2 : plainB y = false) :
    Calls Tryd.prog 17 #[.string s] w fun e w' => e = .returned (.int .i64 (kindL s.data.toList)) ∧ Below w.heap.size w w' := by
  have hMz : 0 < w.heap.size := by obtain ⟨m, hm⟩ := hm; exact cell_lt hm
  have HM := hide hm
  have hle : l.size ≤ maxLen ∧ y.size ≤ maxLen := by unfold maxLen; omega
  rw [show kindL s.data.toList = 3 from kind_plain hc h2]
  obtain ⟨n, hn⟩ : ∃ n, Lib.countByte s.data.toList 43 = n := ⟨_, rfl⟩
  have hn' : s.data.toList.count 43 = n := hn
  have hnn : decide ((1 : Int) < (n : Int)) = false := by simp; omega
  have hn01 : n = 0 ∨ n = 1 := by omega
  clear hcn
  have HN := hide hn
  have HC := hide hc
  clear hn hn' hc hm
  have HB0 := hide (Below.refl w.heap.size w)
  go_enter Tryd.func17, Tryd.ntmps17
  go_wp2_with fail
  refine (impl_courseOf' s l y HC.out _ (by omega) HM.out).mono ?_
  rintro e w1 ⟨rfl, hb1⟩
  have HB1 := hide (HB0.out.trans hb1)
  have hz : w.heap.size ≤ w1.heap.size := hb1.size
  clear hb1 HB0
  go_wp2_with fail
  refine (Tryd.strings_Count_one s 43 _).mono ?_
  rintro e w2 ⟨rfl, rfl⟩
  rw [HN.out]
  have HB2 := hide (HB1.out.alloc hz (.cells #[.string l, .string y] 33))
  go_wp2_with fail
  refine (impl_onlyPieces l _ hle.1).mono ?_
  rintro e w3 ⟨rfl, q3, rfl⟩
  rw [show onlyB pcC l = true from h1]
  go_wp2_with fail
  refine (impl_onlyWhole y _ hle.2).mono ?_
  rintro e w4 ⟨rfl, q4, rfl⟩
  rw [show onlyB plC y = false from h2]
  go_wp2
  go_ret
  refine ⟨rfl, ?_⟩
  have BX := HB2.out
  first
    | exact BX
    | exact below_drewN BX _
    | exact below_drewN (below_drewN BX _) _
    | go_grown
set_option maxRecDepth 100000 in
set_option maxHeartbeats 1000000 in
theorem wordI_empty (s l y : ByteArray) (w : World) (hs : s.size ≤ 1048576) (hm : MaxLenIs w) (hc : courseOfL s.data.toList = ⟨l, y⟩) (hl0 : l.size ≤ s.size) (hy0 : y.size ≤ s.size) (hcn : ¬ 1 < s.data.toList.count 43) (h1 : pieceB l = true) (h2 : plainB y = true) (h3 : y.size = 0) :
    Calls Tryd.prog 17 #[.string s] w fun e w' => e = .returned (.int .i64 (kindL s.data.toList)) ∧ Below w.heap.size w w' := by
  have hMz : 0 < w.heap.size := by obtain ⟨m, hm⟩ := hm; exact cell_lt hm
  have HM := hide hm
  have hle : l.size ≤ maxLen ∧ y.size ≤ maxLen := by unfold maxLen; omega
  rw [show kindL s.data.toList = 4 from by rw [kind_rest hc hcn h1 h2]; rw [if_pos (.inl h3)]]
  obtain ⟨n, hn⟩ : ∃ n, Lib.countByte s.data.toList 43 = n := ⟨_, rfl⟩
  have hn' : s.data.toList.count 43 = n := hn
  have hnn : decide ((1 : Int) < (n : Int)) = false := by simp; omega
  have hn01 : n = 0 ∨ n = 1 := by omega
  clear hcn
  have es := isEmpty_of h3
  clear h3
  have HN := hide hn
  have HC := hide hc
  clear hn hn' hc hm
  have HB0 := hide (Below.refl w.heap.size w)
  go_enter Tryd.func17, Tryd.ntmps17
  go_wp2_with fail
  refine (impl_courseOf' s l y HC.out _ (by omega) HM.out).mono ?_
  rintro e w1 ⟨rfl, hb1⟩
  have HB1 := hide (HB0.out.trans hb1)
  have hz : w.heap.size ≤ w1.heap.size := hb1.size
  clear hb1 HB0
  go_wp2_with fail
  refine (Tryd.strings_Count_one s 43 _).mono ?_
  rintro e w2 ⟨rfl, rfl⟩
  rw [HN.out]
  have HB2 := hide (HB1.out.alloc hz (.cells #[.string l, .string y] 33))
  go_wp2_with fail
  refine (impl_onlyPieces l _ hle.1).mono ?_
  rintro e w3 ⟨rfl, q3, rfl⟩
  rw [show onlyB pcC l = true from h1]
  go_wp2_with fail
  refine (impl_onlyWhole y _ hle.2).mono ?_
  rintro e w4 ⟨rfl, q4, rfl⟩
  rw [show onlyB plC y = true from h2]
  go_wp2
  go_ret
  refine ⟨rfl, ?_⟩
  have BX := HB2.out
  first
    | exact BX
    | exact below_drewN BX _
    | exact below_drewN (below_drewN BX _) _
    | go_grown
set_option maxRecDepth 100000 in
set_option maxHeartbeats 1000000 in
theorem wordI_lead (s l y : ByteArray) (w : World) (hs : s.size ≤ 1048576) (hm : MaxLenIs w) (hc : courseOfL s.data.toList = ⟨l, y⟩) (hl0 : l.size ≤ s.size) (hy0 : y.size ≤ s.size) (hcn : ¬ 1 < s.data.toList.count 43) (h1 : pieceB l = true) (h2 : plainB y = true) (h3 : ¬ y.size = 0) (h4 : s.data.toList.count 43 = 1) (h5 : l.size = 0) :
    Calls Tryd.prog 17 #[.string s] w fun e w' => e = .returned (.int .i64 (kindL s.data.toList)) ∧ Below w.heap.size w w' := by
  have hMz : 0 < w.heap.size := by obtain ⟨m, hm⟩ := hm; exact cell_lt hm
  have HM := hide hm
  have hle : l.size ≤ maxLen ∧ y.size ≤ maxLen := by unfold maxLen; omega
  rw [show kindL s.data.toList = 4 from by rw [kind_rest hc hcn h1 h2]; rw [if_pos (.inr ⟨h4, h5⟩)]]
  obtain ⟨n, hn⟩ : ∃ n, Lib.countByte s.data.toList 43 = n := ⟨_, rfl⟩
  have hn' : s.data.toList.count 43 = n := hn
  have hnn : decide ((1 : Int) < (n : Int)) = false := by simp; omega
  have hn01 : n = 0 ∨ n = 1 := by omega
  clear hcn
  obtain rfl : n = 1 := by omega
  have es := nonempty_of h3
  have el := isEmpty_of h5
  clear h3 h4 h5
  have HN := hide hn
  have HC := hide hc
  clear hn hn' hc hm
  have HB0 := hide (Below.refl w.heap.size w)
  go_enter Tryd.func17, Tryd.ntmps17
  go_wp2_with fail
  refine (impl_courseOf' s l y HC.out _ (by omega) HM.out).mono ?_
  rintro e w1 ⟨rfl, hb1⟩
  have HB1 := hide (HB0.out.trans hb1)
  have hz : w.heap.size ≤ w1.heap.size := hb1.size
  clear hb1 HB0
  go_wp2_with fail
  refine (Tryd.strings_Count_one s 43 _).mono ?_
  rintro e w2 ⟨rfl, rfl⟩
  rw [HN.out]
  have HB2 := hide (HB1.out.alloc hz (.cells #[.string l, .string y] 33))
  go_wp2_with fail
  refine (impl_onlyPieces l _ hle.1).mono ?_
  rintro e w3 ⟨rfl, q3, rfl⟩
  rw [show onlyB pcC l = true from h1]
  go_wp2_with fail
  refine (impl_onlyWhole y _ hle.2).mono ?_
  rintro e w4 ⟨rfl, q4, rfl⟩
  rw [show onlyB plC y = true from h2]
  go_wp2
  go_ret
  refine ⟨rfl, ?_⟩
  have BX := HB2.out
  first
    | exact BX
    | exact below_drewN BX _
    | exact below_drewN (below_drewN BX _) _
    | go_grown
set_option maxRecDepth 100000 in
set_option maxHeartbeats 1000000 in
theorem wordI_long10 (s l y : ByteArray) (w : World) (hs : s.size ≤ 1048576) (hm : MaxLenIs w) (hc : courseOfL s.data.toList = ⟨l, y⟩) (hl0 : l.size ≤ s.size) (hy0 : y.size ≤ s.size) (h1 : pieceB l = true) (h2 : plainB y = true) (h3 : ¬ y.size = 0) (h4 : s.data.toList.count 43 = 0) (h6 : 6 < l.size) :
    Calls Tryd.prog 17 #[.string s] w fun e w' => e = .returned (.int .i64 (kindL s.data.toList)) ∧ Below w.heap.size w w' := by
  have hMz : 0 < w.heap.size := by obtain ⟨m, hm⟩ := hm; exact cell_lt hm
  have HM := hide hm
  have hle : l.size ≤ maxLen ∧ y.size ≤ maxLen := by unfold maxLen; omega
  rw [show kindL s.data.toList = 5 from by rw [kind_rest hc (by omega) h1 h2]; rw [if_neg (by rintro (q | q) <;> omega), if_pos (.inl h6)]]
  obtain ⟨n, hn⟩ : ∃ n, Lib.countByte s.data.toList 43 = n := ⟨_, rfl⟩
  have hn' : s.data.toList.count 43 = n := hn
  obtain rfl : n = 0 := by omega
  have es := nonempty_of h3
  have d6 : decide ((6 : Int) < (l.size : Int)) = true := by simp; omega
  clear h3 h4
  clear h6
  have HN := hide hn
  have HC := hide hc
  clear hn hn' hc hm
  have HB0 := hide (Below.refl w.heap.size w)
  go_enter Tryd.func17, Tryd.ntmps17
  go_wp2_with fail
  refine (impl_courseOf' s l y HC.out _ (by omega) HM.out).mono ?_
  rintro e w1 ⟨rfl, hb1⟩
  have HB1 := hide (HB0.out.trans hb1)
  have hz : w.heap.size ≤ w1.heap.size := hb1.size
  clear hb1 HB0
  go_wp2_with fail
  refine (Tryd.strings_Count_one s 43 _).mono ?_
  rintro e w2 ⟨rfl, rfl⟩
  rw [HN.out]
  have HB2 := hide (HB1.out.alloc hz (.cells #[.string l, .string y] 33))
  go_wp2_with fail
  refine (impl_onlyPieces l _ hle.1).mono ?_
  rintro e w3 ⟨rfl, q3, rfl⟩
  rw [show onlyB pcC l = true from h1]
  go_wp2_with fail
  refine (impl_onlyWhole y _ hle.2).mono ?_
  rintro e w4 ⟨rfl, q4, rfl⟩
  rw [show onlyB plC y = true from h2]
  go_wp2
  go_ret
  refine ⟨rfl, ?_⟩
  have BX := HB2.out
  first
    | exact BX
    | exact below_drewN BX _
    | exact below_drewN (below_drewN BX _) _
    | go_grown
set_option maxRecDepth 100000 in
set_option maxHeartbeats 1000000 in
theorem wordI_long11 (s l y : ByteArray) (w : World) (hs : s.size ≤ 1048576) (hm : MaxLenIs w) (hc : courseOfL s.data.toList = ⟨l, y⟩) (hl0 : l.size ≤ s.size) (hy0 : y.size ≤ s.size) (h1 : pieceB l = true) (h2 : plainB y = true) (h3 : ¬ y.size = 0) (h4 : s.data.toList.count 43 = 1) (h5 : ¬ l.size = 0) (h6 : 6 < l.size) :
    Calls Tryd.prog 17 #[.string s] w fun e w' => e = .returned (.int .i64 (kindL s.data.toList)) ∧ Below w.heap.size w w' := by
  have hMz : 0 < w.heap.size := by obtain ⟨m, hm⟩ := hm; exact cell_lt hm
  have HM := hide hm
  have hle : l.size ≤ maxLen ∧ y.size ≤ maxLen := by unfold maxLen; omega
  rw [show kindL s.data.toList = 5 from by rw [kind_rest hc (by omega) h1 h2]; rw [if_neg (by rintro (q | q) <;> omega), if_pos (.inl h6)]]
  obtain ⟨n, hn⟩ : ∃ n, Lib.countByte s.data.toList 43 = n := ⟨_, rfl⟩
  have hn' : s.data.toList.count 43 = n := hn
  obtain rfl : n = 1 := by omega
  have es := nonempty_of h3
  have el := nonempty_of h5
  have d6 : decide ((6 : Int) < (l.size : Int)) = true := by simp; omega
  clear h3 h4 h5
  clear h6
  have HN := hide hn
  have HC := hide hc
  clear hn hn' hc hm
  have HB0 := hide (Below.refl w.heap.size w)
  go_enter Tryd.func17, Tryd.ntmps17
  go_wp2_with fail
  refine (impl_courseOf' s l y HC.out _ (by omega) HM.out).mono ?_
  rintro e w1 ⟨rfl, hb1⟩
  have HB1 := hide (HB0.out.trans hb1)
  have hz : w.heap.size ≤ w1.heap.size := hb1.size
  clear hb1 HB0
  go_wp2_with fail
  refine (Tryd.strings_Count_one s 43 _).mono ?_
  rintro e w2 ⟨rfl, rfl⟩
  rw [HN.out]
  have HB2 := hide (HB1.out.alloc hz (.cells #[.string l, .string y] 33))
  go_wp2_with fail
  refine (impl_onlyPieces l _ hle.1).mono ?_
  rintro e w3 ⟨rfl, q3, rfl⟩
  rw [show onlyB pcC l = true from h1]
  go_wp2_with fail
  refine (impl_onlyWhole y _ hle.2).mono ?_
  rintro e w4 ⟨rfl, q4, rfl⟩
  rw [show onlyB plC y = true from h2]
  go_wp2
  go_ret
  refine ⟨rfl, ?_⟩
  have BX := HB2.out
  first
    | exact BX
    | exact below_drewN BX _
    | exact below_drewN (below_drewN BX _) _
    | go_grown
set_option maxRecDepth 100000 in
set_option maxHeartbeats 1000000 in
theorem wordI_long20 (s l y : ByteArray) (w : World) (hs : s.size ≤ 1048576) (hm : MaxLenIs w) (hc : courseOfL s.data.toList = ⟨l, y⟩) (hl0 : l.size ≤ s.size) (hy0 : y.size ≤ s.size) (h1 : pieceB l = true) (h2 : plainB y = true) (h3 : ¬ y.size = 0) (h4 : s.data.toList.count 43 = 0) (h6 : ¬ 6 < l.size) (h7 : 8 < y.size) :
    Calls Tryd.prog 17 #[.string s] w fun e w' => e = .returned (.int .i64 (kindL s.data.toList)) ∧ Below w.heap.size w w' := by
  have hMz : 0 < w.heap.size := by obtain ⟨m, hm⟩ := hm; exact cell_lt hm
  have HM := hide hm
  have hle : l.size ≤ maxLen ∧ y.size ≤ maxLen := by unfold maxLen; omega
  rw [show kindL s.data.toList = 5 from by rw [kind_rest hc (by omega) h1 h2]; rw [if_neg (by rintro (q | q) <;> omega), if_pos (.inr h7)]]
  obtain ⟨n, hn⟩ : ∃ n, Lib.countByte s.data.toList 43 = n := ⟨_, rfl⟩
  have hn' : s.data.toList.count 43 = n := hn
  obtain rfl : n = 0 := by omega
  have es := nonempty_of h3
  have d6 : decide ((6 : Int) < (l.size : Int)) = false := by simp; omega
  have d7 : decide ((8 : Int) < (y.size : Int)) = true := by simp; omega
  clear h3 h4
  clear h6 h7
  have HN := hide hn
  have HC := hide hc
  clear hn hn' hc hm
  have HB0 := hide (Below.refl w.heap.size w)
  go_enter Tryd.func17, Tryd.ntmps17
  go_wp2_with fail
  refine (impl_courseOf' s l y HC.out _ (by omega) HM.out).mono ?_
  rintro e w1 ⟨rfl, hb1⟩
  have HB1 := hide (HB0.out.trans hb1)
  have hz : w.heap.size ≤ w1.heap.size := hb1.size
  clear hb1 HB0
  go_wp2_with fail
  refine (Tryd.strings_Count_one s 43 _).mono ?_
  rintro e w2 ⟨rfl, rfl⟩
  rw [HN.out]
  have HB2 := hide (HB1.out.alloc hz (.cells #[.string l, .string y] 33))
  go_wp2_with fail
  refine (impl_onlyPieces l _ hle.1).mono ?_
  rintro e w3 ⟨rfl, q3, rfl⟩
  rw [show onlyB pcC l = true from h1]
  go_wp2_with fail
  refine (impl_onlyWhole y _ hle.2).mono ?_
  rintro e w4 ⟨rfl, q4, rfl⟩
  rw [show onlyB plC y = true from h2]
  go_wp2
  go_ret
  refine ⟨rfl, ?_⟩
  have BX := HB2.out
  first
    | exact BX
    | exact below_drewN BX _
    | exact below_drewN (below_drewN BX _) _
    | go_grown
set_option maxRecDepth 100000 in
set_option maxHeartbeats 1000000 in
theorem wordI_long21 (s l y : ByteArray) (w : World) (hs : s.size ≤ 1048576) (hm : MaxLenIs w) (hc : courseOfL s.data.toList = ⟨l, y⟩) (hl0 : l.size ≤ s.size) (hy0 : y.size ≤ s.size) (h1 : pieceB l = true) (h2 : plainB y = true) (h3 : ¬ y.size = 0) (h4 : s.data.toList.count 43 = 1) (h5 : ¬ l.size = 0) (h6 : ¬ 6 < l.size) (h7 : 8 < y.size) :
    Calls Tryd.prog 17 #[.string s] w fun e w' => e = .returned (.int .i64 (kindL s.data.toList)) ∧ Below w.heap.size w w' := by
  have hMz : 0 < w.heap.size := by obtain ⟨m, hm⟩ := hm; exact cell_lt hm
  have HM := hide hm
  have hle : l.size ≤ maxLen ∧ y.size ≤ maxLen := by unfold maxLen; omega
  rw [show kindL s.data.toList = 5 from by rw [kind_rest hc (by omega) h1 h2]; rw [if_neg (by rintro (q | q) <;> omega), if_pos (.inr h7)]]
  obtain ⟨n, hn⟩ : ∃ n, Lib.countByte s.data.toList 43 = n := ⟨_, rfl⟩
  have hn' : s.data.toList.count 43 = n := hn
  obtain rfl : n = 1 := by omega
  have es := nonempty_of h3
  have el := nonempty_of h5
  have d6 : decide ((6 : Int) < (l.size : Int)) = false := by simp; omega
  have d7 : decide ((8 : Int) < (y.size : Int)) = true := by simp; omega
  clear h3 h4 h5
  clear h6 h7
  have HN := hide hn
  have HC := hide hc
  clear hn hn' hc hm
  have HB0 := hide (Below.refl w.heap.size w)
  go_enter Tryd.func17, Tryd.ntmps17
  go_wp2_with fail
  refine (impl_courseOf' s l y HC.out _ (by omega) HM.out).mono ?_
  rintro e w1 ⟨rfl, hb1⟩
  have HB1 := hide (HB0.out.trans hb1)
  have hz : w.heap.size ≤ w1.heap.size := hb1.size
  clear hb1 HB0
  go_wp2_with fail
  refine (Tryd.strings_Count_one s 43 _).mono ?_
  rintro e w2 ⟨rfl, rfl⟩
  rw [HN.out]
  have HB2 := hide (HB1.out.alloc hz (.cells #[.string l, .string y] 33))
  go_wp2_with fail
  refine (impl_onlyPieces l _ hle.1).mono ?_
  rintro e w3 ⟨rfl, q3, rfl⟩
  rw [show onlyB pcC l = true from h1]
  go_wp2_with fail
  refine (impl_onlyWhole y _ hle.2).mono ?_
  rintro e w4 ⟨rfl, q4, rfl⟩
  rw [show onlyB plC y = true from h2]
  go_wp2
  go_ret
  refine ⟨rfl, ?_⟩
  have BX := HB2.out
  first
    | exact BX
    | exact below_drewN BX _
    | exact below_drewN (below_drewN BX _) _
    | go_grown
set_option maxRecDepth 100000 in
set_option maxHeartbeats 1000000 in
theorem wordI_yes0 (s l y : ByteArray) (w : World) (hs : s.size ≤ 1048576) (hm : MaxLenIs w) (hc : courseOfL s.data.toList = ⟨l, y⟩) (hl0 : l.size ≤ s.size) (hy0 : y.size ≤ s.size) (h1 : pieceB l = true) (h2 : plainB y = true) (h3 : ¬ y.size = 0) (h4 : s.data.toList.count 43 = 0) (h6 : ¬ 6 < l.size) (h7 : ¬ 8 < y.size) :
    Calls Tryd.prog 17 #[.string s] w fun e w' => e = .returned (.int .i64 (kindL s.data.toList)) ∧ Below w.heap.size w w' := by
  have hMz : 0 < w.heap.size := by obtain ⟨m, hm⟩ := hm; exact cell_lt hm
  have HM := hide hm
  have hle : l.size ≤ maxLen ∧ y.size ≤ maxLen := by unfold maxLen; omega
  rw [show kindL s.data.toList = 0 from by rw [kind_rest hc (by omega) h1 h2]; rw [if_neg (by rintro (q | q) <;> omega), if_neg (by rintro (q | q) <;> omega)]]
  obtain ⟨n, hn⟩ : ∃ n, Lib.countByte s.data.toList 43 = n := ⟨_, rfl⟩
  have hn' : s.data.toList.count 43 = n := hn
  obtain rfl : n = 0 := by omega
  have es := nonempty_of h3
  have d6 : decide ((6 : Int) < (l.size : Int)) = false := by simp; omega
  have d7 : decide ((8 : Int) < (y.size : Int)) = false := by simp; omega
  clear h3 h4
  clear h6 h7
  have HN := hide hn
  have HC := hide hc
  clear hn hn' hc hm
  have HB0 := hide (Below.refl w.heap.size w)
  go_enter Tryd.func17, Tryd.ntmps17
  go_wp2_with fail
  refine (impl_courseOf' s l y HC.out _ (by omega) HM.out).mono ?_
  rintro e w1 ⟨rfl, hb1⟩
  have HB1 := hide (HB0.out.trans hb1)
  have hz : w.heap.size ≤ w1.heap.size := hb1.size
  clear hb1 HB0
  go_wp2_with fail
  refine (Tryd.strings_Count_one s 43 _).mono ?_
  rintro e w2 ⟨rfl, rfl⟩
  rw [HN.out]
  have HB2 := hide (HB1.out.alloc hz (.cells #[.string l, .string y] 33))
  go_wp2_with fail
  refine (impl_onlyPieces l _ hle.1).mono ?_
  rintro e w3 ⟨rfl, q3, rfl⟩
  rw [show onlyB pcC l = true from h1]
  go_wp2_with fail
  refine (impl_onlyWhole y _ hle.2).mono ?_
  rintro e w4 ⟨rfl, q4, rfl⟩
  rw [show onlyB plC y = true from h2]
  go_wp2
  go_ret
  refine ⟨rfl, ?_⟩
  have BX := HB2.out
  first
    | exact BX
    | exact below_drewN BX _
    | exact below_drewN (below_drewN BX _) _
    | go_grown
set_option maxRecDepth 100000 in
set_option maxHeartbeats 1000000 in
theorem wordI_yes1 (s l y : ByteArray) (w : World) (hs : s.size ≤ 1048576) (hm : MaxLenIs w) (hc : courseOfL s.data.toList = ⟨l, y⟩) (hl0 : l.size ≤ s.size) (hy0 : y.size ≤ s.size) (h1 : pieceB l = true) (h2 : plainB y = true) (h3 : ¬ y.size = 0) (h4 : s.data.toList.count 43 = 1) (h5 : ¬ l.size = 0) (h6 : ¬ 6 < l.size) (h7 : ¬ 8 < y.size) :
    Calls Tryd.prog 17 #[.string s] w fun e w' => e = .returned (.int .i64 (kindL s.data.toList)) ∧ Below w.heap.size w w' := by
  have hMz : 0 < w.heap.size := by obtain ⟨m, hm⟩ := hm; exact cell_lt hm
  have HM := hide hm
  have hle : l.size ≤ maxLen ∧ y.size ≤ maxLen := by unfold maxLen; omega
  rw [show kindL s.data.toList = 0 from by rw [kind_rest hc (by omega) h1 h2]; rw [if_neg (by rintro (q | q) <;> omega), if_neg (by rintro (q | q) <;> omega)]]
  obtain ⟨n, hn⟩ : ∃ n, Lib.countByte s.data.toList 43 = n := ⟨_, rfl⟩
  have hn' : s.data.toList.count 43 = n := hn
  obtain rfl : n = 1 := by omega
  have es := nonempty_of h3
  have el := nonempty_of h5
  have d6 : decide ((6 : Int) < (l.size : Int)) = false := by simp; omega
  have d7 : decide ((8 : Int) < (y.size : Int)) = false := by simp; omega
  clear h3 h4 h5
  clear h6 h7
  have HN := hide hn
  have HC := hide hc
  clear hn hn' hc hm
  have HB0 := hide (Below.refl w.heap.size w)
  go_enter Tryd.func17, Tryd.ntmps17
  go_wp2_with fail
  refine (impl_courseOf' s l y HC.out _ (by omega) HM.out).mono ?_
  rintro e w1 ⟨rfl, hb1⟩
  have HB1 := hide (HB0.out.trans hb1)
  have hz : w.heap.size ≤ w1.heap.size := hb1.size
  clear hb1 HB0
  go_wp2_with fail
  refine (Tryd.strings_Count_one s 43 _).mono ?_
  rintro e w2 ⟨rfl, rfl⟩
  rw [HN.out]
  have HB2 := hide (HB1.out.alloc hz (.cells #[.string l, .string y] 33))
  go_wp2_with fail
  refine (impl_onlyPieces l _ hle.1).mono ?_
  rintro e w3 ⟨rfl, q3, rfl⟩
  rw [show onlyB pcC l = true from h1]
  go_wp2_with fail
  refine (impl_onlyWhole y _ hle.2).mono ?_
  rintro e w4 ⟨rfl, q4, rfl⟩
  rw [show onlyB plC y = true from h2]
  go_wp2
  go_ret
  refine ⟨rfl, ?_⟩
  have BX := HB2.out
  first
    | exact BX
    | exact below_drewN BX _
    | exact below_drewN (below_drewN BX _) _
    | go_grown
theorem impl_wordProblem (s : ByteArray) (w : World) (hs : s.size ≤ 1048576) (hm : MaxLenIs w) :
    Calls Tryd.prog 17 #[.string s] w fun e w' => e = .returned (.int .i64 (kindL s.data.toList)) ∧ Below w.heap.size w w' := by
  obtain ⟨l, y, hc⟩ : ∃ l y, courseOfL s.data.toList = ⟨l, y⟩ := ⟨_, _, rfl⟩
  have hz := courseOfL_size s
  rw [hc] at hz
  obtain ⟨hl0, hy0⟩ : l.size ≤ s.size ∧ y.size ≤ s.size := hz
  by_cases hcn : 1 < s.data.toList.count 43
  · exact wordI_many s l y w hs hm hc hl0 hy0 hcn
  cases h1 : pieceB l with
  | false => exact wordI_piece s l y w hs hm hc hl0 hy0 hcn h1
  | true =>
    cases h2 : plainB y with
    | false => exact wordI_plain s l y w hs hm hc hl0 hy0 hcn h1 h2
    | true =>
      by_cases h3 : y.size = 0
      · exact wordI_empty s l y w hs hm hc hl0 hy0 hcn h1 h2 h3
      by_cases h4 : s.data.toList.count 43 = 1
      · by_cases h5 : l.size = 0
        · exact wordI_lead s l y w hs hm hc hl0 hy0 hcn h1 h2 h3 h4 h5
        by_cases h6 : 6 < l.size
        · exact wordI_long11 s l y w hs hm hc hl0 hy0 h1 h2 h3 h4 h5 h6
        by_cases h7 : 8 < y.size
        · exact wordI_long21 s l y w hs hm hc hl0 hy0 h1 h2 h3 h4 h5 h6 h7
        exact wordI_yes1 s l y w hs hm hc hl0 hy0 h1 h2 h3 h4 h5 h6 h7
      · have h4' : s.data.toList.count 43 = 0 := by omega
        by_cases h6 : 6 < l.size
        · exact wordI_long10 s l y w hs hm hc hl0 hy0 h1 h2 h3 h4' h6
        by_cases h7 : 8 < y.size
        · exact wordI_long20 s l y w hs hm hc hl0 hy0 h1 h2 h3 h4' h6 h7
        exact wordI_yes0 s l y w hs hm hc hl0 hy0 h1 h2 h3 h4' h6 h7
end Go.Proofs.YtgobpleckeeheaaDoor
