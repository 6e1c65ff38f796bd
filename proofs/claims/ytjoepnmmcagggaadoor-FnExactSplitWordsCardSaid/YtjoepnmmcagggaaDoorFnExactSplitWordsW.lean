/-
  What is proved: the law FnExactSplitWords returns true and changes nothing that was there, for every input. No conditions beyond the arguments' own ranges.
-/
import Derived.Test.YtjoepnmmcagggaaDoorWords
namespace Go.Proofs.YtjoepnmmcagggaaDoor
open Go.RowKit
set_option linter.unusedVariables false

set_option maxRecDepth 100000 in
set_option maxHeartbeats 1000000 in
theorem fnExactSplitWordsWalk (s : ByteArray) (w : World) (ws : s.size ≤ maxLen) (hM : MaxLenIs w) :
    Calls Tryd.prog 7 #[.string s] w fun e w' => e = .returned (.bool true) ∧ Below w.heap.size w w' := by
  have HM := hide hM
  have hMz : 3 < w.heap.size := by obtain ⟨m, hm⟩ := hM; exact cell_lt hm
  clear hM
  by_cases h : 1048576 < s.size
  · have hd : decide (1048576 < (s.size : Int)) = true := by simp; omega
    go_enter Tryd.func7, Tryd.ntmps7
    go_wp2
    go_ret
    exact ⟨rfl, Below.refl _ _⟩
  have hd : decide (1048576 < (s.size : Int)) = false := by simp; omega
  have hs : s.size ≤ 1048576 := by omega
  have hs2 : s.size ≤ 16777216 := by omega
  have hW := wordsB_le s
  obtain ⟨xs, hxs⟩ : ∃ xs, wordsB s = xs := ⟨_, rfl⟩
  obtain ⟨n, hn⟩ : ∃ n, xs.length = n := ⟨_, rfl⟩
  have HX := hide hxs
  have HN := hide hn
  rw [hxs, hn] at hW
  clear hxs hn h ws
  go_enter Tryd.func7, Tryd.ntmps7
  have B0 := hide (Below.refl w.heap.size w)
  go_wp2_with fail
  refine (spec_splitWords s _ hs).mono ?_
  rintro e u1 ⟨A1, C1, rfl, ho, hb1⟩
  rw [HX.out, HN.out] at ho ⊢
  have e1 : w.heap.size ≤ u1.heap.size := hb1.size
  have B1 := hide (B0.out.trans (hb1.mono B0.out.size))
  clear hb1 B0
  have U_1 := hide ho
  clear ho
  go_wp2_with fail
  refine (impl_splitWords s _ hs2 (HM.out.below hMz B1.out)).mono ?_
  rintro e u2 ⟨A2, C2, rfl, ho, hb2⟩
  rw [HX.out, HN.out] at ho ⊢
  have e2 : u1.heap.size ≤ u2.heap.size := hb2.size
  have B2 := hide (B1.out.trans (hb2.mono B1.out.size))
  have U_2 := hide (U_1.out.below hb2)
  clear U_1
  clear hb2 B1
  have G_2 := hide ho
  clear ho
  go_wp2_with fail
  refine (quiet_below (eqStringS_same _ _ _ _ _ xs _ (by omega) G_2.out.len (G_2.out.row (fun _ => rfl)) (U_2.out.row (fun _ => rfl)))).mono ?_
  rintro e u3 ⟨rfl, hb3⟩
  have e3 : u2.heap.size ≤ u3.heap.size := hb3.size
  have B3 := hide (B2.out.trans (hb3.mono B2.out.size))
  have U_3 := hide (U_2.out.below hb3)
  clear U_2
  have G_3 := hide (G_2.out.below hb3)
  clear G_2
  clear hb3 B2
  go_wp2_with fail
  refine (markStringS_own _ _ _ _ _ 1 xs _ (by omega) (by omega) (by omega) G_3.out).mono ?_
  rintro e u4 ⟨rfl, ho, hb4⟩
  have e4 : u3.heap.size ≤ u4.heap.size := hb4.size
  have B4 := hide (B3.out.trans (hb4.below (by have := B3.out.size; omega) B3.out.size))
  have U_4 := hide (U_3.out.touch hb4 (by omega))
  clear U_3
  clear hb4 B3 G_3
  have G_4 := hide ho
  clear ho
  go_wp2_with fail
  refine (heldStringS_ok _ _ _ 1 _ (by omega) (by omega) (by omega) (G_4.out.row (fun _ => rfl))).mono ?_
  rintro e u5 ⟨rfl, hb5⟩
  have e5 : u4.heap.size ≤ u5.heap.size := hb5.size
  have B5 := hide (B4.out.trans (hb5.mono B4.out.size))
  have U_5 := hide (U_4.out.below hb5)
  clear U_4
  have G_5 := hide (G_4.out.below hb5)
  clear G_4
  clear hb5 B4
  go_wp2_with fail
  refine (impl_splitWords s _ hs2 (HM.out.below hMz B5.out)).mono ?_
  rintro e u6 ⟨A3, C3, rfl, ho, hb6⟩
  rw [HX.out, HN.out] at ho ⊢
  have e6 : u5.heap.size ≤ u6.heap.size := hb6.size
  have B6 := hide (B5.out.trans (hb6.mono B5.out.size))
  have U_6 := hide (U_5.out.below hb6)
  clear U_5
  have G_6 := hide (G_5.out.below hb6)
  clear G_5
  clear hb6 B5
  have H_6 := hide ho
  clear ho
  go_wp2_with fail
  refine (quiet_below (eqStringS_same _ _ _ _ _ xs _ (by omega) H_6.out.len (H_6.out.row (fun _ => rfl)) (U_6.out.row (fun _ => rfl)))).mono ?_
  rintro e u7 ⟨rfl, hb7⟩
  have e7 : u6.heap.size ≤ u7.heap.size := hb7.size
  have B7 := hide (B6.out.trans (hb7.mono B6.out.size))
  have U_7 := hide (U_6.out.below hb7)
  clear U_6
  have G_7 := hide (G_6.out.below hb7)
  clear G_6
  have H_7 := hide (H_6.out.below hb7)
  clear H_6
  clear hb7 B6
  go_wp2_with fail
  refine (heldStringS_ok _ _ _ 1 _ (by omega) (by omega) (by omega) (G_7.out.row (fun _ => rfl))).mono ?_
  rintro e u8 ⟨rfl, hb8⟩
  have e8 : u7.heap.size ≤ u8.heap.size := hb8.size
  have B8 := hide (B7.out.trans (hb8.mono B7.out.size))
  have U_8 := hide (U_7.out.below hb8)
  clear U_7
  have G_8 := hide (G_7.out.below hb8)
  clear G_7
  have H_8 := hide (H_7.out.below hb8)
  clear H_7
  clear hb8 B7
  go_wp2
  go_ret
  exact ⟨rfl, B8.out⟩
end Go.Proofs.YtjoepnmmcagggaaDoor
