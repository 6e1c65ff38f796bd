/-
  What is proved: the law FnExactFiredSize returns true and changes nothing that was there, for every input. No conditions beyond the arguments' own ranges.
-/
import Derived.Test.YtakckjmkjplbfaaFired2
import Derived.Test.YtakckjmkjplbfaaMouldSame
namespace Go.Proofs.Ytakckjmkjplbfaa
open Go.RowKit
set_option linter.unusedVariables false

set_option maxHeartbeats 1000000 in
theorem fnExactFiredSizeWalk (a0p a0q a0r a0s : Int) (a1 : Int) (w : World) (w0p : (Lit.int .i64 a0p).wf = true) (w0q : (Lit.int .i64 a0q).wf = true) (w0r : (Lit.int .i64 a0r).wf = true) (w0s : (Lit.int .i64 a0s).wf = true) (w1 : (Lit.int .i64 a1).wf = true) :
    Calls Try.prog 5 #[.agg #[.int .i64 a0p, .int .i64 a0q, .int .i64 a0r, .int .i64 a0s], .int .i64 a1] w fun e w' => e = .returned (.bool true) ∧ Below w.heap.size w w' := by
  have hlen := fsL_len a0p a0q a0r a0s a1
  clear w0p w0q w0r w0s w1
  obtain ⟨K, hK⟩ : ∃ K, fsL a0p a0q a0r a0s a1 = K := ⟨_, rfl⟩
  obtain ⟨cc, hC⟩ : ∃ cc, fsC a0p a0q a0r a0s a1 = cc := ⟨_, rfl⟩
  rw [hK] at hlen
  have HK := hide hK
  have HC := hide hC
  clear hK hC
  have d2 : decide ((1:Int) + (K.length : Int) < 0) = false := by simp; omega
  go_enter Try.func5, Try.ntmps5
  have B0 := hide ((Below.refl w.heap.size w).alloc (Nat.le_refl _) (.cells #[.int .i64 a0p, .int .i64 a0q, .int .i64 a0r, .int .i64 a0s] 31))
  have E0 : (w.alloc (.cells #[.int .i64 a0p, .int .i64 a0q, .int .i64 a0r, .int .i64 a0s] 31)).heap.size = w.heap.size + 1 := by simp
  have M_0 := hide (own_mould_one w 31 a0p a0q a0r a0s)
  obtain ⟨c0, c1, c2, c3, -, -, -, -⟩ := own_mould_at (i := 0) M_0.out.own rfl
  simp only [Nat.zero_mul, Nat.zero_add] at c0 c1 c2 c3
  go_wp2_with fail
  refine (toMould_ok _ _ _ _ _).mono ?_
  rintro e u1 ⟨rfl, hb1⟩
  have e1 : (w.alloc (.cells #[.int .i64 a0p, .int .i64 a0q, .int .i64 a0r, .int .i64 a0s] 31)).heap.size ≤ u1.heap.size := hb1.size
  have B1 := hide (B0.out.trans (hb1.mono B0.out.size))
  have M_1 := hide (M_0.out.below hb1)
  clear M_0
  clear hb1 B0
  clear c0 c1 c2 c3
  go_wp2_with fail
  refine (spec_fs a0p a0q a0r a0s a1 K cc _ HK.out HC.out).mono ?_
  rintro e u2 ⟨A2, C2, rfl, ho, hb2⟩
  have e2 : u1.heap.size ≤ u2.heap.size := hb2.size
  have B2 := hide (B1.out.trans (hb2.mono B1.out.size))
  have M_2 := hide (M_1.out.below hb2)
  clear M_1
  clear hb2 B1
  have U_2 := hide ho
  clear ho
  obtain ⟨c0, c1, c2, c3, -, -, -, -⟩ := own_mould_at (i := 0) M_2.out.own rfl
  simp only [Nat.zero_mul, Nat.zero_add] at c0 c1 c2 c3
  go_wp2_with fail
  refine (toMould_ok _ _ _ _ _).mono ?_
  rintro e u3 ⟨rfl, hb3⟩
  have e3 : u2.heap.size ≤ u3.heap.size := hb3.size
  have B3 := hide (B2.out.trans (hb3.mono B2.out.size))
  have M_3 := hide (M_2.out.below hb3)
  clear M_2
  have U_3 := hide (U_2.out.below hb3)
  clear U_2
  clear hb3 B2
  clear c0 c1 c2 c3
  go_wp2_with fail
  refine (impl_fs a0p a0q a0r a0s a1 K cc _ HK.out HC.out).mono ?_
  rintro e u4 ⟨A4, C4, rfl, ho, hb4⟩
  have e4 : u3.heap.size ≤ u4.heap.size := hb4.size
  have B4 := hide (B3.out.trans (hb4.mono B3.out.size))
  have M_4 := hide (M_3.out.below hb4)
  clear M_3
  have U_4 := hide (U_3.out.below hb4)
  clear U_3
  clear hb4 B3
  have G_4 := hide ho
  clear ho
  go_wp2_with fail
  refine (quiet_below (eqInt64S_same _ _ _ _ _ K _ (by omega) G_4.out.len (G_4.out.row (fun _ => rfl)) (U_4.out.row (fun _ => rfl)))).mono ?_
  rintro e u5 ⟨rfl, hb5⟩
  have e5 : u4.heap.size ≤ u5.heap.size := hb5.size
  have B5 := hide (B4.out.trans (hb5.mono B4.out.size))
  have M_5 := hide (M_4.out.below hb5)
  clear M_4
  have U_5 := hide (U_4.out.below hb5)
  clear U_4
  have G_5 := hide (G_4.out.below hb5)
  clear G_4
  clear hb5 B4
  go_wp2_with fail
  refine (markInt64S_own _ _ _ _ _ 1 K _ (by omega) (by omega) (by omega) G_5.out).mono ?_
  rintro e u6 ⟨rfl, ho, hb6⟩
  have e6 : u5.heap.size ≤ u6.heap.size := hb6.size
  have B6 := hide (B5.out.trans (hb6.below (by have := B5.out.size; omega) B5.out.size))
  have M_6 := hide (M_5.out.touch hb6 (by omega))
  clear M_5
  have U_6 := hide (U_5.out.touch hb6 (by omega))
  clear U_5
  clear hb6 B5 G_5
  have G_6 := hide ho
  clear ho
  go_wp2_with fail
  refine (heldInt64S_ok _ _ _ 1 _ (by omega) (by omega) (by omega) (G_6.out.row (fun _ => rfl))).mono ?_
  rintro e u7 ⟨rfl, rfl⟩
  obtain ⟨c0, c1, c2, c3, -, -, -, -⟩ := own_mould_at (i := 0) M_6.out.own rfl
  simp only [Nat.zero_mul, Nat.zero_add] at c0 c1 c2 c3
  go_wp2_with fail
  refine (toMould_ok _ _ _ _ _).mono ?_
  rintro e u8 ⟨rfl, hb8⟩
  have e8 : u6.heap.size ≤ u8.heap.size := hb8.size
  have B8 := hide (B6.out.trans (hb8.mono B6.out.size))
  have M_8 := hide (M_6.out.below hb8)
  clear M_6
  have U_8 := hide (U_6.out.below hb8)
  clear U_6
  have G_8 := hide (G_6.out.below hb8)
  clear G_6
  clear hb8 B6
  clear c0 c1 c2 c3
  go_wp2_with fail
  refine (impl_fs a0p a0q a0r a0s a1 K cc _ HK.out HC.out).mono ?_
  rintro e u9 ⟨A7, C7, rfl, ho, hb9⟩
  have e9 : u8.heap.size ≤ u9.heap.size := hb9.size
  have B9 := hide (B8.out.trans (hb9.mono B8.out.size))
  have M_9 := hide (M_8.out.below hb9)
  clear M_8
  have U_9 := hide (U_8.out.below hb9)
  clear U_8
  have G_9 := hide (G_8.out.below hb9)
  clear G_8
  clear hb9 B8
  have H_9 := hide ho
  clear ho
  go_wp2_with fail
  refine (quiet_below (eqInt64S_same _ _ _ _ _ K _ (by omega) H_9.out.len (H_9.out.row (fun _ => rfl)) (U_9.out.row (fun _ => rfl)))).mono ?_
  rintro e u10 ⟨rfl, hb10⟩
  have e10 : u9.heap.size ≤ u10.heap.size := hb10.size
  have B10 := hide (B9.out.trans (hb10.mono B9.out.size))
  have M_10 := hide (M_9.out.below hb10)
  clear M_9
  have U_10 := hide (U_9.out.below hb10)
  clear U_9
  have G_10 := hide (G_9.out.below hb10)
  clear G_9
  have H_10 := hide (H_9.out.below hb10)
  clear H_9
  clear hb10 B9
  go_wp2_with fail
  refine (heldInt64S_ok _ _ _ 1 _ (by omega) (by omega) (by omega) (G_10.out.row (fun _ => rfl))).mono ?_
  rintro e u11 ⟨rfl, rfl⟩
  go_wp2
  go_ret
  exact ⟨rfl, B10.out⟩
end Go.Proofs.Ytakckjmkjplbfaa
