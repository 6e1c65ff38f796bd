/-
  What is proved: the law FnExactBestMould returns true and changes nothing that was there, for every input. No conditions beyond the arguments' own ranges.
-/
import Derived.Test.YtakckjmkjplbfaaBest5
import Derived.Test.YtakckjmkjplbfaaMouldSame
import Derived.Test.YtakckjmkjplbfaaArgs
import Derived.Deep.RegionWith
namespace Go.Proofs.Ytakckjmkjplbfaa
open Go.RowKit
set_option linter.unusedVariables false

set_option maxRecDepth 100000 in
set_option maxHeartbeats 4000000 in
theorem fnExactBestMouldWalk (a0 : Option Addr) (n0 c0 : Nat) (z0 : List Mould) (a1p a1q a1r a1s : Int) (a2 : Int) (w : World) (w0 : ArgRow Mould.enc Mould.Wf 4 w a0 n0 c0 z0) (w1p : (Lit.int .i64 a1p).wf = true) (w1q : (Lit.int .i64 a1q).wf = true) (w1r : (Lit.int .i64 a1r).wf = true) (w1s : (Lit.int .i64 a1s).wf = true) (w2 : (Lit.int .i64 a2).wf = true) :
    Calls Try.prog 10 #[.slice a0 n0 c0, .agg #[.int .i64 a1p, .int .i64 a1q, .int .i64 a1r, .int .i64 a1s], .int .i64 a2] w fun e w' => e = .returned (.bool true) ∧ Below w.heap.size w w' := by
  clear w1p w1q w1r w1s w2
  obtain ⟨K, hK⟩ : ∃ K, bestV z0 a1p a1q a1r a1s a2 = K := ⟨_, rfl⟩
  obtain ⟨cc, hC⟩ : ∃ cc, bestC z0 a1p a1q a1r a1s a2 = cc := ⟨_, rfl⟩
  have HK := hide hK
  have HC := hide hC
  clear hK hC
  have W0 := hide w0
  have m0 : n0 ≤ maxLen := Nat.le_trans w0.2.1 w0.2.2.1
  have M0 := hide m0
  clear w0 m0
  have B0 := hide ((Below.refl w.heap.size w).alloc (Nat.le_refl _) (.cells #[.int .i64 a1p, .int .i64 a1q, .int .i64 a1r, .int .i64 a1s] 41))
  by_cases hs0 : (1048576 : Int) < n0
  · go_enter Try.func10, Try.ntmps10
    go_wp2_with fail
    refine (szMouldS_ok _ _ _ _ _ (by omega) (by omega) M0.out).mono ?_
    rintro e u1 ⟨rfl, rfl⟩
    rw [if_pos (by omega)]
    go_wp2
    go_ret
    exact ⟨rfl, B0.out⟩
  have d0 : decide ((1048576 : Int) - n0 < 0) = false := by simp; omega
  go_enter Try.func10, Try.ntmps10
  go_wp2_with fail
  refine (szMouldS_ok _ _ _ _ _ (by omega) (by omega) M0.out).mono ?_
  rintro e u1 ⟨rfl, rfl⟩
  rw [if_neg (by omega)]
  have k0 : n0 ≤ 1048576 := by omega
  clear hs0
  go_wp2
  go_region_with (first
    | (go_at_call 14
       refine (toMouldS_own _ _ _ z0 _ k0 (W0.out.below (by first | exact B0.out | exact B0.out.drew))).mono ?_
       rintro e v1 ⟨A1, C1, rfl, ho, hb⟩
       have hzv1 := hb.size
       simp at hzv1
       have c0 := (hb.cell (p := ⟨w.heap.size, 0, none⟩) (by simp <;> omega)).trans (show _ = some (.int .i64 a1p) from by simp [go_sem])
       have c1 := (hb.cell (p := ⟨w.heap.size, 1, none⟩) (by simp <;> omega)).trans (show _ = some (.int .i64 a1q) from by simp [go_sem])
       have c2 := (hb.cell (p := ⟨w.heap.size, 2, none⟩) (by simp <;> omega)).trans (show _ = some (.int .i64 a1r) from by simp [go_sem])
       have c3 := (hb.cell (p := ⟨w.heap.size, 3, none⟩) (by simp <;> omega)).trans (show _ = some (.int .i64 a1s) from by simp [go_sem])
       have Bv1 := hide (B0.out.drew.trans (hb.mono (by simp <;> omega)))
       have P1 := hide ho
       clear hb ho)
    | (go_at_call 26
       refine (toFormat_ok _ _ _ _ _).mono ?_
       rintro e v2 ⟨rfl, hb⟩
       have hzv2 := hb.size
       replace c0 := (hb.cell (p := ⟨w.heap.size, 0, none⟩) (by first | omega | (simp; omega))).trans c0
       replace c1 := (hb.cell (p := ⟨w.heap.size, 1, none⟩) (by first | omega | (simp; omega))).trans c1
       replace c2 := (hb.cell (p := ⟨w.heap.size, 2, none⟩) (by first | omega | (simp; omega))).trans c2
       replace c3 := (hb.cell (p := ⟨w.heap.size, 3, none⟩) (by first | omega | (simp; omega))).trans c3
       have Bv2 := hide (Bv1.out.trans (hb.mono Bv1.out.size))
       have P2 := hide (P1.out.below hb)
       clear hb P1)
    | (go_at_call 36
       refine (spec_best' _ _ _ z0 _ _ _ _ _ K cc _ HK.out HC.out (by omega) P2.out.len (P2.out.row (fun _ => rfl))).mono ?_
       rintro e v3 ⟨rfl, hb⟩
       have hzv3 := hb.size
       replace c0 := (hb.cell (p := ⟨w.heap.size, 0, none⟩) (by first | omega | (simp; omega))).trans c0
       replace c1 := (hb.cell (p := ⟨w.heap.size, 1, none⟩) (by first | omega | (simp; omega))).trans c1
       replace c2 := (hb.cell (p := ⟨w.heap.size, 2, none⟩) (by first | omega | (simp; omega))).trans c2
       replace c3 := (hb.cell (p := ⟨w.heap.size, 3, none⟩) (by first | omega | (simp; omega))).trans c3
       have Bv3 := hide (Bv2.out.trans (hb.mono Bv2.out.size))
       clear hb P2))
  all_goals
    go_wp2_with fail
    refine (toMouldS_own _ _ _ z0 _ k0 (W0.out.below (by first | exact Bv3.out | exact Bv3.out.drew))).mono ?_
    rintro e v4 ⟨A2, C2, rfl, ho, hb⟩
    have hzv4 := hb.size
    replace c0 := (hb.cell (p := ⟨w.heap.size, 0, none⟩) (by first | omega | (simp; omega))).trans c0
    replace c1 := (hb.cell (p := ⟨w.heap.size, 1, none⟩) (by first | omega | (simp; omega))).trans c1
    replace c2 := (hb.cell (p := ⟨w.heap.size, 2, none⟩) (by first | omega | (simp; omega))).trans c2
    replace c3 := (hb.cell (p := ⟨w.heap.size, 3, none⟩) (by first | omega | (simp; omega))).trans c3
    have Bv4 := hide (Bv3.out.trans (hb.mono Bv3.out.size))
    have X4 := hide ho
    clear hb ho
    go_wp2_with fail
    refine (toFormat_ok _ _ _ _ _).mono ?_
    rintro e v5 ⟨rfl, hb⟩
    have hzv5 := hb.size
    have Bv5 := hide (Bv4.out.trans (hb.mono Bv4.out.size))
    have X5 := hide (X4.out.below hb)
    clear hb X4
    go_wp2_with fail
    refine (impl_best' _ _ _ z0 _ _ _ _ _ K cc _ HK.out HC.out (by omega) X5.out.len (X5.out.row (fun _ => rfl))).mono ?_
    rintro e v6 ⟨rfl, hb⟩
    have hzv6 := hb.size
    have Bv6 := hide (Bv5.out.trans (hb.mono Bv5.out.size))
    have X6 := hide (X5.out.below hb)
    clear hb X5
    go_wp2_with fail
    refine (toMouldS_own _ _ _ z0 _ k0 (W0.out.below Bv6.out)).mono ?_
    rintro e u11 ⟨A3, C3, rfl, ho, hb11⟩
    have e11 : v6.heap.size ≤ u11.heap.size := hb11.size
    have B11 := hide (Bv6.out.trans (hb11.mono Bv6.out.size))
    have X_11 := hide (X6.out.below hb11)
    clear X6
    clear hb11 Bv6
    have Z_11 := hide ho
    clear ho
    go_wp2_with fail
    refine (eqMouldS_same _ _ _ _ _ z0 _ (by omega) X_11.out.len (X_11.out.row (fun _ => rfl)) (Z_11.out.row (fun _ => rfl))).mono ?_
    rintro e u12 ⟨rfl, hb12⟩
    have e12 : u11.heap.size ≤ u12.heap.size := hb12.size
    have B12 := hide (B11.out.trans (hb12.mono B11.out.size))
    have X_12 := hide (X_11.out.below hb12)
    clear X_11
    have Z_12 := hide (Z_11.out.below hb12)
    clear Z_11
    clear hb12 B11
    go_wp2
    go_ret
    exact ⟨rfl, B12.out⟩
end Go.Proofs.Ytakckjmkjplbfaa
