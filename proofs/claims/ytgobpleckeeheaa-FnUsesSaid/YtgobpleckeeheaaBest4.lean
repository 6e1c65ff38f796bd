/-
  What is proved: the best mould of a list, of the program, where there is one. Conditions: a list that is not empty.
-/
import Derived.Test.YtgobpleckeeheaaBest3
namespace Go.Proofs.Ytgobpleckeeheaa
open Go.RowKit
set_option linter.unusedVariables false

def leastK (zs : List Mould) (l wd h s : Int) (k : Nat) : Int := if k = 0 then -1 else offAt zs l wd h s (nearK zs l wd h s k)
theorem leastK_zero (zs : List Mould) (l wd h s : Int) : leastK zs l wd h s 0 = -1 := rfl
theorem leastK_pos (zs : List Mould) (l wd h s : Int) (k : Nat) (hk : 0 < k) : leastK zs l wd h s k = offAt zs l wd h s (nearK zs l wd h s k) := by
  unfold leastK
  exact if_neg (by omega)
theorem nearK_succ (zs : List Mould) (l wd h s : Int) (k : Nat) : nearK zs l wd h s (k + 1) = if Nearer zs l wd h s k (nearK zs l wd h s k) then k else nearK zs l wd h s k := by rw [nearK]
theorem absI_nonneg (x : Int) : 0 ≤ absI x := by
  unfold absI
  split <;> omega
theorem offI_nonneg (a b c l wd h s : Int) : 0 ≤ offI a b c l wd h s := by
  unfold offI
  have h1 := absI_nonneg (firedI a s - l)
  have h2 := absI_nonneg (firedI b s - wd)
  have h3 := absI_nonneg (firedI c s - h)
  omega
theorem near_way {zs : List Mould} {l wd h s : Int} {k : Nat} {x y : Mould} (hx : zs[k]? = some x) (hy : zs[nearK zs l wd h s k]? = some y) : Nearer zs l wd h s k (nearK zs l wd h s k) ↔ (offI x.l x.w x.h l wd h s < offI y.l y.w y.h l wd h s ∨ (offI x.l x.w x.h l wd h s = offI y.l y.w y.h l wd h s ∧ x.u < y.u)) := by
  unfold Nearer
  rw [offAt_is hx, offAt_is hy, usedAt_is hx, usedAt_is hy]
set_option maxRecDepth 100000 in
set_option maxRecDepth 100000 in
set_option maxHeartbeats 2000000 in
theorem impl_best_yes (A : Option Addr) (n c : Nat) (zs : List Mould) (l wd h j s : Int) (w : World) (hn : n ≤ 16777216) (hl : zs.length = n) (hr : Row Mould.enc 4 w A zs) (hv : mouldsOk zs = true) (hf : fmtB l wd h j = true) (hs : 0 ≤ s ∧ s ≤ 200) (hp : 0 < n) :
    Calls Try.prog 24 #[.slice A n c, .agg #[.int .i64 l, .int .i64 wd, .int .i64 h, .int .i64 j], .int .i64 s] w fun e w' => e = .returned (.tuple #[.int .i64 (nearK zs l wd h s n), .int .i64 0]) ∧ Below w.heap.size w w' := by
  obtain ⟨g1, g2, g3, g4, g5, g6, g7, g8, g9⟩ := of_decide_eq_true hf
  have HA := hide hr
  have HL := hide hl
  have hnm : n ≤ 9223372036854775807 := by omega
  have dn : ((n : Int) == 0) = false := by simp; omega
  clear hr hl
  go_enter Try.func24, Try.ntmps24
  have HB0 := hide ((Below.refl w.heap.size w).alloc (Nat.le_refl _) (.cells #[.int .i64 l, .int .i64 wd, .int .i64 h, .int .i64 j] 55))
  go_wp2_with fail
  refine (impl_validMoulds _ _ _ zs _ hn HL.out (HA.out.below HB0.out)).mono ?_
  rintro e w1 ⟨rfl, hb1⟩
  rw [hv]
  have r0 := (hb1.cell (p := ⟨w.heap.size, 0, none⟩) (by simp)).trans (show _ = some (.int .i64 l) from by simp [go_sem])
  have r1 := (hb1.cell (p := ⟨w.heap.size, 1, none⟩) (by simp)).trans (show _ = some (.int .i64 wd) from by simp [go_sem])
  have r2 := (hb1.cell (p := ⟨w.heap.size, 2, none⟩) (by simp)).trans (show _ = some (.int .i64 h) from by simp [go_sem])
  have r3 := (hb1.cell (p := ⟨w.heap.size, 3, none⟩) (by simp)).trans (show _ = some (.int .i64 j) from by simp [go_sem])
  have HB1 := hide (HB0.out.trans (hb1.mono (by simp)))
  have hz1 : w.heap.size < w1.heap.size := by have := hb1.size; simp at this; omega
  clear hb1
  go_wp2_with fail
  refine (impl_validFormat l wd h j _).mono ?_
  rintro e w2 ⟨rfl, hb2⟩
  rw [hf]
  replace r0 := (hb2.cell (p := ⟨w.heap.size, 0, none⟩) hz1).trans r0
  replace r1 := (hb2.cell (p := ⟨w.heap.size, 1, none⟩) hz1).trans r1
  replace r2 := (hb2.cell (p := ⟨w.heap.size, 2, none⟩) hz1).trans r2
  replace r3 := (hb2.cell (p := ⟨w.heap.size, 3, none⟩) hz1).trans r3
  have HB2 := hide (HB1.out.trans (hb2.mono HB1.out.size))
  have hz2 : w.heap.size < w2.heap.size := by have := hb2.size; have := hz1; omega
  clear hb2
  go_wp2_with fail
  refine (impl_isShrink s _).mono ?_
  rintro e w3 ⟨rfl, rfl⟩
  rw [decide_eq_true hs]
  go_wp2_with fail
  refine (impl_fsizes l wd h j _).mono ?_
  rintro e w4 ⟨gd, rfl, hown, hb4⟩
  have HB4 := hide (HB2.out.trans (hb4.mono HB2.out.size))
  have HOD := hide (own_weak (base' := w.heap.size) hown HB2.out.size)
  clear hown hb4 r0 r1 r2 r3
  go_wp2
  go_loopw [8, 9, 37] (fun b q i wr => ∃ k : Nat, k ≤ n ∧ i = .int .i64 k ∧ b = .int .i64 (nearK zs l wd h s k) ∧ q = .int .i64 (leastK zs l wd h s k) ∧ Hid (wr.ownsRow w.heap.size 2 1 (.slice (some ⟨gd, 0, none⟩) 3 3) 3 (flat encI [l, wd, h])) ∧ Hid (Below w.heap.size w wr)) (fun _ _ i _ => n - (intOf i).toNat)
  case atStart => exact ⟨0, by omega, rfl, rfl, rfl, HOD, HB4⟩
  case round =>
    clear HOD HB4
    obtain ⟨k, hk, rfl, rfl, rfl, HOD, HB⟩ := hrel
    by_cases hlt : k < n
    · obtain ⟨⟨x0, x1, x2, x3⟩, hzk⟩ : ∃ z, zs[k]? = some z := ⟨zs[k]'(by have := HL.out; omega), List.getElem?_eq_getElem (by have := HL.out; omega)⟩
      obtain ⟨b, off, rfl, hb, a0, a1, a2, a3⟩ := row_at_4 (HA.out.below HB.out) hzk rfl
      have HZ := hide hzk
      obtain ⟨⟨p0, p1⟩, ⟨p2, p3⟩, ⟨p4, p5⟩, ⟨p6, p7⟩⟩ := mould_ok_at hv hzk
      simp only at p0 p1 p2 p3 p4 p5 p6 p7
      have hbl := nearK_lt zs l wd h s k n (by omega) hp
      have HS := hide (show leastK zs l wd h s (k + 1) = offAt zs l wd h s (nearK zs l wd h s (k + 1)) from by unfold leastK; rw [if_neg (by omega)])
      have hki : (k : Int) < (n : Int) := by omega
      have HBe := hide (HB.out.alloc HB.out.size (.cells #[.int .i64 x0, .int .i64 x1, .int .i64 x2, .int .i64 x3] 68))
      have HODe := hide (HOD.out.alloc (.cells #[.int .i64 x0, .int .i64 x1, .int .i64 x2, .int .i64 x3] 68))
      clear hzk
      go_wp2_with fail
      refine (impl_firedSizes x0 x1 x2 x3 s _ ⟨by omega, by omega⟩ ⟨by omega, by omega⟩ ⟨by omega, by omega⟩ ⟨by omega, by omega⟩).mono ?_
      rintro e v1 ⟨g, rfl, hown, hb1⟩
      have HB3 := hide (HBe.out.trans (hb1.mono HBe.out.size))
      have HOD3 := hide (own_below HODe.out hb1)
      have m3 := (hb1.cell (p := ⟨wr.heap.size, 3, none⟩) (by simp)).trans (show _ = some (.int .i64 x3) from by simp [go_sem])
      obtain ⟨c0, f0⟩ := own_int_at (i := 0) hown rfl
      obtain ⟨c1, f1⟩ := own_int_at (i := 1) hown rfl
      obtain ⟨c2, f2⟩ := own_int_at (i := 2) hown rfl
      obtain ⟨d0, e0⟩ := own_int_at (i := 0) HOD3.out rfl
      obtain ⟨d1, e1⟩ := own_int_at (i := 1) HOD3.out rfl
      obtain ⟨d2, e2⟩ := own_int_at (i := 2) HOD3.out rfl
      have hv1 : w.heap.size ≤ v1.heap.size := HB3.out.size
      have n0 := fired_bound (a := x0) (s := s) ⟨by omega, by omega⟩ ⟨by omega, by omega⟩
      have n1 := fired_bound (a := x1) (s := s) ⟨by omega, by omega⟩ ⟨by omega, by omega⟩
      have n2 := fired_bound (a := x2) (s := s) ⟨by omega, by omega⟩ ⟨by omega, by omega⟩
      have t0 := absI_bound n0 (show 0 ≤ l ∧ l ≤ 100000 from ⟨by omega, by omega⟩)
      have t1 := absI_bound n1 (show 0 ≤ wd ∧ wd ≤ 100000 from ⟨by omega, by omega⟩)
      have t2 := absI_bound n2 (show 0 ≤ h ∧ h ≤ 100000 from ⟨by omega, by omega⟩)
      have HP := hide (show offI x0 x1 x2 l wd h s = absI (firedI x0 s - l) + absI (firedI x1 s - wd) + absI (firedI x2 s - h) from rfl)
      obtain ⟨⟨y0, y1, y2, y3⟩, hyk⟩ : ∃ z, zs[nearK zs l wd h s k]? = some z := ⟨zs[nearK zs l wd h s k]'(by have := HL.out; omega), List.getElem?_eq_getElem (by have := HL.out; omega)⟩
      obtain ⟨b', off', heq, hb', -, -, -, q3⟩ := row_at_4 (HA.out.below HB3.out) hyk rfl
      cases heq
      have HN := hide (near_way HZ.out hyk)
      have HK1 := hide (leastK_pos zs l wd h s (k + 1) (by omega))
      have HX := hide (nearK_succ zs l wd h s k)
      have HF1 := hide (offAt_is (l := l) (wd := wd) (h := h) (s := s) HZ.out)
      have HF2 := hide (offAt_is (l := l) (wd := wd) (h := h) (s := s) hyk)
      have HG := hide (offI_nonneg y0 y1 y2 l wd h s)
      clear hown hb1 hyk
      generalize firedI x0 s = F0 at *
      generalize firedI x1 s = F1 at *
      generalize firedI x2 s = F2 at *
      have z0 := Go.IntWalk.i64_in (absI (F0 - l)) ⟨by omega, by omega⟩
      have z1 := Go.IntWalk.i64_in (absI (F0 - l) + absI (F1 - wd)) ⟨by omega, by omega⟩
      have z2 := Go.IntWalk.i64_in (absI (F0 - l) + absI (F1 - wd) + absI (F2 - h)) ⟨by omega, by omega⟩
      go_wp2
      refine wp_loop_rounds 4 ?_
      rw [rounds_succ]
      go_wp2_with fail
      refine (impl_apart _ _ _ n0 ⟨by omega, by omega⟩).mono ?_
      rintro e v2 ⟨rfl, rfl⟩
      go_wp2
      rw [rounds_succ]
      go_wp2_with fail
      refine (impl_apart _ _ _ n1 ⟨by omega, by omega⟩).mono ?_
      rintro e v2 ⟨rfl, rfl⟩
      go_wp2
      rw [rounds_succ]
      go_wp2_with fail
      refine (impl_apart _ _ _ n2 ⟨by omega, by omega⟩).mono ?_
      rintro e v2 ⟨rfl, rfl⟩
      go_wp2
      rw [rounds_succ]
      go_wp2
      generalize absI (F0 - l) + absI (F1 - wd) + absI (F2 - h) = P at *
      generalize offI y0 y1 y2 l wd h s = R at *
      clear z0 z1 z2 t0 t1 t2 HS
      rcases Nat.eq_zero_or_pos k with hk0 | hk0
      · subst hk0
        rw [leastK_zero]
        have q1 : nearK zs l wd h s (0 + 1) = 0 := by
          rw [HX.out]
          split <;> rfl
        have HC := hide (show _ ∧ leastK zs l wd h s (0 + 1) = P from And.intro q1 (HK1.out.trans (by rw [q1]; exact HF1.out.trans HP.out)))
        go_wp2
        go_quiet (fail)
        go_wp2
        go_roundw
        case rel => exact ⟨0 + 1, by omega, by go_num, by rw [HC.out.1], by first | (rw [HC.out.2]; done) | (rw [HC.out.2, h3]; done) | (rw [HC.out.2, ← h3]; done), HOD3, hide (below_drewN HB3.out _)⟩
        case measure => simp [intOf]; omega
      · have hG := HG.out
        have dR : decide (R < 0) = false := by simp; omega
        rw [(leastK_pos zs l wd h s k hk0).trans HF2.out]
        by_cases h2 : P < R
        · have q1 : nearK zs l wd h s (k + 1) = k := HX.out.trans (if_pos (HN.out.2 (.inl (by rw [HP.out]; exact h2))))
          have HC := hide (show _ ∧ leastK zs l wd h s (k + 1) = P from And.intro q1 (HK1.out.trans (by rw [q1]; exact HF1.out.trans HP.out)))
          go_wp2
          go_quiet (fail)
          go_wp2
          go_roundw
          case rel => exact ⟨k + 1, by omega, by go_num, by rw [HC.out.1], by first | (rw [HC.out.2]; done) | (rw [HC.out.2, h3]; done) | (rw [HC.out.2, ← h3]; done), HOD3, hide (below_drewN HB3.out _)⟩
          case measure => simp [intOf]; omega
        · by_cases h3 : P = R
          · by_cases h4 : x3 < y3
            · have q1 : nearK zs l wd h s (k + 1) = k := HX.out.trans (if_pos (HN.out.2 (.inr ⟨by rw [HP.out]; exact h3, h4⟩)))
              have HC := hide (show _ ∧ leastK zs l wd h s (k + 1) = P from And.intro q1 (HK1.out.trans (by rw [q1]; exact HF1.out.trans HP.out)))
              go_wp2
              go_quiet (fail)
              go_wp2
              go_roundw
              case rel => exact ⟨k + 1, by omega, by go_num, by rw [HC.out.1], by first | (rw [HC.out.2]; done) | (rw [HC.out.2, h3]; done) | (rw [HC.out.2, ← h3]; done), HOD3, hide (below_drewN HB3.out _)⟩
              case measure => simp [intOf]; omega
            · have q1 : nearK zs l wd h s (k + 1) = nearK zs l wd h s k := HX.out.trans (if_neg (fun q => by have := HN.out.1 q; rw [HP.out] at this; omega))
              have HC := hide (show _ ∧ leastK zs l wd h s (k + 1) = R from And.intro q1 (HK1.out.trans (by rw [q1]; exact HF2.out)))
              go_wp2
              go_quiet (fail)
              go_wp2
              go_roundw
              case rel => exact ⟨k + 1, by omega, by go_num, by rw [HC.out.1], by first | (rw [HC.out.2]; done) | (rw [HC.out.2, h3]; done) | (rw [HC.out.2, ← h3]; done), HOD3, hide (below_drewN HB3.out _)⟩
              case measure => simp [intOf]; omega
          · have q1 : nearK zs l wd h s (k + 1) = nearK zs l wd h s k := HX.out.trans (if_neg (fun q => by have := HN.out.1 q; rw [HP.out] at this; omega))
            have HC := hide (show _ ∧ leastK zs l wd h s (k + 1) = R from And.intro q1 (HK1.out.trans (by rw [q1]; exact HF2.out)))
            go_wp2
            go_quiet (fail)
            go_wp2
            go_roundw
            case rel => exact ⟨k + 1, by omega, by go_num, by rw [HC.out.1], by first | (rw [HC.out.2]; done) | (rw [HC.out.2, h3]; done) | (rw [HC.out.2, ← h3]; done), HOD3, hide (below_drewN HB3.out _)⟩
            case measure => simp [intOf]; omega
    · obtain rfl : k = n := by omega
      go_wp2
      go_ret2
      exact ⟨rfl, HB.out⟩
end Go.Proofs.Ytgobpleckeeheaa
