import Derived.Test.YtgobpleckeeheaaBestP
import Derived.Test.YtgobpleckeeheaaMouldV2
namespace Go.Proofs.Ytgobpleckeeheaa
open Go.RowKit
set_option linter.unusedVariables false
set_option maxRecDepth 100000 in
set_option maxRecDepth 100000 in
set_option maxHeartbeats 1000000 in
theorem spec_best_yes (A : Option Addr) (n c : Nat) (zs : List Mould) (l wd h j s : Int) (w : World) (hn : n ≤ 16777216) (hl : zs.length = n) (hr : Row Mould.enc 4 w A zs) (hv : mouldsOk zs = true) (hf : fmtB l wd h j = true) (h0 : 0 ≤ s) (h1 : s ≤ 200) (hp : 0 < n) :
    Calls Try.prog 25 #[.slice A n c, .agg #[.int .i64 l, .int .i64 wd, .int .i64 h, .int .i64 j], .int .i64 s] w fun e w' => e = .returned (.tuple #[.int .i64 (nearK zs l wd h s n), .int .i64 0]) ∧ Below w.heap.size w w' := by
  obtain ⟨g1, g2, g3, g4, g5, g6, g7, g8, g9⟩ := of_decide_eq_true hf
  have HA := hide hr
  have HL := hide hl
  have hnm : n ≤ 9223372036854775807 := by omega
  have dn : ((n : Int) == 0) = false := by simp; omega
  clear hr hl
  go_enter Try.func25, Try.ntmps25
  go_wp2_with fail
  refine (spec_l05Ok _ _ _ zs _ hn HL.out (HA.out.below ((Below.refl _ _).alloc (Nat.le_refl _) _))).mono ?_
  rintro e w1 ⟨rfl, rfl⟩
  rw [hv]
  go_wp2_with fail
  refine (spec_l02Ok l wd h j _).mono ?_
  rintro e u2 ⟨rfl, hb2⟩
  rw [hf]
  have HB2 := hide (((Below.refl w.heap.size w).alloc (Nat.le_refl _) (.cells #[.int .i64 l, .int .i64 wd, .int .i64 h, .int .i64 j] 55)).trans (hb2.mono (by simp)))
  have r0 := (hb2.cell (p := ⟨w.heap.size, 0, none⟩) (by simp)).trans (show _ = some (.int .i64 l) from by simp [go_sem])
  have r1 := (hb2.cell (p := ⟨w.heap.size, 1, none⟩) (by simp)).trans (show _ = some (.int .i64 wd) from by simp [go_sem])
  have r2 := (hb2.cell (p := ⟨w.heap.size, 2, none⟩) (by simp)).trans (show _ = some (.int .i64 h) from by simp [go_sem])
  have r3 := (hb2.cell (p := ⟨w.heap.size, 3, none⟩) (by simp)).trans (show _ = some (.int .i64 j) from by simp [go_sem])
  have hz2 := hb2.size
  simp at hz2
  clear hb2
  go_wp2_with fail
  refine (spec_in_yes _ _ _ _ h0 h1).mono ?_
  rintro e u3 ⟨rfl, rfl⟩
  have F0 := hide (And.intro r0 (And.intro r1 (And.intro r2 r3)))
  clear r0 r1 r2 r3
  go_wp2
  go_loopw [8, 9] (fun b i wr => ∃ k : Nat, 1 ≤ k ∧ k ≤ n ∧ i = .int .i64 k ∧ b = .int .i64 (nearK zs l wd h s k) ∧ Hid (wr.cell? ⟨w.heap.size, 0, none⟩ = some (.int .i64 l) ∧ wr.cell? ⟨w.heap.size, 1, none⟩ = some (.int .i64 wd) ∧ wr.cell? ⟨w.heap.size, 2, none⟩ = some (.int .i64 h) ∧ wr.cell? ⟨w.heap.size, 3, none⟩ = some (.int .i64 j)) ∧ Hid (Below w.heap.size w wr) ∧ w.heap.size < wr.heap.size) (fun _ i _ => n - (intOf i).toNat)
  case atStart => exact ⟨1, by omega, by omega, rfl, by rw [nearK_one]; rfl, F0, HB2, by omega⟩
  case round =>
    clear F0 HB2
    obtain ⟨k, hk1, hk, rfl, rfl, HF, HB, hz⟩ := hrel
    by_cases hlt : k < n
    · obtain ⟨r0, r1, r2, r3⟩ := HF.out
      obtain ⟨⟨x0, x1, x2, x3⟩, hzk⟩ : ∃ z, zs[k]? = some z := ⟨zs[k]'(by have := HL.out; omega), List.getElem?_eq_getElem (by have := HL.out; omega)⟩
      obtain ⟨b, off, rfl, hb, a0, a1, a2, a3⟩ := row_at_4 (HA.out.below HB.out) hzk rfl
      have HZ := hide hzk
      obtain ⟨⟨p0, p1⟩, ⟨p2, p3⟩, ⟨p4, p5⟩, ⟨p6, p7⟩⟩ := mould_ok_at hv hzk
      simp only at p0 p1 p2 p3 p4 p5 p6 p7
      have hbl := nearK_lt zs l wd h s k n (by omega) hp
      generalize hbj : nearK zs l wd h s k = bj at hbl ⊢
      obtain ⟨⟨y0, y1, y2, y3⟩, hyk⟩ : ∃ z, zs[bj]? = some z := ⟨zs[bj]'(by have := HL.out; omega), List.getElem?_eq_getElem (by have := HL.out; omega)⟩
      obtain ⟨⟨q0, q1⟩, ⟨q2, q3⟩, ⟨q4, q5⟩, ⟨q6, q7⟩⟩ := mould_ok_at hv hyk
      simp only at q0 q1 q2 q3 q4 q5 q6 q7
      obtain ⟨b', off', heq, hb', c0, c1, c2, c3⟩ := row_at_4 (HA.out.below HB.out) hyk rfl
      cases heq
      have HN := hide (show Nearer zs l wd h s k bj ↔ (offI x0 x1 x2 l wd h s < offI y0 y1 y2 l wd h s ∨ (offI x0 x1 x2 l wd h s = offI y0 y1 y2 l wd h s ∧ x3 < y3)) from by
        unfold Nearer
        rw [offAt_is hzk, offAt_is hyk, usedAt_is hzk, usedAt_is hyk])
      have HS := hide (show nearK zs l wd h s (k + 1) = if Nearer zs l wd h s k bj then k else bj from by rw [nearK, hbj])
      clear hbj hyk
      have hki : (k : Int) < (n : Int) := by omega
      clear hzk
      go_wp2
      refine wp_region_still_tail 5 (by kernel_rfl) (by kernel_rfl) ?_
      simp only [List.take_succ_cons, List.take_zero, List.drop_succ_cons, List.drop_zero]
      still_step
      still_step
      still_step
      still_step
      still_step
      refine wpStill_nil ?_
      change wpList _ _ _ _ _ wr.drew
      go_wp2_with fail
      refine (spec_l05Off x0 x1 x2 x3 l wd h j s b (off + k * 4) wr.drew a0 a1 a2 a3 hb ⟨by omega, by omega⟩ ⟨by omega, by omega⟩ ⟨by omega, by omega⟩ ⟨by omega, by omega⟩ ⟨by omega, by omega⟩ ⟨by omega, by omega⟩ ⟨by omega, by omega⟩).mono ?_
      rintro e v1 ⟨rfl, hb1⟩
      have HB1 := hide (HB.out.drew.trans (hb1.mono HB.out.size))
      have hv1 : wr.heap.size ≤ v1.heap.size := hb1.size
      replace r0 := (hb1.cell (p := ⟨w.heap.size, 0, none⟩) hz).trans r0
      replace r1 := (hb1.cell (p := ⟨w.heap.size, 1, none⟩) hz).trans r1
      replace r2 := (hb1.cell (p := ⟨w.heap.size, 2, none⟩) hz).trans r2
      replace r3 := (hb1.cell (p := ⟨w.heap.size, 3, none⟩) hz).trans r3
      replace a3 := (hb1.cell (p := ⟨b, off + k * 4 + 3, none⟩) hb).trans a3
      replace c0 := (hb1.cell (p := ⟨b, off + bj * 4, none⟩) hb).trans c0
      replace c1 := (hb1.cell (p := ⟨b, off + bj * 4 + 1, none⟩) hb).trans c1
      replace c2 := (hb1.cell (p := ⟨b, off + bj * 4 + 2, none⟩) hb).trans c2
      replace c3 := (hb1.cell (p := ⟨b, off + bj * 4 + 3, none⟩) hb).trans c3
      clear hb1 a0 a1 a2
      go_wp2
      refine wp_region_still_tail 5 (by kernel_rfl) (by kernel_rfl) ?_
      simp only [List.take_succ_cons, List.take_zero, List.drop_succ_cons, List.drop_zero]
      still_step
      still_step
      still_step
      still_step
      still_step
      refine wpStill_nil ?_
      change wpList _ _ _ _ _ v1.drew
      go_wp2_with fail
      refine (spec_l05Off y0 y1 y2 y3 l wd h j s b (off + bj * 4) v1.drew c0 c1 c2 c3 (Nat.lt_of_lt_of_le hb hv1) ⟨by omega, by omega⟩ ⟨by omega, by omega⟩ ⟨by omega, by omega⟩ ⟨by omega, by omega⟩ ⟨by omega, by omega⟩ ⟨by omega, by omega⟩ ⟨by omega, by omega⟩).mono ?_
      rintro e v2 ⟨rfl, hb2⟩
      have HB2 := hide (HB1.out.drew.trans (hb2.mono HB1.out.size))
      have hv2 : v1.heap.size ≤ v2.heap.size := hb2.size
      have hb1 : b < v1.heap.size := Nat.lt_of_lt_of_le hb hv1
      have hz1 : w.heap.size < v1.heap.size := Nat.lt_of_lt_of_le hz hv1
      have hz' : w.heap.size < v2.heap.size := Nat.lt_of_lt_of_le hz1 hv2
      replace r0 := (hb2.cell (p := ⟨w.heap.size, 0, none⟩) hz1).trans r0
      replace r1 := (hb2.cell (p := ⟨w.heap.size, 1, none⟩) hz1).trans r1
      replace r2 := (hb2.cell (p := ⟨w.heap.size, 2, none⟩) hz1).trans r2
      replace r3 := (hb2.cell (p := ⟨w.heap.size, 3, none⟩) hz1).trans r3
      replace a3 := (hb2.cell (p := ⟨b, off + k * 4 + 3, none⟩) hb1).trans a3
      replace c3 := (hb2.cell (p := ⟨b, off + bj * 4 + 3, none⟩) hb1).trans c3
      clear hb2 c0 c1 c2
      generalize offI x0 x1 x2 l wd h s = P at *
      generalize offI y0 y1 y2 l wd h s = R at *
      by_cases h2 : P < R
      · have HC := hide (HS.out.trans (if_pos (HN.out.2 (.inl h2))))
        go_wp2
        go_quiet (fail)
        go_wp2
        go_roundw
        case rel => exact ⟨k + 1, by omega, by omega, by go_num, by rw [HC.out], hide ⟨r0, r1, r2, r3⟩, hide (below_drewN HB2.out _), hz'⟩
        case measure => simp [intOf]; omega
      · by_cases h3 : P = R
        · by_cases h4 : x3 < y3
          · have HC := hide (HS.out.trans (if_pos (HN.out.2 (.inr ⟨h3, h4⟩))))
            go_wp2
            go_quiet (fail)
            go_wp2
            go_roundw
            case rel => exact ⟨k + 1, by omega, by omega, by go_num, by rw [HC.out], hide ⟨r0, r1, r2, r3⟩, hide (below_drewN HB2.out _), hz'⟩
            case measure => simp [intOf]; omega
          · have HC := hide (HS.out.trans (if_neg (fun q => by have := HN.out.1 q; omega)))
            go_wp2
            go_quiet (fail)
            go_wp2
            go_roundw
            case rel => exact ⟨k + 1, by omega, by omega, by go_num, by rw [HC.out], hide ⟨r0, r1, r2, r3⟩, hide (below_drewN HB2.out _), hz'⟩
            case measure => simp [intOf]; omega
        · have HC := hide (HS.out.trans (if_neg (fun q => by have := HN.out.1 q; omega)))
          go_wp2
          go_quiet (fail)
          go_wp2
          go_roundw
          case rel => exact ⟨k + 1, by omega, by omega, by go_num, by rw [HC.out], hide ⟨r0, r1, r2, r3⟩, hide (below_drewN HB2.out _), hz'⟩
          case measure => simp [intOf]; omega
    · obtain rfl : k = n := by omega
      go_wp2
      go_ret2
      exact ⟨rfl, HB.out⟩
end Go.Proofs.Ytgobpleckeeheaa
