/-
  What is proved: the law FnLengths returns true and changes nothing that was there, for every input. No conditions.
-/
import Derived.Test.YtekejjieclmcfaaA2
import Derived.Test.YtekejjieclmcfaaL02c
import Derived.Test.YtekejjieclmcfaaPlainL
namespace Go.Proofs.Ytekejjieclmcfaa
open Go.RowKit
set_option linter.unusedVariables false

theorem fcode_zero {l w h j n lo hi : Int} (h1 : FmtOk l w h j) (h2 : lo ≤ n) (h3 : n ≤ hi) : fcode l w h j n lo hi = 0 := by
  unfold fcode
  rw [if_pos (show fmtB l w h j = true from decide_eq_true h1), if_pos ⟨h2, h3⟩]

set_option maxHeartbeats 2000000 in
theorem fnLengthsWalk (a0 : Option Addr) (n0 c0 : Nat) (z0 : List Int) (w : World) (w0 : ArgInts .u8 w a0 n0 c0 z0) :
    Calls Try.prog 17 #[.slice a0 n0 c0] w fun e w' => e = .returned (.bool true) ∧ Below w.heap.size w w' := by
  have W0 := hide w0
  clear w0
  by_cases hlong : 3000 < n0
  · go_enter Try.func17, Try.ntmps17
    go_wp2_with fail
    refine (a2Long_yes _ _ _ _ _ _ _ hlong).mono ?_
    rintro e w1 ⟨rfl, rfl⟩
    go_wp2
    go_ret
    exact ⟨rfl, by go_grown⟩
  have hshort : n0 ≤ 3000 := by omega
  clear hlong
  go_enter Try.func17, Try.ntmps17
  go_wp2_with fail
  refine (a2Long_no _ _ _ _ _ _ _ hshort (by omega)).mono ?_
  rintro e w1 ⟨rfl, rfl⟩
  go_wp2_with fail
  refine (a2Format _ _ _ _ _ W0.out).mono ?_
  rintro e w1 ⟨l, wd, h, j, ⟨b1, b2, b3, b4, b5, b6, b7, b8⟩, rfl, hb1⟩
  have hz1 : w.heap.size ≤ w1.heap.size := by have := hb1.size; (try simp at this); omega
  have W1 := hide ((W0.out.below hb1).below ((Below.refl _ _).alloc (Nat.le_refl _) (.cells #[.int .i64 l, .int .i64 wd, .int .i64 h, .int .i64 j] 29)))
  have B1 : Below w.heap.size w w1 := by
    refine Below.trans ?_ (hb1.mono ?_)
    · go_grown
    · go_size
  clear hb1
  go_wp2_with fail
  refine (a2At_int _ _ _ _ _ _ _ (by omega) (by omega) (by omega) (by omega) W1.out).mono ?_
  rintro e w9 ⟨v, hv0, hv1, rfl, rfl⟩
  have hF : FmtOk l wd h j := by unfold FmtOk; omega
  -- the plain facts
  have m0 := mul_bd (1 + v) (l + j) 90 291 (by omega) (by omega) (by omega) (by omega) (by omega)
  have m1 := le_mul1 (1 + v) (l + j) (by omega) (by omega)
  have hcl := fcode_zero (n := 1 + v) (lo := 1) (hi := 200) hF (by omega) (by omega)
  have eN : lengthNum l wd h j (1 + v) = ((1 + v) * (l + j) - 4 * j) / Int.gcd ((1 + v) * (l + j) - 4 * j) 4 := if_pos hcl
  have eD : lengthDen l wd h j (1 + v) = 4 / Int.gcd ((1 + v) * (l + j) - 4 * j) 4 := if_pos hcl
  obtain ⟨u1, u2, u3, u4, u5⟩ := up_is ((1 + v) * (l + j) - 4 * j) (Int.gcd ((1 + v) * (l + j) - 4 * j) 4) (gcd4 _) (Int.gcd_dvd_left _ _) (by omega)
  rw [← eN] at u3 u4
  rw [← eD] at u1 u2
  rw [← eN, ← eD] at u5
  clear eN eD
  generalize hQ : (1 + v) * (l + j) - 4 * j = q at *
  have qa := quarters_up (1 + v) (l + j) j q (by omega) hQ.symm
  have qb := quarters_less (1 + v) (l + j) j q (by omega) hQ.symm
  have hca := fcode_zero (n := (q + 3) / 4) (lo := 0) (hi := 100000) hF (by omega) (by omega)
  have hcb := fcode_zero (n := (q + 3) / 4 - 1) (lo := 0) (hi := 100000) hF (by omega) (by omega)
  have ea : quartersIn l wd h j ((q + 3) / 4) = 4 * ((q + 3) / 4 + j) / (l + j) := if_pos hca
  have eb : quartersIn l wd h j ((q + 3) / 4 - 1) = 4 * ((q + 3) / 4 - 1 + j) / (l + j) := if_pos hcb
  have m2 := mul_bd (1 + v) (h + j) 90 101 (by omega) (by omega) (by omega) (by omega) (by omega)
  have m3 := le_mul1 (1 + v) (h + j) (by omega) (by omega)
  have eh : heightOf l wd h j (1 + v) = (1 + v) * (h + j) - j := if_pos hcl
  have cc := courses_same (1 + v) (h + j) j (by omega)
  have cd := courses_less (1 + v) (h + j) j (by omega)
  have hcc := fcode_zero (n := (1 + v) * (h + j) - j) (lo := 0) (hi := 100000) hF (by omega) (by omega)
  have hcd := fcode_zero (n := (1 + v) * (h + j) - j - 1) (lo := 0) (hi := 100000) hF (by omega) (by omega)
  have ec : coursesIn l wd h j ((1 + v) * (h + j) - j) = 1 + v := (if_pos hcc).trans cc
  have ed : coursesIn l wd h j ((1 + v) * (h + j) - j - 1) = v := (if_pos hcd).trans (by omega)
  rw [← ea] at qa
  rw [← eb] at qb
  have HQ := hide hQ
  have HL := hide hcl
  have HU := hide u5
  have HA := hide hca
  have HB := hide hcb
  have HC := hide hcc
  have HD := hide hcd
  have EH := hide eh
  have EC := hide ec
  have ED := hide ed
  have k1 : 50 ≤ (1 + v) * (h + j) - j ∧ (1 + v) * (h + j) - j ≤ 9090 := by omega
  have k2 : 1 ≤ (q + 3) / 4 ∧ (q + 3) / 4 ≤ 26200 := by omega
  have k3 : 1 ≤ q ∧ q ≤ 26190 := by omega
  generalize (1 + v) * (h + j) - j = hh at *
  generalize hN : lengthNum l wd h j (1 + v) = N at *
  generalize hD : lengthDen l wd h j (1 + v) = D at *
  generalize hUU : (q + 3) / 4 = up at *
  generalize hAA : quartersIn l wd h j up = qA at *
  generalize hBB : quartersIn l wd h j (up - 1) = qB at *
  have HN := hide hN
  have HDD := hide hD
  have HAA := hide hAA
  have HBB := hide hBB
  have gz : (D == 0) = false := by simp; omega
  have t1 : decide (D < 1) = false := by simp; omega
  have t2 : decide (N < 1) = false := by simp; omega
  have t3 : decide (1000000 < N) = false := by simp; omega
  have t4 : decide (1 + v ≤ qA) = true := by simp; omega
  have t5 : decide (qB < 1 + v) = true := by simp; omega
  have t6 : decide (1 ≤ hh) = true := by simp; omega
  clear m0 m1 hcl u5 qa qb hca hcb ea eb m2 m3 eh cc cd hcc hcd ec ed hQ hN hD hUU hAA hBB hF W1
  go_wp2_with fail
  refine (impl_lengthOf _ _ _ _ _ _ (by omega) (by omega)).mono ?_
  rintro e w2 ⟨rfl, hb2⟩
  rw [HN.out, HDD.out, HL.out]
  have hz2 : w1.heap.size < w2.heap.size := by have := hb2.size; (try simp at this); omega
  obtain ⟨hc2, hf2⟩ := bcell hb2
  have B2 : Below w.heap.size w w2 := by
    refine Below.trans ?_ (hb2.mono ?_)
    · go_grown
    · go_size
  go_wp2_with fail
  rw [HU.out]
  refine (impl_quartersIn _ _ _ _ _ _ (by omega) (by omega)).mono ?_
  rintro e w3 ⟨rfl, hb3⟩
  rw [HAA.out, HA.out]
  have hz3 : w1.heap.size < w3.heap.size := by have := hb3.size; (try simp at this); omega
  obtain ⟨hc3, hf3⟩ := bcell hb3
  have B3 : Below w.heap.size w w3 := by
    refine Below.trans ?_ (hb3.mono ?_)
    · go_grown
    · go_size
  go_wp2_with fail
  refine (impl_quartersIn _ _ _ _ _ _ (by omega) (by omega)).mono ?_
  rintro e w4 ⟨rfl, hb4⟩
  rw [HBB.out, HB.out]
  have hz4 : w1.heap.size < w4.heap.size := by have := hb4.size; (try simp at this); omega
  obtain ⟨hc4, hf4⟩ := bcell hb4
  have B4 : Below w.heap.size w w4 := by
    refine Below.trans ?_ (hb4.mono ?_)
    · go_grown
    · go_size
  go_wp2_with fail
  refine (impl_heightOf _ _ _ _ _ _ (by omega) (by omega)).mono ?_
  rintro e w5 ⟨rfl, hb5⟩
  rw [EH.out, HL.out]
  have hz5 : w1.heap.size < w5.heap.size := by have := hb5.size; (try simp at this); omega
  obtain ⟨hc5, hf5⟩ := bcell hb5
  have B5 : Below w.heap.size w w5 := by
    refine Below.trans ?_ (hb5.mono ?_)
    · go_grown
    · go_size
  go_wp2_with fail
  refine (impl_coursesIn _ _ _ _ _ _ (by omega) (by omega)).mono ?_
  rintro e w6 ⟨rfl, hb6⟩
  rw [EC.out, HC.out]
  have hz6 : w1.heap.size < w6.heap.size := by have := hb6.size; (try simp at this); omega
  obtain ⟨hc6, hf6⟩ := bcell hb6
  have B6 : Below w.heap.size w w6 := by
    refine Below.trans ?_ (hb6.mono ?_)
    · go_grown
    · go_size
  go_wp2_with fail
  refine (impl_coursesIn _ _ _ _ _ _ (by omega) (by omega)).mono ?_
  rintro e w7 ⟨rfl, hb7⟩
  rw [ED.out, HD.out]
  have hz7 : w1.heap.size < w7.heap.size := by have := hb7.size; (try simp at this); omega
  obtain ⟨hc7, hf7⟩ := bcell hb7
  have B7 : Below w.heap.size w w7 := by
    refine Below.trans ?_ (hb7.mono ?_)
    · go_grown
    · go_size
  go_wp2
  go_ret
  exact ⟨ret_bool (beq_iff_eq.2 (by omega)), by go_grown⟩
end Go.Proofs.Ytekejjieclmcfaa
