/-
  What is proved: the parts in least terms, of the program and of the reference. Conditions: lengths that fit.
-/
import Derived.Test.YtfjdhjbfingofaaGreatDoorMean
namespace Go.Proofs.YtfjdhjbfingofaaGreatDoor
open Go.RowKit
set_option linter.unusedVariables false

def gcdK (ps : List Int) : Nat → Nat
  | 0 => 0
  | k + 1 => Int.gcd (gcdK ps k) (ps.getD k 0)
theorem gcdK_succ (ps : List Int) (k : Nat) : gcdK ps (k + 1) = Int.gcd (gcdK ps k) (ps.getD k 0) := rfl
theorem gcdK_zero {ps : List Int} (h : partsIn ps = true) (k : Nat) : gcdK ps k = 0 ↔ sumK ps k = 0 := by
  induction k with
  | zero => simp [gcdK, sumK]
  | succ k ih =>
    have h1 := part_in h k
    have h2 := sumK_in h k
    rw [gcdK_succ, sumK_succ, Int.gcd_eq_zero_iff]
    constructor
    · rintro ⟨a, b⟩
      have := ih.1 (by omega)
      omega
    · intro q
      have := ih.2 (by omega)
      omega
theorem gcdK_le {ps : List Int} (h : partsIn ps = true) (k : Nat) : gcdK ps k ≤ 1000 := by
  induction k with
  | zero => exact Nat.zero_le _
  | succ k ih =>
    have h1 := part_in h k
    rw [gcdK_succ]
    rcases Nat.eq_zero_or_pos (gcdK ps k) with h0 | h0
    · rw [h0, show ((0 : Nat) : Int) = 0 from rfl, Int.gcd_zero_left]
      omega
    · have h5 := gcd_le (ps.getD k 0) (gcdK ps k : Int) (by omega)
      rw [Int.gcd_comm] at h5
      omega
def leastP (ps : List Int) (k : Nat) : List Int := (ps.take k).map (· / (gcdK ps ps.length : Int))
theorem leastP_succ {ps : List Int} {k : Nat} {x : Int} (h : ps[k]? = some x) : leastP ps (k + 1) = leastP ps k ++ [x / (gcdK ps ps.length : Int)] := by
  unfold leastP
  rw [List.take_add_one, h, List.map_append]
  rfl
theorem leastP_len (ps : List Int) (k : Nat) (h : k ≤ ps.length) : (leastP ps k).length = k := by simp [leastP]; omega
theorem info_I64' : (Tryz.prog.info? 2).map (fun i => (i.zero, i.size, i.bytes)) = some (some (.int .i64 0), 1, 8) := by kernel_rfl
set_option maxRecDepth 100000 in
set_option maxHeartbeats 1000000 in
theorem impl_least_yes (A B : Option Addr) (n c m d : Nat) (zs : List Clay) (ps : List Int) (w : World) (hn : n ≤ 16777216) (hnc : n ≤ c) (hm : m ≤ 16777216) (hl : zs.length = n) (hl2 : ps.length = m) (ha : Row Clay.enc 5 w A zs) (hb : Row encI 1 w B ps) (hM : Names zs) (h1 : claysOk zs = true) (h2 : ps.length = zs.length) (h3 : partsIn ps = true) (h4 : ¬ sumK ps ps.length = 0) :
    Calls Tryz.prog 12 #[.slice A n c, .slice B m d] w fun e w' => ∃ A' c', e = .returned (.tuple #[.slice A' m c', .int .i64 0]) ∧ Own 2 1 encI w' w.heap.size w'.heap.size A' m c' (leastP ps m) ∧ Below w.heap.size w w' := by
  obtain ⟨i0, hi, hz0, hz1, hz2⟩ := info_parts info_I64'
  have HI := hide hi
  have HZ0 := hide hz0
  have HZ1 := hide hz1
  have HZ2 := hide hz2
  clear hi hz0 hz1 hz2
  have hp := pcode_yes h1 h2 h3
  have HA := hide ha
  have HB := hide hb
  have HL := hide hl
  have HL2 := hide hl2
  have HM := hide hM
  have hmm : m ≤ 9223372036854775807 := by omega
  clear ha hb hl hl2 hM
  go_enter Tryz.func12, Tryz.ntmps12
  go_wp2_with fail
  refine (impl_partsCode _ _ _ _ _ _ zs ps _ hn hnc hm HL.out HL2.out HA.out HB.out HM.out).mono ?_
  rintro e w1 ⟨rfl, hb1⟩
  rw [hp]
  have HB1 := hide hb1
  have hs1 := hb1.size
  clear hb1
  go_wp2
  have hg0 := gcdK_le h3
  go_loopw [7, 22] (fun g i wr => ∃ k : Nat, k ≤ m ∧ i = .int .i64 k ∧ g = .int .i64 (gcdK ps k) ∧ ∃ q, wr = (w1.alloc (.cells #[] 2)).drewN q) (fun _ i _ => m - (intOf i).toNat)
  case atStart => exact ⟨0, by omega, rfl, rfl, 0, rfl⟩
  case round =>
    obtain ⟨k, hk, rfl, rfl, q, rfl⟩ := hrel
    by_cases hlt : k < m
    · obtain ⟨x, hzk⟩ : ∃ z, ps[k]? = some z := ⟨ps[k]'(by have := HL2.out; omega), List.getElem?_eq_getElem (by have := HL2.out; omega)⟩
      obtain ⟨b, off, rfl, hb, a0⟩ := row_at_1 (HB.out.below (HB1.out.alloc hs1 (.cells #[] 2))) hzk rfl
      have HK := hide (show gcdK ps (k + 1) = Int.gcd (gcdK ps k) x from by rw [gcdK_succ, getD_is hzk])
      have hx := part_in h3 k
      have hgk := hg0 k
      rw [getD_is hzk] at hx
      clear hzk
      have hki : (k : Int) < (m : Int) := by omega
      go_wp2_with fail
      refine (impl_gcd (gcdK ps k) x _ (by omega) (by omega) (by omega) (by omega)).mono ?_
      rintro e w2 ⟨rfl, q2, rfl⟩
      rw [← HK.out]
      go_wp2
      go_roundw
      case rel => exact ⟨k + 1, by omega, by go_num, rfl, _, rfl⟩
      case measure => simp [intOf]; omega
    · obtain rfl : k = m := by omega
      have hgk := hg0 k
      have HZ := hide (gcdK_zero h3 k)
      by_cases hs : sumK ps k = 0
      · exact absurd (HL2.out ▸ hs) h4
      · have hgp : 0 < gcdK ps k := by
          rcases Nat.eq_zero_or_pos (gcdK ps k) with h0 | h0
          · exact absurd (HZ.out.1 h0) hs
          · exact h0
        obtain ⟨G, hG⟩ : ∃ G : Int, ((gcdK ps k : Nat) : Int) = G := ⟨_, rfl⟩
        rw [hG]
        have HG := hide (show ((gcdK ps ps.length : Nat) : Int) = G from by rw [HL2.out]; exact hG)
        have hG1 : 0 < G := by omega
        have hG2 : G ≤ 1000 := by omega
        have eG : (G == 0) = false := by simp; omega
        clear hG hgk hgp hs hg0
        go_wp2
        go_loopw [8, 34] (fun v i wr => ∃ j : Nat, j ≤ k ∧ i = .int .i64 j ∧ Hid (wr.ownsRow w.heap.size 2 1 v (leastP ps j).length (flat encI (leastP ps j))) ∧ Hid (Below w.heap.size w wr)) (fun _ i _ => k - (intOf i).toNat)
        case atStart => exact ⟨0, by omega, rfl, hide (own_empty w1 _ _ _ hs1), hide (below_drewN (HB1.out.alloc hs1 _) _)⟩
        case round =>
          obtain ⟨j, hj, rfl, HO, HW⟩ := hrel
          by_cases hjk : j < k
          · obtain ⟨x, hzk⟩ : ∃ z, ps[j]? = some z := ⟨ps[j]'(by have := HL2.out; omega), List.getElem?_eq_getElem (by have := HL2.out; omega)⟩
            obtain ⟨b, off, rfl, hb, a0⟩ := row_at_1 (HB.out.below HW.out) hzk rfl
            have hx := part_in h3 j
            rw [getD_is hzk] at hx
            have HS := hide (show leastP ps (j + 1) = leastP ps j ++ [x / G] from by rw [leastP_succ hzk, HG.out])
            have hlen := leastP_len ps j (by have := HL2.out; omega)
            clear hzk
            have hki : (j : Int) < (k : Int) := by omega
            have hq := div_le x G hx.1 hG1
            go_wp2_with (at_builtin; refine wpList_append_own _ rfl _ _ 25 rfl w.heap.size 2 i0 (.int .i64 0) 1 8 Tryz.underlying25 HI.out HZ0.out HZ1.out HZ2.out rfl (by decide) _ _ _ rfl (HO.out.alloc _) ⟨_, 0, none⟩ 1 1 [.int .i64 (x / G)] rfl rfl (cell_new_at _ _ _ _ (by simp)) (fun x hx => by simp at hx; subst hx; rfl) (by unfold maxLen; omega) (by omega) (by have := HW.out.size; simp; omega) ?_; intro v' w2 hown' hgrow hnil)
            have HO' := hide (own_push hown' HS.out)
            have HW' := hide (below_push HW.out HO.out hgrow)
            clear hown' hgrow hnil
            go_roundw
            case rel => exact ⟨j + 1, by omega, by go_num, HO', HW'⟩
            case measure => simp [intOf]; omega
          · obtain rfl : j = k := by omega
            have hlen := leastP_len ps j (by have := HL2.out; omega)
            obtain ⟨A', c', rfl, ho⟩ := Own.of_row rfl HO.out HW.out.size
            have HO' := hide ho
            clear ho
            rw [hlen] at HO' ⊢
            go_wp2
            go_ret2
            exact ⟨A', c', rfl, HO'.out, HW.out⟩
set_option maxRecDepth 100000 in
set_option maxHeartbeats 1000000 in
theorem spec_least_yes (A B : Option Addr) (n c m d : Nat) (zs : List Clay) (ps : List Int) (w : World) (hn : n ≤ 16777216) (hm : m ≤ 16777216) (hl : zs.length = n) (hl2 : ps.length = m) (ha : Row Clay.enc 5 w A zs) (hb : Row encI 1 w B ps) (hM : Names zs) (h1 : claysOk zs = true) (h2 : ps.length = zs.length) (h3 : partsIn ps = true) (h4 : ¬ sumK ps ps.length = 0) :
    Calls Tryz.prog 13 #[.slice A n c, .slice B m d] w fun e w' => ∃ A' c', e = .returned (.tuple #[.slice A' m c', .int .i64 0]) ∧ Own 2 1 encI w' w.heap.size w'.heap.size A' m c' (leastP ps m) ∧ Below w.heap.size w w' := by
  obtain ⟨i0, hi, hz0, hz1, hz2⟩ := info_parts info_I64'
  have HI := hide hi
  have HZ0 := hide hz0
  have HZ1 := hide hz1
  have HZ2 := hide hz2
  clear hi hz0 hz1 hz2
  have hp := scode_yes h1 h2 h3 h4
  have HA := hide ha
  have HB := hide hb
  have HL := hide hl
  have HL2 := hide hl2
  have HM := hide hM
  have hmm : m ≤ 9223372036854775807 := by omega
  clear ha hb hl hl2 hM
  go_enter Tryz.func13, Tryz.ntmps13
  go_wp2_with fail
  refine (spec_l03Code _ _ _ _ _ _ zs ps _ hn hm HL.out HL2.out HA.out HB.out HM.out).mono ?_
  rintro e w1 ⟨rfl, hb1⟩
  rw [hp]
  have HB1 := hide hb1
  have hs1 := hb1.size
  clear hb1
  go_wp2
  have hg0 := gcdK_le h3
  go_loop [7, 8] (fun g i => ∃ k : Nat, k ≤ m ∧ i = .int .i64 k ∧ g = .int .i64 (gcdK ps k)) (fun _ i => m - (intOf i).toNat)
  case atStart => exact ⟨0, by omega, rfl, rfl⟩
  case round =>
    obtain ⟨k, hk, rfl, rfl⟩ := hrel
    by_cases hlt : k < m
    · obtain ⟨x, hzk⟩ : ∃ z, ps[k]? = some z := ⟨ps[k]'(by have := HL2.out; omega), List.getElem?_eq_getElem (by have := HL2.out; omega)⟩
      obtain ⟨b, off, rfl, hb, a0⟩ := row_at_1 (HB.out.below HB1.out) hzk rfl
      have HK := hide (show gcdK ps (k + 1) = Int.gcd x (gcdK ps k) from by rw [gcdK_succ, getD_is hzk, Int.gcd_comm])
      have hx := part_in h3 k
      have hgk := hg0 k
      rw [getD_is hzk] at hx
      clear hzk
      have hki : (k : Int) < (m : Int) := by omega
      go_wp2_with fail
      refine (spec_l02Gcd x (gcdK ps k) _ (by omega) (by omega) (by omega) (by omega)).mono ?_
      rintro e w2 ⟨rfl, rfl⟩
      rw [← HK.out]
      go_wp2
      go_round
      case rel => exact ⟨k + 1, by omega, by go_num, rfl⟩
      case measure => simp [intOf]; omega
    · obtain rfl : k = m := by omega
      have hgk := hg0 k
      have HZ := hide (gcdK_zero h3 k)
      by_cases hs : sumK ps k = 0
      · exact absurd (HL2.out ▸ hs) h4
      · have hgp : 0 < gcdK ps k := by
          rcases Nat.eq_zero_or_pos (gcdK ps k) with h0 | h0
          · exact absurd (HZ.out.1 h0) hs
          · exact h0
        obtain ⟨G, hG⟩ : ∃ G : Int, ((gcdK ps k : Nat) : Int) = G := ⟨_, rfl⟩
        rw [hG]
        have HG := hide (show ((gcdK ps ps.length : Nat) : Int) = G from by rw [HL2.out]; exact hG)
        have hG1 : 0 < G := by omega
        have hG2 : G ≤ 1000 := by omega
        have eG : (G == 0) = false := by simp; omega
        clear hG hgk hgp hs hg0
        go_wp2
        go_loopw [9, 10] (fun v i wr => ∃ j : Nat, j ≤ k ∧ i = .int .i64 j ∧ Hid (wr.ownsRow w.heap.size 2 1 v (leastP ps j).length (flat encI (leastP ps j))) ∧ Hid (Below w.heap.size w wr)) (fun _ i _ => k - (intOf i).toNat)
        case atStart => exact ⟨0, by omega, rfl, hide (own_empty w1 _ _ _ hs1), hide (HB1.out.alloc hs1 _)⟩
        case round =>
          obtain ⟨j, hj, rfl, HO, HW⟩ := hrel
          by_cases hjk : j < k
          · obtain ⟨x, hzk⟩ : ∃ z, ps[j]? = some z := ⟨ps[j]'(by have := HL2.out; omega), List.getElem?_eq_getElem (by have := HL2.out; omega)⟩
            obtain ⟨b, off, rfl, hb, a0⟩ := row_at_1 (HB.out.below HW.out) hzk rfl
            have hx := part_in h3 j
            rw [getD_is hzk] at hx
            have HS := hide (show leastP ps (j + 1) = leastP ps j ++ [x / G] from by rw [leastP_succ hzk, HG.out])
            have hlen := leastP_len ps j (by have := HL2.out; omega)
            clear hzk
            have hki : (j : Int) < (k : Int) := by omega
            have hq := div_le x G hx.1 hG1
            go_wp2_with (at_builtin; refine wpList_append_own _ rfl _ _ 25 rfl w.heap.size 2 i0 (.int .i64 0) 1 8 Tryz.underlying25 HI.out HZ0.out HZ1.out HZ2.out rfl (by decide) _ _ _ rfl (HO.out.alloc _) ⟨_, 0, none⟩ 1 1 [.int .i64 (x / G)] rfl rfl (cell_new_at _ _ _ _ (by simp)) (fun x hx => by simp at hx; subst hx; rfl) (by unfold maxLen; omega) (by omega) (by have := HW.out.size; simp; omega) ?_; intro v' w2 hown' hgrow hnil)
            have HO' := hide (own_push hown' HS.out)
            have HW' := hide (below_push HW.out HO.out hgrow)
            clear hown' hgrow hnil
            go_roundw
            case rel => exact ⟨j + 1, by omega, by go_num, HO', HW'⟩
            case measure => simp [intOf]; omega
          · obtain rfl : j = k := by omega
            have hlen := leastP_len ps j (by have := HL2.out; omega)
            obtain ⟨A', c', rfl, ho⟩ := Own.of_row rfl HO.out HW.out.size
            have HO' := hide ho
            clear ho
            rw [hlen] at HO' ⊢
            go_wp2
            go_ret2
            exact ⟨A', c', rfl, HO'.out, HW.out⟩
end Go.Proofs.YtfjdhjbfingofaaGreatDoor
