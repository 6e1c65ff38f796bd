/-
  What is proved: contracts of a2Length, a2Same, a2Apart, and of a2Long at a long second code. Conditions: as named in each.
-/
import Derived.Test.YtfjnhocmkafnbaaPerpQ
import Derived.Test.YtfjnhocmkafnbaaA2
import Derived.BigRegion
namespace Go.Proofs.Ytfjnhocmkafnbaa
open Go.RowKit Go.PlainAid
set_option linter.unusedVariables false

theorem a2Long_two (w : World) (A B : Option Addr) (n c m d : Nat) (h1 : n ≤ 3000) (h2 : 3000 < m) :
    Calls Try.prog 31 #[.slice A n c, .slice B m d] w fun e w' => e = .returned (.bool true) ∧ w = w' := by
  have d1 : decide (3000 < (n : Int)) = false := by simp; omega
  have d2 : decide (3000 < (m : Int)) = true := by simp; omega
  clear h1 h2
  go_enter Try.func31, Try.ntmps31
  go_wp2
  go_ret
  exact ⟨rfl, rfl⟩
theorem a2Length (w : World) (A : Option Addr) (n c : Nat) (z : List Int) (ha : ArgInts .u8 w A n c z) :
    Calls Try.prog 34 #[.slice A n c] w fun e w' => ∃ v : Int, 1 ≤ v ∧ v ≤ 40 ∧ e = .returned (.int .i64 v) ∧ Below w.heap.size w w' := by
  have HA := hide ha
  clear ha
  go_enter Try.func34, Try.ntmps34
  go_wp2_with fail
  refine (src_from _ _ _ _).mono ?_
  rintro e w1 ⟨rfl, hw1⟩
  obtain ⟨hs, hb1⟩ := src_start _ _ _ _ _ hw1
  have HS := hide hs
  have HB1 := hide hb1
  have hz1 : w.heap.size ≤ w1.heap.size := hb1.size
  clear hs hb1 hw1
  go_wp2_with fail
  refine (src_pick w _ _ A n c 0 z 40 (by omega) (by omega) (by omega) HA.out HS.out).mono ?_
  rintro e w2 ⟨v, k', hv0, hv1, rfl, hk', hs2, ho2⟩
  have HB2 := hide (HB1.out.trans (ho2.below (Nat.le_refl _) hz1))
  clear hs2 ho2
  go_wp2
  go_ret
  exact ⟨1 + v, by omega, by omega, rfl, HB2.out⟩
set_option maxHeartbeats 1000000 in
theorem a2Same_yes (A B : Option Addr) (n c d : Nat) (zs : List Int) (w : World) (hn : n ≤ 16777216) (hl : zs.length = n) (ha : Row encI 1 w A zs) (hb : Row encI 1 w B zs) :
    Calls Try.prog 37 #[.slice A n c, .slice B n d] w fun e w' => e = .returned (.bool true) ∧ Below w.heap.size w w' := by
  have HA := hide ha
  have HB := hide hb
  have HL := hide hl
  have hnm : n ≤ 9223372036854775807 := by omega
  clear ha hb hl
  go_enter Try.func37, Try.ntmps37
  go_wp2
  go_loopw [5] (fun i wr => ∃ k : Nat, k ≤ n ∧ i = .int .i64 k ∧ ∃ q, wr = w.drewN q) (fun i _ => n - (intOf i).toNat)
  case atStart => exact ⟨0, by omega, rfl, 0, rfl⟩
  case round =>
    obtain ⟨k, hk, rfl, q, rfl⟩ := hrel
    by_cases hlt : k < n
    · obtain ⟨x, hzk⟩ : ∃ z, zs[k]? = some z := ⟨zs[k]'(by have := HL.out; omega), List.getElem?_eq_getElem (by have := HL.out; omega)⟩
      obtain ⟨ba, offa, rfl, hba, a0⟩ := row_at_1 HA.out hzk rfl
      obtain ⟨bb, offb, rfl, hbb, b0⟩ := row_at_1 HB.out hzk rfl
      clear hzk
      have hki : (k : Int) < (n : Int) := by omega
      go_wp2
      go_quiet (fail)
      go_wp2
      go_roundw
      case rel => exact ⟨k + 1, by omega, by go_num, _, rfl⟩
      case measure => simp [intOf]; omega
    · go_wp2
      go_ret
      exact ⟨rfl, below_drewN (Below.refl _ _) q⟩
theorem take_more {α : Type} {P : α → Prop} {xs : List α} {k : Nat} {x : α} (h : ∀ y ∈ xs.take k, P y) (hx : xs[k]? = some x) (hp : P x) : ∀ y ∈ xs.take (k + 1), P y := by
  intro y hy
  rw [List.take_add_one, hx] at hy
  rcases List.mem_append.1 hy with hy | hy
  · exact h y hy
  · obtain rfl : y = x := by simpa using hy
    exact hp
theorem apartL_yes {xs ys : List Int} {lap : Int} {n : Nat} (hn : xs.length = n) (h : ∀ x ∈ xs.take n, ∀ y ∈ ys, lap ≤ max (x - y) (y - x)) : apartL xs ys lap = true := by
  rw [← hn, List.take_length] at h
  rw [apartL_iff]
  intro d hd
  obtain ⟨x, hx, y, hy, rfl⟩ := dist_mem.1 hd
  exact h x hx y hy
theorem apartL_no {xs ys : List Int} {lap x y : Int} {k j : Nat} (hx : xs[k]? = some x) (hy : ys[j]? = some y) (h : max (x - y) (y - x) < lap) : apartL xs ys lap = false := by
  cases e : apartL xs ys lap with
  | false => rfl
  | true =>
    have := apartL_iff.1 e _ (dist_mem.2 ⟨x, List.mem_of_getElem? hx, y, List.mem_of_getElem? hy, rfl⟩)
    omega
set_option maxRecDepth 100000 in
set_option maxHeartbeats 4000000 in
theorem a2Apart_is (A B : Option Addr) (n c m d : Nat) (xs ys : List Int) (lap : Int) (w : World) (hn : n ≤ 1000) (hm : m ≤ 1000) (hl : xs.length = n) (hl2 : ys.length = m) (ha : Row encI 1 w A xs) (hb : Row encI 1 w B ys) (hx : ∀ x ∈ xs, 0 ≤ x ∧ x ≤ 1000) (hy : ∀ y ∈ ys, 0 ≤ y ∧ y ≤ 1000) :
    Calls Try.prog 40 #[.slice A n c, .slice B m d, .int .i64 lap] w fun e w' => e = .returned (.bool (apartL xs ys lap)) ∧ Below w.heap.size w w' := by
  have HA := hide ha
  have HB := hide hb
  have HL := hide hl
  have HL2 := hide hl2
  have HX := hide hx
  have HY := hide hy
  clear ha hb hl hl2 hx hy
  go_enter Try.func40, Try.ntmps40
  go_wp2
  go_loopw [7] (fun i wr => ∃ k : Nat, k ≤ n ∧ i = .int .i64 k ∧ Hid (∀ x ∈ xs.take k, ∀ y ∈ ys, lap ≤ max (x - y) (y - x)) ∧ ∃ q, wr = w.drewN q) (fun i _ => n - (intOf i).toNat)
  case atStart => exact ⟨0, by omega, rfl, hide (fun x hx => absurd hx (by simp)), 0, rfl⟩
  case round =>
    obtain ⟨k, hk, rfl, HK, q, rfl⟩ := hrel
    by_cases hlt : k < n
    · obtain ⟨x, hzk⟩ : ∃ z, xs[k]? = some z := ⟨xs[k]'(by have := HL.out; omega), List.getElem?_eq_getElem (by have := HL.out; omega)⟩
      obtain ⟨ba, offa, rfl, hba, a0⟩ := row_at_1 HA.out hzk rfl
      obtain ⟨hx0, hx1⟩ := HX.out x (List.mem_of_getElem? hzk)
      have HZK := hide hzk
      clear hzk
      have hki : (k : Int) < (n : Int) := by omega
      go_wp2
      go_loopw [8] (fun i wr => ∃ j : Nat, j ≤ m ∧ i = .int .i64 j ∧ Hid (∀ y ∈ ys.take j, lap ≤ max (x - y) (y - x)) ∧ ∃ q, wr = w.drewN q) (fun i _ => m - (intOf i).toNat)
      case atStart => exact ⟨0, by omega, rfl, hide (fun y hy => absurd hy (by simp)), q, rfl⟩
      case round =>
        obtain ⟨j, hj, rfl, HJ, q, rfl⟩ := hrel
        by_cases hlj : j < m
        · obtain ⟨y, hzj⟩ : ∃ z, ys[j]? = some z := ⟨ys[j]'(by have := HL2.out; omega), List.getElem?_eq_getElem (by have := HL2.out; omega)⟩
          obtain ⟨bb, offb, rfl, hbb, b0⟩ := row_at_1 HB.out hzj rfl
          obtain ⟨hy0, hy1⟩ := HY.out y (List.mem_of_getElem? hzj)
          have HZJ := hide hzj
          clear hzj
          have hji : (j : Int) < (m : Int) := by omega
          have v1 := Go.IntWalk.i64_in (x - y) ⟨by omega, by omega⟩
          have v2 := Go.IntWalk.i64_in (y - x) ⟨by omega, by omega⟩
          by_cases hd : max (x - y) (y - x) < lap
          · have HF := hide (apartL_no HZK.out HZJ.out hd)
            rcases Int.lt_trichotomy x y with h | h | h
            · have e1 : ¬ (y - x ≤ x - y) := by omega
              have e2 : x - y ≤ y - x := by omega
              have e3 : y - x < lap := by omega
              clear hd
              go_wp2
              go_region
              go_wp2
              go_ret
              exact ⟨by rw [HF.out]; rfl, below_drewN (Below.refl _ _) _⟩
            · subst h
              have e3 : x - x < lap := by omega
              have e4 : 0 < lap := by omega
              clear hd
              go_wp2
              go_region
              go_wp2
              go_ret
              exact ⟨by rw [HF.out]; rfl, below_drewN (Below.refl _ _) _⟩
            · have e1 : y - x ≤ x - y := by omega
              have e2 : ¬ (x - y ≤ y - x) := by omega
              have e3 : x - y < lap := by omega
              clear hd
              go_wp2
              go_region
              go_wp2
              go_ret
              exact ⟨by rw [HF.out]; rfl, below_drewN (Below.refl _ _) _⟩
          · have HJ2 := hide (take_more HJ.out HZJ.out (by omega))
            rcases Int.lt_trichotomy x y with h | h | h
            · have e1 : ¬ (y - x ≤ x - y) := by omega
              have e2 : x - y ≤ y - x := by omega
              have e3 : ¬ (y - x < lap) := by omega
              clear hd
              go_wp2
              go_region
              go_wp2
              go_roundw
              case rel => exact ⟨j + 1, by omega, by go_num, HJ2, _, rfl⟩
              case measure => simp [intOf]; omega
            · subst h
              have e3 : ¬ (x - x < lap) := by omega
              have e4 : ¬ (0 < lap) := by omega
              clear hd
              go_wp2
              go_region
              go_wp2
              go_roundw
              case rel => exact ⟨j + 1, by omega, by go_num, HJ2, _, rfl⟩
              case measure => simp [intOf]; omega
            · have e1 : y - x ≤ x - y := by omega
              have e2 : ¬ (x - y ≤ y - x) := by omega
              have e3 : ¬ (x - y < lap) := by omega
              clear hd
              go_wp2
              go_region
              go_wp2
              go_roundw
              case rel => exact ⟨j + 1, by omega, by go_num, HJ2, _, rfl⟩
              case measure => simp [intOf]; omega
        · obtain rfl : j = m := by omega
          have HK2 := hide (take_more HK.out HZK.out (fun y hy => HJ.out y (by rw [List.take_of_length_le (Nat.le_of_eq HL2.out)]; exact hy)))
          go_wp2
          go_roundw
          case rel => exact ⟨k + 1, by omega, by go_num, HK2, _, rfl⟩
          case measure => simp [intOf]; omega
    · obtain rfl : k = n := by omega
      have HF := hide (apartL_yes HL.out HK.out)
      go_wp2
      go_ret
      exact ⟨by rw [HF.out]; rfl, below_drewN (Below.refl _ _) q⟩
end Go.Proofs.Ytfjnhocmkafnbaa
