/-
  What is proved: the least distance of two lists of numbers, of the program and of the reference. Condition: numbers from 0 to 1000, lengths up to 1000.
-/
import Derived.Test.YtfjnhocmkafnbaaPerp
namespace Go.Proofs.Ytfjnhocmkafnbaa
open Go.RowKit Go.PlainAid
set_option linter.unusedVariables false

theorem impl_apart (x y : Int) (w : World) (hx : 0 ≤ x ∧ x ≤ 1000) (hy : 0 ≤ y ∧ y ≤ 1000) :
    Calls Try.prog 116 #[.int .i64 x, .int .i64 y] w fun e w' => e = .returned (.int .i64 (max (x - y) (y - x))) ∧ w = w' := by
  obtain ⟨hx0, hx1⟩ := hx
  obtain ⟨hy0, hy1⟩ := hy
  rcases Int.lt_trichotomy x y with h | h | h
  · rw [show max (x - y) (y - x) = y - x from by omega]
    have e1 : ¬ (y - x ≤ x - y) := by omega
    go_enter Try.func116, Try.ntmps116
    go_wp2
    all_goals first | omega | (go_ret; exact ⟨rfl, rfl⟩)
  · subst h
    rw [show max (x - x) (x - x) = 0 from by omega]
    go_enter Try.func116, Try.ntmps116
    go_wp2
    all_goals
      go_ret
      exact ⟨ret_int (by simp), rfl⟩
  · rw [show max (x - y) (y - x) = x - y from by omega]
    have e1 : y - x ≤ x - y := by omega
    go_enter Try.func116, Try.ntmps116
    go_wp2
    all_goals first | omega | (go_ret; exact ⟨rfl, rfl⟩)
theorem spec_apart (x y : Int) (w : World) (hx : 0 ≤ x ∧ x ≤ 1000) (hy : 0 ≤ y ∧ y ≤ 1000) :
    Calls Try.prog 90 #[.int .i64 (x - y)] w fun e w' => e = .returned (.int .i64 (max (x - y) (y - x))) ∧ w = w' := by
  obtain ⟨a, ha⟩ : ∃ a, x - y = a := ⟨_, rfl⟩
  have ha0 : -1000 ≤ a ∧ a ≤ 1000 := by omega
  obtain ⟨ha1, ha2⟩ := ha0
  have e : max (x - y) (y - x) = if a < 0 then -a else a := by split <;> omega
  rw [e, ha]
  clear e ha hx hy
  by_cases h : a < 0
  · rw [if_pos h]
    go_enter Try.func90, Try.ntmps90
    go_wp2
    go_ret
    exact ⟨rfl, rfl⟩
  · rw [if_neg h]
    go_enter Try.func90, Try.ntmps90
    go_wp2
    go_ret
    exact ⟨rfl, rfl⟩
theorem quiet_more {P : Program} {f : FuncId} {args : Array Value} {w : World} {a n : Nat} {v : Value} (h : Calls P f args (w.drewN (a + n)) fun e w' => e = .returned v ∧ w.drewN (a + n) = w') :
    Calls P f args (w.drewN (a + n)) fun e w'' => e = .returned v ∧ ∃ m, w'' = w.drewN (a + m) := h.mono fun _ _ hh => ⟨hh.1, n, hh.2.symm⟩
theorem minD_neg {m d : Int} (h : m < 0) : minD m d = d := by unfold minD; rw [if_pos (.inl h)]
theorem minD_less {m d : Int} (h : d < m) : minD m d = d := by unfold minD; rw [if_pos (.inr h)]
theorem minD_keep {m d : Int} (h : ¬ m < 0) (h2 : ¬ d < m) : minD m d = m := by unfold minD; rw [if_neg (by omega)]
theorem lapRow_full {x m : Int} {ys : List Int} {k : Nat} (h : ys.length = k) : lapRow x m (ys.take k) = lapRow x m ys := by rw [List.take_of_length_le (by omega)]
theorem spec_apart' (x y d : Int) (hd : max (x - y) (y - x) = d) (w : World) (hx : 0 ≤ x ∧ x ≤ 1000) (hy : 0 ≤ y ∧ y ≤ 1000) :
    Calls Try.prog 90 #[.int .i64 (x - y)] w fun e w' => e = .returned (.int .i64 d) ∧ w = w' := by
  subst hd
  exact spec_apart x y w hx hy
set_option maxRecDepth 100000 in
set_option maxHeartbeats 4000000 in
theorem impl_lap (A B : Option Addr) (n c m d : Nat) (xs ys : List Int) (w : World) (hn : n ≤ 1000) (hm : m ≤ 1000) (hl : xs.length = n) (hl2 : ys.length = m) (ha : Row encI 1 w A xs) (hb : Row encI 1 w B ys) (hx : ∀ x ∈ xs, 0 ≤ x ∧ x ≤ 1000) (hy : ∀ y ∈ ys, 0 ≤ y ∧ y ≤ 1000) :
    Calls Try.prog 107 #[.slice A n c, .slice B m d] w fun e w' => e = .returned (.int .i64 (lapL xs ys)) ∧ ∃ q, w' = w.drewN q := by
  have HA := hide ha
  have HB := hide hb
  have HL := hide hl
  have HL2 := hide hl2
  have HX := hide hx
  have HY := hide hy
  clear ha hb hl hl2 hx hy
  go_enter Try.func107, Try.ntmps107
  go_wp2
  go_loopw [5, 13] (fun v i wr => ∃ k : Nat, k ≤ n ∧ i = .int .i64 k ∧ v = .int .i64 (lapTo xs ys k) ∧ ∃ q, wr = w.drewN q) (fun _ i _ => n - (intOf i).toNat)
  case atStart => exact ⟨0, by omega, rfl, rfl, 0, rfl⟩
  case round =>
    obtain ⟨k, hk, rfl, rfl, q, rfl⟩ := hrel
    have hbd := lapTo_bd (B := 1000) (by omega) HX.out HY.out k
    obtain ⟨hb0, hb1⟩ := hbd
    by_cases hlt : k < n
    · obtain ⟨x, hzk⟩ : ∃ z, xs[k]? = some z := ⟨xs[k]'(by have := HL.out; omega), List.getElem?_eq_getElem (by have := HL.out; omega)⟩
      obtain ⟨ba, offa, rfl, hba, a0⟩ := row_at_1 HA.out hzk rfl
      have hxb := HX.out x (List.mem_of_getElem? hzk)
      have HS := hide (lapTo_step (ys := ys) hzk)
      obtain ⟨hx0, hx1⟩ := hxb
      clear hzk
      have hki : (k : Int) < (n : Int) := by omega
      go_wp2
      go_loopw [5, 19] (fun v i wr => ∃ j : Nat, j ≤ m ∧ i = .int .i64 j ∧ v = .int .i64 (lapRow x (lapTo xs ys k) (ys.take j)) ∧ ∃ q, wr = w.drewN q) (fun _ i _ => m - (intOf i).toNat)
      case atStart => exact ⟨0, by omega, rfl, rfl, q, rfl⟩
      case round =>
        obtain ⟨j, hj, rfl, rfl, q, rfl⟩ := hrel
        have hrb := lapRow_bd (x := x) (B := 1000) (by omega) ⟨hx0, hx1⟩ hb0 hb1 (ys := ys.take j) (fun y hy => HY.out y (List.mem_of_mem_take hy))
        by_cases hlj : j < m
        · obtain ⟨y, hzj⟩ : ∃ z, ys[j]? = some z := ⟨ys[j]'(by have := HL2.out; omega), List.getElem?_eq_getElem (by have := HL2.out; omega)⟩
          obtain ⟨bb, offb, rfl, hbb, b0⟩ := row_at_1 HB.out hzj rfl
          have hyb := HY.out y (List.mem_of_getElem? hzj)
          obtain ⟨hy0, hy1⟩ := hyb
          have hst := lapRow_step (x := x) (m := lapTo xs ys k) hzj
          generalize lapRow x (lapTo xs ys k) (ys.take j) = r at *
          generalize hs' : lapRow x (lapTo xs ys k) (ys.take (j + 1)) = r' at *
          have HR := hide hs'
          clear hs' hzj
          obtain ⟨dd, hdd⟩ : ∃ dd, max (x - y) (y - x) = dd := ⟨_, rfl⟩
          have hd0 : 0 ≤ dd ∧ dd ≤ 1000 := by omega
          rw [hdd] at hst
          have HD := hide hdd
          have HST := hide hst
          obtain ⟨hd0, hd1⟩ := hd0
          obtain ⟨hr0, hr1⟩ := hrb
          clear hdd hst
          have hji : (j : Int) < (m : Int) := by omega
          have v1 := Go.IntWalk.i64_in (x - y) ⟨by omega, by omega⟩
          have v2 := Go.IntWalk.i64_in (y - x) ⟨by omega, by omega⟩
          by_cases h1 : r < 0
          · have HM := hide (minD_neg (d := dd) h1)
            go_wp2_with fail
            refine (impl_apart x y _ ⟨hx0, hx1⟩ ⟨hy0, hy1⟩).mono ?_
            rintro e w1 ⟨rfl, rfl⟩
            rw [HD.out]
            go_wp2
            go_roundw
            case rel => exact ⟨j + 1, by omega, by go_num, by rw [HR.out, HST.out, HM.out], _, rfl⟩
            case measure => simp [intOf]; omega
          by_cases h2 : dd < r
          · have HM := hide (minD_less h2)
            go_wp2_with fail
            refine (impl_apart x y _ ⟨hx0, hx1⟩ ⟨hy0, hy1⟩).mono ?_
            rintro e w1 ⟨rfl, rfl⟩
            rw [HD.out]
            go_wp2
            go_roundw
            case rel => exact ⟨j + 1, by omega, by go_num, by rw [HR.out, HST.out, HM.out], _, rfl⟩
            case measure => simp [intOf]; omega
          · have HM := hide (minD_keep h1 h2)
            go_wp2_with fail
            refine (impl_apart x y _ ⟨hx0, hx1⟩ ⟨hy0, hy1⟩).mono ?_
            rintro e w1 ⟨rfl, rfl⟩
            rw [HD.out]
            go_wp2
            go_roundw
            case rel => exact ⟨j + 1, by omega, by go_num, by rw [HR.out, HST.out, HM.out], _, rfl⟩
            case measure => simp [intOf]; omega
        · obtain rfl : j = m := by omega
          have HF := hide (lapRow_full (x := x) (m := lapTo xs ys k) HL2.out)
          go_wp2
          go_roundw
          case rel => exact ⟨k + 1, by omega, by go_num, by rw [HS.out, HF.out], _, rfl⟩
          case measure => simp [intOf]; omega
    · obtain rfl : k = n := by omega
      have HF := hide (show lapTo xs ys k = lapL xs ys from by rw [← HL.out]; exact lapTo_all xs ys)
      go_wp2
      go_ret
      exact ⟨ret_int HF.out, _, rfl⟩
end Go.Proofs.Ytfjnhocmkafnbaa
