/-
  What is proved: the small lemmas of 3 of our texts, joined into one file: each part's own comment says what it proves and under which conditions.
-/
import Derived.Test.YtfjdhjbfingofaaGreatDoorJoinB
import Derived.Test.YtfjdhjbfingofaaGreatDoorJoinD
import Derived.Laws.StructEq
import Derived.Deep.RegionWith
/-
  What is proved: contracts of the laws' own helps f6big, f6ints and f6sum. Conditions: lengths and sums as named in each.
-/
namespace Go.Proofs.YtfjdhjbfingofaaGreatDoor
open Go.RowKit
set_option linter.unusedVariables false

theorem f6big_no (w : World) (A : Option Addr) (n c : Nat) (h1 : n ≤ 4096) :
    Calls Tryz.prog 4 #[.slice A n c] w fun e w' => e = .returned (.bool false) ∧ w = w' := by
  have d1 : decide (4096 < (n : Int)) = false := by simp; omega
  clear h1
  go_enter Tryz.func4, Tryz.ntmps4
  go_wp2
  go_ret
  exact ⟨rfl, rfl⟩
theorem f6big_yes (w : World) (A : Option Addr) (n c : Nat) (h1 : 4096 < n) :
    Calls Tryz.prog 4 #[.slice A n c] w fun e w' => e = .returned (.bool true) ∧ w = w' := by
  have d1 : decide (4096 < (n : Int)) = true := by simp; omega
  clear h1
  go_enter Tryz.func4, Tryz.ntmps4
  go_wp2
  go_ret
  exact ⟨rfl, rfl⟩
set_option maxHeartbeats 1000000 in
theorem f6ints_same (A B : Option Addr) (n c d : Nat) (zs : List Int) (w : World) (hn : n ≤ 16777216) (hl : zs.length = n) (ha : Row encI 1 w A zs) (hb : Row encI 1 w B zs) :
    Calls Tryz.prog 23 #[.slice A n c, .slice B n d] w fun e w' => e = .returned (.bool true) ∧ ∃ q, w' = w.drewN q := by
  have HA := hide ha
  have HB := hide hb
  have HL := hide hl
  have hnm : n ≤ 9223372036854775807 := by omega
  clear ha hb hl
  go_enter Tryz.func23, Tryz.ntmps23
  go_wp2
  go_loopw [5] (fun i wr => ∃ k : Nat, k ≤ n ∧ i = .int .i64 k ∧ ∃ q, wr = w.drewN q) (fun i _ => n - (intOf i).toNat)
  case atStart => exact ⟨0, by omega, rfl, 0, rfl⟩
  case round =>
    obtain ⟨k, hk, rfl, q, rfl⟩ := hrel
    by_cases hlt : k < n
    · obtain ⟨x, hzk⟩ : ∃ z, zs[k]? = some z := ⟨zs[k]'(by have := HL.out; omega), List.getElem?_eq_getElem (by have := HL.out; omega)⟩
      obtain ⟨ba, offa, rfl, hba, a0⟩ := row_at_1 HA.out hzk rfl
      obtain ⟨bb, offb, rfl, hbb, b0⟩ := row_at_1 HB.out hzk rfl
      clear hzk
      have hki : (k : Int) < (n : Int) := by omega
      go_wp2
      go_quiet (fail)
      go_wp2
      go_roundw
      case rel => exact ⟨k + 1, by omega, by go_num, _, rfl⟩
      case measure => simp [intOf]; omega
    · go_wp2
      go_ret
      exact ⟨rfl, _, rfl⟩
/-- The sum of the first k numbers. -/
def sumT (ps : List Int) : Nat → Int
  | 0 => 0
  | k + 1 => sumT ps k + ps.getD k 0
theorem sumT_step {ps : List Int} {k : Nat} {x : Int} (h : ps[k]? = some x) : sumT ps (k + 1) = sumT ps k + x := by
  show sumT ps k + ps.getD k 0 = _
  rw [List.getD_eq_getElem?_getD, h]
  rfl
end Go.Proofs.YtfjdhjbfingofaaGreatDoor

/-
  What is proved: equality of two lists of the kind Clay, of the program and of the reference. Conditions: lengths that fit.
-/
namespace Go.Proofs.YtfjdhjbfingofaaGreatDoor
open Go.RowKit
set_option linter.unusedVariables false

def Clay.same (x y : Clay) : Bool := x.n.toList == y.n.toList && (x.s == y.s && (x.l == y.l && (x.d == y.d && (x.p == y.p))))
theorem structClay : Tryz.prog.underlying 35 = some (.struct (Tryz.prog.fieldsOf 35)) := by kernel_rfl
theorem stoodClay : Tryz.prog.stoodInHeld 35 = false := by kernel_rfl
theorem guardClay : Tryz.prog.eqGuardType Tryz.prog.depth 35 = false := by kernel_rfl
theorem neqClay (x0 y0 : ByteArray) (x1 y1 : Int) (x2 y2 : Int) (x3 y3 : Int) (x4 y4 : Int) (w : World) : (binOp .neq 35 (.agg #[.string x0, .int .i64 x1, .int .i64 x2, .int .i64 x3, .int .i64 x4]) (.agg #[.string y0, .int .i64 y1, .int .i64 y2, .int .i64 y3, .int .i64 y4])).run Tryz.prog w = .ok (.bool (!(Clay.same ⟨x0, x1, x2, x3, x4⟩ ⟨y0, y1, y2, y3, y4⟩))) w := by
  have ui := Tryz.underlying2
  have us := Tryz.underlying9
  rw [run_neq_struct, show (10000 : Nat) = 9999 + 1 from rfl, run_equalIn_agg w 9999 35 _ _ structClay stoodClay]
  simp only [Program.fieldsOf, Tryz.underlying35]
  go_simp
  unfold Clay.same
  by_cases h0 : x0.toList = y0.toList <;> by_cases h1 : x1 = y1 <;> by_cases h2 : x2 = y2 <;> by_cases h3 : x3 = y3 <;> by_cases h4 : x4 = y4 <;> simp [h0, h1, h2, h3, h4]

set_option maxHeartbeats 1000000 in
theorem equalClay (A B : Option Addr) (n c m d : Nat) (xs ys : List Clay) (w : World) (hn : n ≤ 16777216) (hm : m ≤ 16777216) (hl : xs.length = n) (hl2 : ys.length = m) (ha : Row Clay.enc 5 w A xs) (hb : Row Clay.enc 5 w B ys) :
    Calls Tryz.prog 59 #[.slice A n c, .slice B m d] w fun e w' => e = .returned (.bool (sameL Clay.same xs ys)) ∧ ∃ q, w' = w.drewN q := by
  have HA := hide ha
  have HB := hide hb
  have HL := hide hl
  have HL2 := hide hl2
  have hnm : n ≤ 9223372036854775807 := by omega
  have hnm2 : m ≤ 9223372036854775807 := by omega
  clear ha hb hl hl2
  by_cases hnm' : n = m
  · obtain rfl : n = m := hnm'
    go_enter Tryz.func59, Tryz.ntmps59
    go_wp2
    go_loopw [13] (fun i wr => ∃ k : Nat, k ≤ n ∧ i = .int .i64 k ∧ Hid (∀ j x y, j < k → xs[j]? = some x → ys[j]? = some y → Clay.same x y = true) ∧ ∃ q, wr = w.drewN q) (fun i _ => n - (intOf i).toNat)
    case atStart => exact ⟨0, by omega, rfl, hide (fun j x y hj => absurd hj (by omega)), 0, rfl⟩
    case round =>
      obtain ⟨k, hk, rfl, HS, q, rfl⟩ := hrel
      by_cases hlt : k < n
      · obtain ⟨⟨x0, x1, x2, x3, x4⟩, hxk⟩ : ∃ z, xs[k]? = some z := ⟨xs[k]'(by have := HL.out; omega), List.getElem?_eq_getElem (by have := HL.out; omega)⟩
        obtain ⟨⟨y0, y1, y2, y3, y4⟩, hyk⟩ : ∃ z, ys[k]? = some z := ⟨ys[k]'(by have := HL2.out; omega), List.getElem?_eq_getElem (by have := HL2.out; omega)⟩
        obtain ⟨ba, offa, rfl, hba, a0, a1, a2, a3, a4⟩ := row_at_5 HA.out hxk rfl
        obtain ⟨bb, offb, rfl, hbb, b0, b1, b2, b3, b4⟩ := row_at_5 HB.out hyk rfl
        have HX := hide hxk
        have HY := hide hyk
        clear hxk hyk
        have hki : (k : Int) < (n : Int) := by omega
        have hg := guardClay
        have hq := neqClay x0 y0 x1 y1 x2 y2 x3 y3 x4 y4
        by_cases hs : Clay.same ⟨x0, x1, x2, x3, x4⟩ ⟨y0, y1, y2, y3, y4⟩ = true
        · have HSS := hide hs
          go_wp2
          go_quiet (fail)
          go_wp2
          go_roundw
          case rel => exact ⟨k + 1, by omega, by go_num, hide (same_more HS.out HX.out HY.out HSS.out), _, rfl⟩
          case measure => simp [intOf]; omega
        · have hs' : Clay.same ⟨x0, x1, x2, x3, x4⟩ ⟨y0, y1, y2, y3, y4⟩ = false := by simpa using hs
          have HSS := hide (sameL_not (f := Clay.same) HX.out HY.out hs')
          clear hs
          go_wp2
          go_quiet (fail)
          go_wp2
          go_ret
          exact ⟨by rw [HSS.out]; rfl, _, World.drewN_drewN _ _ _⟩
      · have HSS := hide (sameL_all (f := Clay.same) (by rw [HL.out, HL2.out]) (fun j x y hx hy => HS.out j x y (by have := (List.getElem?_eq_some_iff.1 hx).1; have := HL.out; omega) hx hy))
        go_wp2
        go_ret
        exact ⟨by rw [HSS.out]; rfl, _, rfl⟩
  · have d1 : ((n : Int) != (m : Int)) = true := by simp; omega
    have HSS := hide (sameL_len (f := Clay.same) (xs := xs) (ys := ys) (by rw [HL.out, HL2.out]; exact hnm'))
    clear hnm'
    go_enter Tryz.func59, Tryz.ntmps59
    go_wp2
    go_ret
    exact ⟨by rw [HSS.out]; rfl, 0, rfl⟩
set_option maxHeartbeats 1000000 in
theorem spec_sameClay (A B : Option Addr) (n c m d : Nat) (xs ys : List Clay) (w : World) (hn : n ≤ 16777216) (hm : m ≤ 16777216) (hl : xs.length = n) (hl2 : ys.length = m) (ha : Row Clay.enc 5 w A xs) (hb : Row Clay.enc 5 w B ys) :
    Calls Tryz.prog 24 #[.slice A n c, .slice B m d] w fun e w' => e = .returned (.bool (sameL Clay.same xs ys)) ∧ ∃ q, w' = w.drewN q := by
  have HA := hide ha
  have HB := hide hb
  have HL := hide hl
  have HL2 := hide hl2
  have hnm : n ≤ 9223372036854775807 := by omega
  have hnm2 : m ≤ 9223372036854775807 := by omega
  clear ha hb hl hl2
  by_cases hnm' : n = m
  · obtain rfl : n = m := hnm'
    go_enter Tryz.func24, Tryz.ntmps24
    go_wp2
    go_loopw [5] (fun i wr => ∃ k : Nat, k ≤ n ∧ i = .int .i64 k ∧ Hid (∀ j x y, j < k → xs[j]? = some x → ys[j]? = some y → Clay.same x y = true) ∧ ∃ q, wr = w.drewN q) (fun i _ => n - (intOf i).toNat)
    case atStart => exact ⟨0, by omega, rfl, hide (fun j x y hj => absurd hj (by omega)), 0, rfl⟩
    case round =>
      obtain ⟨k, hk, rfl, HS, q, rfl⟩ := hrel
      by_cases hlt : k < n
      · obtain ⟨⟨x0, x1, x2, x3, x4⟩, hxk⟩ : ∃ z, xs[k]? = some z := ⟨xs[k]'(by have := HL.out; omega), List.getElem?_eq_getElem (by have := HL.out; omega)⟩
        obtain ⟨⟨y0, y1, y2, y3, y4⟩, hyk⟩ : ∃ z, ys[k]? = some z := ⟨ys[k]'(by have := HL2.out; omega), List.getElem?_eq_getElem (by have := HL2.out; omega)⟩
        obtain ⟨ba, offa, rfl, hba, a0, a1, a2, a3, a4⟩ := row_at_5 HA.out hxk rfl
        obtain ⟨bb, offb, rfl, hbb, b0, b1, b2, b3, b4⟩ := row_at_5 HB.out hyk rfl
        have HX := hide hxk
        have HY := hide hyk
        clear hxk hyk
        have hki : (k : Int) < (n : Int) := by omega
        have hg := guardClay
        have hq := neqClay x0 y0 x1 y1 x2 y2 x3 y3 x4 y4
        by_cases hs : Clay.same ⟨x0, x1, x2, x3, x4⟩ ⟨y0, y1, y2, y3, y4⟩ = true
        · have HSS := hide hs
          go_wp2
          go_quiet (fail)
          go_wp2
          go_roundw
          case rel => exact ⟨k + 1, by omega, by go_num, hide (same_more HS.out HX.out HY.out HSS.out), _, rfl⟩
          case measure => simp [intOf]; omega
        · have hs' : Clay.same ⟨x0, x1, x2, x3, x4⟩ ⟨y0, y1, y2, y3, y4⟩ = false := by simpa using hs
          have HSS := hide (sameL_not (f := Clay.same) HX.out HY.out hs')
          clear hs
          go_wp2
          go_quiet (fail)
          go_wp2
          go_ret
          exact ⟨by rw [HSS.out]; rfl, _, World.drewN_drewN _ _ _⟩
      · have HSS := hide (sameL_all (f := Clay.same) (by rw [HL.out, HL2.out]) (fun j x y hx hy => HS.out j x y (by have := (List.getElem?_eq_some_iff.1 hx).1; have := HL.out; omega) hx hy))
        go_wp2
        go_ret
        exact ⟨by rw [HSS.out]; rfl, _, rfl⟩
  · have d1 : ((n : Int) != (m : Int)) = true := by simp; omega
    have HSS := hide (sameL_len (f := Clay.same) (xs := xs) (ys := ys) (by rw [HL.out, HL2.out]; exact hnm'))
    clear hnm'
    go_enter Tryz.func24, Tryz.ntmps24
    go_wp2
    go_ret
    exact ⟨by rw [HSS.out]; rfl, 0, rfl⟩
theorem impl_sameClay (A B : Option Addr) (n c m d : Nat) (xs ys : List Clay) (w : World) (hn : n ≤ 16777216) (hm : m ≤ 16777216) (hl : xs.length = n) (hl2 : ys.length = m) (ha : Row Clay.enc 5 w A xs) (hb : Row Clay.enc 5 w B ys) :
    Calls Tryz.prog 26 #[.slice A n c, .slice B m d] w fun e w' => e = .returned (.bool (sameL Clay.same xs ys)) ∧ ∃ q, w' = w.drewN q := by
  have HA := hide ha
  have HB := hide hb
  have HL := hide hl
  have HL2 := hide hl2
  clear ha hb hl hl2
  go_enter Tryz.func26, Tryz.ntmps26
  go_wp2_with fail
  refine (equalClay _ _ _ _ _ _ xs ys _ hn hm HL.out HL2.out HA.out HB.out).mono ?_
  rintro e w1 ⟨rfl, q, rfl⟩
  go_wp2
  go_ret
  exact ⟨rfl, q, rfl⟩
end Go.Proofs.YtfjdhjbfingofaaGreatDoor

/-
  What is proved: sizes and marks of lists of clays. Conditions: lengths as named in each.
-/
namespace Go.Proofs.YtfjdhjbfingofaaGreatDoor
open Go.RowKit
set_option linter.unusedVariables false

end Go.Proofs.YtfjdhjbfingofaaGreatDoor
