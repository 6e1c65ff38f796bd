/-
  What is proved: equality of two lists of the kind Mould, of the program and of the reference. Conditions: lengths that fit.
-/
import Derived.Test.YtgobpleckeeheaaMouldS
import Derived.Test.YtgobpleckeeheaaSameL
import Derived.Laws.StructEq
namespace Go.Proofs.Ytgobpleckeeheaa
open Go.RowKit
set_option linter.unusedVariables false

def Mould.same (x y : Mould) : Bool := x.l == y.l && (x.w == y.w && (x.h == y.h && (x.u == y.u)))
theorem structMould : Try.prog.underlying 68 = some (.struct (Try.prog.fieldsOf 68)) := by kernel_rfl
theorem stoodMould : Try.prog.stoodInHeld 68 = false := by kernel_rfl
theorem guardMould : Try.prog.eqGuardType Try.prog.depth 68 = false := by kernel_rfl
theorem neqMould (x0 y0 : Int) (x1 y1 : Int) (x2 y2 : Int) (x3 y3 : Int) (w : World) : (binOp .neq 68 (.agg #[.int .i64 x0, .int .i64 x1, .int .i64 x2, .int .i64 x3]) (.agg #[.int .i64 y0, .int .i64 y1, .int .i64 y2, .int .i64 y3])).run Try.prog w = .ok (.bool (!(Mould.same ⟨x0, x1, x2, x3⟩ ⟨y0, y1, y2, y3⟩))) w := by
  have ui := Try.underlying2
  rw [run_neq_struct, show (10000 : Nat) = 9999 + 1 from rfl, run_equalIn_agg w 9999 68 _ _ structMould stoodMould]
  simp only [Program.fieldsOf, Try.underlying68]
  go_simp
  unfold Mould.same
  by_cases h0 : x0 = y0 <;> by_cases h1 : x1 = y1 <;> by_cases h2 : x2 = y2 <;> by_cases h3 : x3 = y3 <;> simp [h0, h1, h2, h3]

set_option maxHeartbeats 1000000 in
theorem equalMould (A B : Option Addr) (n c m d : Nat) (xs ys : List Mould) (w : World) (hn : n ≤ 16777216) (hm : m ≤ 16777216) (hl : xs.length = n) (hl2 : ys.length = m) (ha : Row Mould.enc 4 w A xs) (hb : Row Mould.enc 4 w B ys) :
    Calls Try.prog 87 #[.slice A n c, .slice B m d] w fun e w' => e = .returned (.bool (sameL Mould.same xs ys)) ∧ ∃ q, w' = w.drewN q := by
  have HA := hide ha
  have HB := hide hb
  have HL := hide hl
  have HL2 := hide hl2
  have hnm : n ≤ 9223372036854775807 := by omega
  have hnm2 : m ≤ 9223372036854775807 := by omega
  clear ha hb hl hl2
  by_cases hnm' : n = m
  · obtain rfl : n = m := hnm'
    go_enter Try.func87, Try.ntmps87
    go_wp2
    go_loopw [13] (fun i wr => ∃ k : Nat, k ≤ n ∧ i = .int .i64 k ∧ Hid (∀ j x y, j < k → xs[j]? = some x → ys[j]? = some y → Mould.same x y = true) ∧ ∃ q, wr = w.drewN q) (fun i _ => n - (intOf i).toNat)
    case atStart => exact ⟨0, by omega, rfl, hide (fun j x y hj => absurd hj (by omega)), 0, rfl⟩
    case round =>
      obtain ⟨k, hk, rfl, HS, q, rfl⟩ := hrel
      by_cases hlt : k < n
      · obtain ⟨⟨x0, x1, x2, x3⟩, hxk⟩ : ∃ z, xs[k]? = some z := ⟨xs[k]'(by have := HL.out; omega), List.getElem?_eq_getElem (by have := HL.out; omega)⟩
        obtain ⟨⟨y0, y1, y2, y3⟩, hyk⟩ : ∃ z, ys[k]? = some z := ⟨ys[k]'(by have := HL2.out; omega), List.getElem?_eq_getElem (by have := HL2.out; omega)⟩
        obtain ⟨ba, offa, rfl, hba, a0, a1, a2, a3⟩ := row_at_4 HA.out hxk rfl
        obtain ⟨bb, offb, rfl, hbb, b0, b1, b2, b3⟩ := row_at_4 HB.out hyk rfl
        have HX := hide hxk
        have HY := hide hyk
        clear hxk hyk
        have hki : (k : Int) < (n : Int) := by omega
        have hg := guardMould
        have hq := neqMould x0 y0 x1 y1 x2 y2 x3 y3
        by_cases hs : Mould.same ⟨x0, x1, x2, x3⟩ ⟨y0, y1, y2, y3⟩ = true
        · have HSS := hide hs
          go_wp2
          go_quiet (fail)
          go_wp2
          go_roundw
          case rel => exact ⟨k + 1, by omega, by go_num, hide (same_more HS.out HX.out HY.out HSS.out), _, rfl⟩
          case measure => simp [intOf]; omega
        · have hs' : Mould.same ⟨x0, x1, x2, x3⟩ ⟨y0, y1, y2, y3⟩ = false := by simpa using hs
          have HSS := hide (sameL_not (f := Mould.same) HX.out HY.out hs')
          clear hs
          go_wp2
          go_quiet (fail)
          go_wp2
          go_ret
          exact ⟨by rw [HSS.out]; rfl, _, World.drewN_drewN _ _ _⟩
      · have HSS := hide (sameL_all (f := Mould.same) (by rw [HL.out, HL2.out]) (fun j x y hx hy => HS.out j x y (by have := (List.getElem?_eq_some_iff.1 hx).1; have := HL.out; omega) hx hy))
        go_wp2
        go_ret
        exact ⟨by rw [HSS.out]; rfl, _, rfl⟩
  · have d1 : ((n : Int) != (m : Int)) = true := by simp; omega
    have HSS := hide (sameL_len (f := Mould.same) (xs := xs) (ys := ys) (by rw [HL.out, HL2.out]; exact hnm'))
    clear hnm'
    go_enter Try.func87, Try.ntmps87
    go_wp2
    go_ret
    exact ⟨by rw [HSS.out]; rfl, 0, rfl⟩
set_option maxHeartbeats 1000000 in
theorem spec_sameMould (A B : Option Addr) (n c m d : Nat) (xs ys : List Mould) (w : World) (hn : n ≤ 16777216) (hm : m ≤ 16777216) (hl : xs.length = n) (hl2 : ys.length = m) (ha : Row Mould.enc 4 w A xs) (hb : Row Mould.enc 4 w B ys) :
    Calls Try.prog 33 #[.slice A n c, .slice B m d] w fun e w' => e = .returned (.bool (sameL Mould.same xs ys)) ∧ ∃ q, w' = w.drewN q := by
  have HA := hide ha
  have HB := hide hb
  have HL := hide hl
  have HL2 := hide hl2
  have hnm : n ≤ 9223372036854775807 := by omega
  have hnm2 : m ≤ 9223372036854775807 := by omega
  clear ha hb hl hl2
  by_cases hnm' : n = m
  · obtain rfl : n = m := hnm'
    go_enter Try.func33, Try.ntmps33
    go_wp2
    go_loopw [5] (fun i wr => ∃ k : Nat, k ≤ n ∧ i = .int .i64 k ∧ Hid (∀ j x y, j < k → xs[j]? = some x → ys[j]? = some y → Mould.same x y = true) ∧ ∃ q, wr = w.drewN q) (fun i _ => n - (intOf i).toNat)
    case atStart => exact ⟨0, by omega, rfl, hide (fun j x y hj => absurd hj (by omega)), 0, rfl⟩
    case round =>
      obtain ⟨k, hk, rfl, HS, q, rfl⟩ := hrel
      by_cases hlt : k < n
      · obtain ⟨⟨x0, x1, x2, x3⟩, hxk⟩ : ∃ z, xs[k]? = some z := ⟨xs[k]'(by have := HL.out; omega), List.getElem?_eq_getElem (by have := HL.out; omega)⟩
        obtain ⟨⟨y0, y1, y2, y3⟩, hyk⟩ : ∃ z, ys[k]? = some z := ⟨ys[k]'(by have := HL2.out; omega), List.getElem?_eq_getElem (by have := HL2.out; omega)⟩
        obtain ⟨ba, offa, rfl, hba, a0, a1, a2, a3⟩ := row_at_4 HA.out hxk rfl
        obtain ⟨bb, offb, rfl, hbb, b0, b1, b2, b3⟩ := row_at_4 HB.out hyk rfl
        have HX := hide hxk
        have HY := hide hyk
        clear hxk hyk
        have hki : (k : Int) < (n : Int) := by omega
        have hg := guardMould
        have hq := neqMould x0 y0 x1 y1 x2 y2 x3 y3
        by_cases hs : Mould.same ⟨x0, x1, x2, x3⟩ ⟨y0, y1, y2, y3⟩ = true
        · have HSS := hide hs
          go_wp2
          go_quiet (fail)
          go_wp2
          go_roundw
          case rel => exact ⟨k + 1, by omega, by go_num, hide (same_more HS.out HX.out HY.out HSS.out), _, rfl⟩
          case measure => simp [intOf]; omega
        · have hs' : Mould.same ⟨x0, x1, x2, x3⟩ ⟨y0, y1, y2, y3⟩ = false := by simpa using hs
          have HSS := hide (sameL_not (f := Mould.same) HX.out HY.out hs')
          clear hs
          go_wp2
          go_quiet (fail)
          go_wp2
          go_ret
          exact ⟨by rw [HSS.out]; rfl, _, World.drewN_drewN _ _ _⟩
      · have HSS := hide (sameL_all (f := Mould.same) (by rw [HL.out, HL2.out]) (fun j x y hx hy => HS.out j x y (by have := (List.getElem?_eq_some_iff.1 hx).1; have := HL.out; omega) hx hy))
        go_wp2
        go_ret
        exact ⟨by rw [HSS.out]; rfl, _, rfl⟩
  · have d1 : ((n : Int) != (m : Int)) = true := by simp; omega
    have HSS := hide (sameL_len (f := Mould.same) (xs := xs) (ys := ys) (by rw [HL.out, HL2.out]; exact hnm'))
    clear hnm'
    go_enter Try.func33, Try.ntmps33
    go_wp2
    go_ret
    exact ⟨by rw [HSS.out]; rfl, 0, rfl⟩
theorem impl_sameMould (A B : Option Addr) (n c m d : Nat) (xs ys : List Mould) (w : World) (hn : n ≤ 16777216) (hm : m ≤ 16777216) (hl : xs.length = n) (hl2 : ys.length = m) (ha : Row Mould.enc 4 w A xs) (hb : Row Mould.enc 4 w B ys) :
    Calls Try.prog 34 #[.slice A n c, .slice B m d] w fun e w' => e = .returned (.bool (sameL Mould.same xs ys)) ∧ ∃ q, w' = w.drewN q := by
  have HA := hide ha
  have HB := hide hb
  have HL := hide hl
  have HL2 := hide hl2
  clear ha hb hl hl2
  go_enter Try.func34, Try.ntmps34
  go_wp2_with fail
  refine (equalMould _ _ _ _ _ _ xs ys _ hn hm HL.out HL2.out HA.out HB.out).mono ?_
  rintro e w1 ⟨rfl, q, rfl⟩
  go_wp2
  go_ret
  exact ⟨rfl, q, rfl⟩
end Go.Proofs.Ytgobpleckeeheaa
