/-
  What is proved: equality of two lists of the kind Course, of the program and of the reference. Conditions: lengths that fit.
-/
import Derived.Test.YtlokmkiicmpccaaCourseS
import Derived.Test.YtlokmkiicmpccaaSameL
import Derived.Laws.StructEq
namespace Go.Proofs.Ytlokmkiicmpccaa
open Go.RowKit
set_option linter.unusedVariables false

def Course.same (x y : Course) : Bool := x.lead.toList == y.lead.toList && (x.cycle.toList == y.cycle.toList)
theorem structCourse : Try.prog.underlying 56 = some (.struct (Try.prog.fieldsOf 56)) := by kernel_rfl
theorem stoodCourse : Try.prog.stoodInHeld 56 = false := by kernel_rfl
theorem guardCourse : Try.prog.eqGuardType Try.prog.depth 56 = false := by kernel_rfl
theorem neqCourse (x0 y0 : ByteArray) (x1 y1 : ByteArray) (w : World) : (binOp .neq 56 (.agg #[.string x0, .string x1]) (.agg #[.string y0, .string y1])).run Try.prog w = .ok (.bool (!(Course.same ⟨x0, x1⟩ ⟨y0, y1⟩))) w := by
  have us := Try.underlying9
  rw [run_neq_struct, show (10000 : Nat) = 9999 + 1 from rfl, run_equalIn_agg w 9999 56 _ _ structCourse stoodCourse]
  simp only [Program.fieldsOf, Try.underlying56]
  go_simp
  unfold Course.same
  by_cases h0 : x0.toList = y0.toList <;> by_cases h1 : x1.toList = y1.toList <;> simp [h0, h1]

set_option maxHeartbeats 1000000 in
theorem equalCourse (A B : Option Addr) (n c m d : Nat) (xs ys : List Course) (w : World) (hn : n ≤ 16777216) (hm : m ≤ 16777216) (hl : xs.length = n) (hl2 : ys.length = m) (ha : Row Course.enc 2 w A xs) (hb : Row Course.enc 2 w B ys) :
    Calls Try.prog 40 #[.slice A n c, .slice B m d] w fun e w' => e = .returned (.bool (sameL Course.same xs ys)) ∧ ∃ q, w' = w.drewN q := by
  have HA := hide ha
  have HB := hide hb
  have HL := hide hl
  have HL2 := hide hl2
  have hnm : n ≤ 9223372036854775807 := by omega
  have hnm2 : m ≤ 9223372036854775807 := by omega
  clear ha hb hl hl2
  by_cases hnm' : n = m
  · obtain rfl : n = m := hnm'
    go_enter Try.func40, Try.ntmps40
    go_wp2
    go_loopw [13] (fun i wr => ∃ k : Nat, k ≤ n ∧ i = .int .i64 k ∧ Hid (∀ j x y, j < k → xs[j]? = some x → ys[j]? = some y → Course.same x y = true) ∧ ∃ q, wr = w.drewN q) (fun i _ => n - (intOf i).toNat)
    case atStart => exact ⟨0, by omega, rfl, hide (fun j x y hj => absurd hj (by omega)), 0, rfl⟩
    case round =>
      obtain ⟨k, hk, rfl, HS, q, rfl⟩ := hrel
      by_cases hlt : k < n
      · obtain ⟨⟨x0, x1⟩, hxk⟩ : ∃ z, xs[k]? = some z := ⟨xs[k]'(by have := HL.out; omega), List.getElem?_eq_getElem (by have := HL.out; omega)⟩
        obtain ⟨⟨y0, y1⟩, hyk⟩ : ∃ z, ys[k]? = some z := ⟨ys[k]'(by have := HL2.out; omega), List.getElem?_eq_getElem (by have := HL2.out; omega)⟩
        obtain ⟨ba, offa, rfl, hba, a0, a1⟩ := row_at_2 HA.out hxk rfl
        obtain ⟨bb, offb, rfl, hbb, b0, b1⟩ := row_at_2 HB.out hyk rfl
        have HX := hide hxk
        have HY := hide hyk
        clear hxk hyk
        have hki : (k : Int) < (n : Int) := by omega
        have hg := guardCourse
        have hq := neqCourse x0 y0 x1 y1
        by_cases hs : Course.same ⟨x0, x1⟩ ⟨y0, y1⟩ = true
        · have HSS := hide hs
          go_wp2
          go_quiet (fail)
          go_wp2
          go_roundw
          case rel => exact ⟨k + 1, by omega, by go_num, hide (same_more HS.out HX.out HY.out HSS.out), _, rfl⟩
          case measure => simp [intOf]; omega
        · have hs' : Course.same ⟨x0, x1⟩ ⟨y0, y1⟩ = false := by simpa using hs
          have HSS := hide (sameL_not (f := Course.same) HX.out HY.out hs')
          clear hs
          go_wp2
          go_quiet (fail)
          go_wp2
          go_ret
          exact ⟨by rw [HSS.out]; rfl, _, World.drewN_drewN _ _ _⟩
      · have HSS := hide (sameL_all (f := Course.same) (by rw [HL.out, HL2.out]) (fun j x y hx hy => HS.out j x y (by have := (List.getElem?_eq_some_iff.1 hx).1; have := HL.out; omega) hx hy))
        go_wp2
        go_ret
        exact ⟨by rw [HSS.out]; rfl, _, rfl⟩
  · have d1 : ((n : Int) != (m : Int)) = true := by simp; omega
    have HSS := hide (sameL_len (f := Course.same) (xs := xs) (ys := ys) (by rw [HL.out, HL2.out]; exact hnm'))
    clear hnm'
    go_enter Try.func40, Try.ntmps40
    go_wp2
    go_ret
    exact ⟨by rw [HSS.out]; rfl, 0, rfl⟩
end Go.Proofs.Ytlokmkiicmpccaa
