/-
  What is proved: contracts of the laws' own functions on lists of the kind Course: the copy, the comparison of equal lists, the marks. Conditions: lengths as named in each.
-/
import Derived.Test.YtlokmkiicmpccaaDoorProg
import Derived.Test.YtlokmkiicmpccaaDoorOwned
import Derived.Handy
import Derived.Lib.Hide
import Derived.BigQuiet
import Derived.Deep.QuietTactic
import Derived.StillTailTactics
import Derived.WalkSpells
import Derived.Test.YtlokmkiicmpccaaDoorMarkText
namespace Go.Proofs.YtlokmkiicmpccaaDoor
open Go.RowKit
set_option linter.unusedVariables false

theorem info_Course : (Tryd.prog.info? 51).map (fun i => (i.zero, i.size, i.bytes)) = some (some (.agg #[.string ⟨#[]⟩, .string ⟨#[]⟩]), 2, 32) := by kernel_rfl

theorem eqCourse_same (x0 : ByteArray) (x1 : ByteArray) (w : World) :
    Calls Tryd.prog 58 #[.agg #[.string x0, .string x1], .agg #[.string x0, .string x1]] w fun e w' => e = .returned (.bool true) ∧ Below w.heap.size w w' := by
  go_enter Tryd.func58, Tryd.ntmps58
  go_wp2
  go_ret
  exact ⟨rfl, by go_grown⟩
set_option maxRecDepth 100000 in
set_option maxHeartbeats 1000000 in
theorem eqCourseS_same (A B : Option Addr) (n c d : Nat) (zs : List Course) (w : World) (hn : n ≤ 16777216) (hl : zs.length = n) (ha : Row Course.enc 2 w A zs) (hb : Row Course.enc 2 w B zs) :
    Calls Tryd.prog 41 #[.slice A n c, .slice B n d] w fun e w' => e = .returned (.bool true) ∧ Below w.heap.size w w' := by
  have HA := hide ha
  have HB := hide hb
  have HL := hide hl
  have hnm : n ≤ 9223372036854775807 := by omega
  clear ha hb hl
  go_enter Tryd.func41, Tryd.ntmps41
  go_wp2
  go_loopw [5] (fun i wr => ∃ k : Nat, k ≤ n ∧ i = .int .i64 k ∧ Hid (Below w.heap.size w wr)) (fun i _ => n - (intOf i).toNat)
  case atStart => exact ⟨0, by omega, rfl, hide (Below.refl _ _)⟩
  case round =>
    obtain ⟨k, hk, rfl, HW⟩ := hrel
    by_cases hlt : k < n
    · obtain ⟨⟨x0, x1⟩, hzk⟩ : ∃ z, zs[k]? = some z := ⟨zs[k]'(by have := HL.out; omega), List.getElem?_eq_getElem (by have := HL.out; omega)⟩
      obtain ⟨ba, offa, rfl, hba, a0, a1⟩ := row_at_2 (HA.out.below HW.out) hzk rfl
      obtain ⟨bb, offb, rfl, hbb, b0, b1⟩ := row_at_2 (HB.out.below HW.out) hzk rfl
      clear hzk
      have hki : (k : Int) < (n : Int) := by omega
      go_wp2
      refine wp_region_still_tail 8 (by kernel_rfl) (by kernel_rfl) ?_
      simp only [List.take_succ_cons, List.take_zero, List.drop_succ_cons, List.drop_zero]
      still_step
      still_step
      still_step
      still_step
      repeat still_step
      refine wpStill_nil ?_
      change wpList _ _ _ _ _ wr.drew
      go_wp2_with fail
      refine (eqCourse_same _ _ _).mono ?_
      rintro e w2 ⟨rfl, hb2⟩
      have HB2 := hide hb2
      clear hb2
      go_wp2
      go_roundw
      case rel => exact ⟨k + 1, by omega, by go_num, hide (HW.out.drew.trans (HB2.out.mono HW.out.size))⟩
      case measure => simp [intOf]; omega
    · go_wp2
      go_ret
      exact ⟨rfl, HW.out⟩
/-- The marked elements, from k0 on. -/
def marksCourse (k0 : Int) (n : Nat) : List Course := (List.range n).map fun i : Nat => ⟨markT (k0 + 2 * (i : Int)), markT (k0 + 2 * (i : Int) + 1)⟩
theorem marksCourse_at (k0 : Int) (n i : Nat) (h : i < n) : (marksCourse k0 n)[i]? = some ⟨markT (k0 + 2 * (i : Int)), markT (k0 + 2 * (i : Int) + 1)⟩ := by
  unfold marksCourse
  rw [List.getElem?_map, List.getElem?_range h]
  rfl
theorem marksCourse_length (k0 : Int) (n : Nat) : (marksCourse k0 n).length = n := by simp [marksCourse]
theorem marksCourse_take (k0 : Int) (n i : Nat) (h : i ≤ n) : (marksCourse k0 n).take i = marksCourse k0 i := by
  unfold marksCourse
  rw [← List.map_take, List.take_range, Nat.min_eq_left h]
end Go.Proofs.YtlokmkiicmpccaaDoor
