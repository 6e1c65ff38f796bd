/-
  What is proved: a course is valid, a bond is valid, of the program and of the reference. Condition: lengths that fit.
-/
import Derived.Test.YtgobpleckeeheaaDoorPiece
import Derived.Test.YtgobpleckeeheaaDoorMould
import Derived.Test.YtgobpleckeeheaaDoorOwn
namespace Go.Proofs.YtgobpleckeeheaaDoor
open Go.RowKit Go.PlainAid
set_option linter.unusedVariables false

def Course.ok (c : Course) : Bool := decide (c.lead.size ≤ 6) && (pieceB c.lead && (decide (1 ≤ c.cycle.size ∧ c.cycle.size ≤ 8) && plainB c.cycle))
def bondOk (s : ByteArray) (zs : List Course) : Bool := nameB s && (decide (1 ≤ zs.length ∧ zs.length ≤ 8) && zs.all Course.ok)
theorem course_split {x y : ByteArray} (h : Course.ok ⟨x, y⟩ = true) : x.size ≤ 6 ∧ pieceB x = true ∧ (1 ≤ y.size ∧ y.size ≤ 8) ∧ plainB y = true := by
  simpa only [Course.ok, Bool.and_eq_true, decide_eq_true_iff] using h
theorem course_no0 {x y : ByteArray} (h : ¬ x.size ≤ 6) : Course.ok ⟨x, y⟩ = false := by simp [Course.ok, h]
theorem course_no1 {x y : ByteArray} (h : pieceB x = false) : Course.ok ⟨x, y⟩ = false := by simp [Course.ok, h]
theorem course_no2 {x y : ByteArray} (h : ¬ (1 ≤ y.size ∧ y.size ≤ 8)) : Course.ok ⟨x, y⟩ = false := by simp only [Course.ok, decide_eq_false h, Bool.false_and, Bool.and_false]
theorem course_no3 {x y : ByteArray} (h : plainB y = false) : Course.ok ⟨x, y⟩ = false := by simp [Course.ok, h]
theorem course_yes {x y : ByteArray} (h0 : x.size ≤ 6) (h1 : pieceB x = true) (h2 : 1 ≤ y.size ∧ y.size ≤ 8) (h3 : plainB y = true) : Course.ok ⟨x, y⟩ = true := by simp only [Course.ok, decide_eq_true h0, decide_eq_true h2, h1, h3, Bool.and_self]
/-- The texts of courses fit in memory. -/
def Texts (zs : List Course) : Prop := ∀ (k : Nat) (z : Course), zs[k]? = some z → z.lead.size ≤ maxLen ∧ z.cycle.size ≤ maxLen
theorem texts_of {w : World} {A : Option Addr} {n c : Nat} {zs : List Course} (h : ArgRow Course.enc Course.Wf 2 w A n c zs) : Texts zs := fun k z hz => h.2.2.2.1 z (List.mem_of_getElem? hz)
set_option maxHeartbeats 400000 in
theorem impl_validCourse_no0 (x0 x1 : ByteArray) (w : World) (hs : x0.size ≤ maxLen) (ht : x1.size ≤ maxLen)  (h0 : ¬ x0.size ≤ 6) :
    Calls Tryd.prog 49 #[.agg #[.string x0, .string x1]] w fun e w' => e = .returned (.bool true) ∧ Below w.heap.size w w' := by
  unfold maxLen at hs ht
  have d0 : decide (6 < (x0.size : Int)) = true := by simp; omega
  have HB0 := hide ((Below.refl w.heap.size w).alloc (Nat.le_refl _) (.cells #[.string x0, .string x1] 33))
  go_enter Tryd.func49, Tryd.ntmps49
  go_wp2
  go_ret
  exact ⟨rfl, HB0.out⟩
set_option maxHeartbeats 400000 in
theorem impl_validCourse_no1 (x0 x1 : ByteArray) (w : World) (hs : x0.size ≤ maxLen) (ht : x1.size ≤ maxLen) (h0 : x0.size ≤ 6) (h1 : pieceB x0 = false) :
    Calls Tryd.prog 49 #[.agg #[.string x0, .string x1]] w fun e w' => e = .returned (.bool true) ∧ Below w.heap.size w w' := by
  unfold maxLen at hs ht
  have d0 : decide (6 < (x0.size : Int)) = false := by simp; omega
  have HB0 := hide ((Below.refl w.heap.size w).alloc (Nat.le_refl _) (.cells #[.string x0, .string x1] 33))
  go_enter Tryd.func49, Tryd.ntmps49
  go_wp2_with fail
  refine (impl_onlyPieces x0 _ (by unfold maxLen; omega)).mono ?_
  rintro e u1 ⟨rfl, q1, rfl⟩
  rw [show onlyB pcC x0 = false from h1]
  go_wp2
  go_ret
  exact ⟨rfl, below_drewN HB0.out _⟩
set_option maxHeartbeats 400000 in
theorem impl_validCourse_no2 (x0 x1 : ByteArray) (w : World) (hs : x0.size ≤ maxLen) (ht : x1.size ≤ maxLen) (h0 : x0.size ≤ 6) (h1 : pieceB x0 = true) (h2 : ¬ (1 ≤ x1.size ∧ x1.size ≤ 8)) :
    Calls Tryd.prog 49 #[.agg #[.string x0, .string x1]] w fun e w' => e = .returned (.bool true) ∧ Below w.heap.size w w' := by
  unfold maxLen at hs ht
  have d0 : decide (6 < (x0.size : Int)) = false := by simp; omega
  have HB0 := hide ((Below.refl w.heap.size w).alloc (Nat.le_refl _) (.cells #[.string x0, .string x1] 33))
  go_enter Tryd.func49, Tryd.ntmps49
  go_wp2_with fail
  refine (impl_onlyPieces x0 _ (by unfold maxLen; omega)).mono ?_
  rintro e u1 ⟨rfl, q1, rfl⟩
  rw [show onlyB pcC x0 = true from h1]
  go_wp2_with fail
  refine (impl_in_no _ _ _ _ (by omega)).mono ?_
  rintro e u2 ⟨rfl, rfl⟩
  go_wp2
  go_ret
  exact ⟨rfl, below_drewN HB0.out _⟩
set_option maxHeartbeats 400000 in
theorem impl_validCourse_no3 (x0 x1 : ByteArray) (w : World) (hs : x0.size ≤ maxLen) (ht : x1.size ≤ maxLen) (h0 : x0.size ≤ 6) (h1 : pieceB x0 = true) (h2 : 1 ≤ x1.size ∧ x1.size ≤ 8) (h3 : plainB x1 = false) :
    Calls Tryd.prog 49 #[.agg #[.string x0, .string x1]] w fun e w' => e = .returned (.bool true) ∧ Below w.heap.size w w' := by
  unfold maxLen at hs ht
  have d0 : decide (6 < (x0.size : Int)) = false := by simp; omega
  have HB0 := hide ((Below.refl w.heap.size w).alloc (Nat.le_refl _) (.cells #[.string x0, .string x1] 33))
  go_enter Tryd.func49, Tryd.ntmps49
  go_wp2_with fail
  refine (impl_onlyPieces x0 _ (by unfold maxLen; omega)).mono ?_
  rintro e u1 ⟨rfl, q1, rfl⟩
  rw [show onlyB pcC x0 = true from h1]
  go_wp2_with fail
  refine (impl_in_yes _ _ _ _ (by omega) (by omega)).mono ?_
  rintro e u2 ⟨rfl, rfl⟩
  go_wp2_with fail
  refine (impl_onlyWhole x1 _ (by unfold maxLen; omega)).mono ?_
  rintro e u3 ⟨rfl, q3, rfl⟩
  rw [show onlyB plC x1 = false from h3]
  go_wp2
  go_ret
  exact ⟨rfl, below_drewN HB0.out _⟩
set_option maxHeartbeats 400000 in
theorem impl_validCourse_yes (x0 x1 : ByteArray) (w : World) (hs : x0.size ≤ maxLen) (ht : x1.size ≤ maxLen) (h0 : x0.size ≤ 6) (h1 : pieceB x0 = true) (h2 : 1 ≤ x1.size ∧ x1.size ≤ 8) (h3 : plainB x1 = true) :
    Calls Tryd.prog 49 #[.agg #[.string x0, .string x1]] w fun e w' => e = .returned (.bool false) ∧ Below w.heap.size w w' := by
  unfold maxLen at hs ht
  have d0 : decide (6 < (x0.size : Int)) = false := by simp; omega
  have HB0 := hide ((Below.refl w.heap.size w).alloc (Nat.le_refl _) (.cells #[.string x0, .string x1] 33))
  go_enter Tryd.func49, Tryd.ntmps49
  go_wp2_with fail
  refine (impl_onlyPieces x0 _ (by unfold maxLen; omega)).mono ?_
  rintro e u1 ⟨rfl, q1, rfl⟩
  rw [show onlyB pcC x0 = true from h1]
  go_wp2_with fail
  refine (impl_in_yes _ _ _ _ (by omega) (by omega)).mono ?_
  rintro e u2 ⟨rfl, rfl⟩
  go_wp2_with fail
  refine (impl_onlyWhole x1 _ (by unfold maxLen; omega)).mono ?_
  rintro e u3 ⟨rfl, q3, rfl⟩
  rw [show onlyB plC x1 = true from h3]
  go_wp2
  go_ret
  exact ⟨rfl, below_drewN HB0.out _⟩
theorem impl_validCourse (x0 x1 : ByteArray) (w : World) (hs : x0.size ≤ maxLen) (ht : x1.size ≤ maxLen) :
    Calls Tryd.prog 49 #[.agg #[.string x0, .string x1]] w fun e w' => e = .returned (.bool (!(Course.ok ⟨x0, x1⟩))) ∧ Below w.heap.size w w' := by
  by_cases h0 : x0.size ≤ 6
  case neg => rw [course_no0 h0]; exact impl_validCourse_no0 x0 x1 w hs ht h0
  by_cases h1 : pieceB x0 = true
  case neg =>
    have h1' : pieceB x0 = false := by simpa using h1
    rw [course_no1 h1']; exact impl_validCourse_no1 x0 x1 w hs ht h0 h1'
  by_cases h2 : 1 ≤ x1.size ∧ x1.size ≤ 8
  case neg => rw [course_no2 h2]; exact impl_validCourse_no2 x0 x1 w hs ht h0 h1 h2
  by_cases h3 : plainB x1 = true
  case neg =>
    have h3' : plainB x1 = false := by simpa using h3
    rw [course_no3 h3']; exact impl_validCourse_no3 x0 x1 w hs ht h0 h1 h2 h3'
  rw [course_yes h0 h1 h2 h3]
  exact impl_validCourse_yes x0 x1 w hs ht h0 h1 h2 h3
set_option maxHeartbeats 400000 in
theorem spec_l04Course_no0 (x0 x1 : ByteArray) (w : World) (hs : x0.size ≤ maxLen) (ht : x1.size ≤ maxLen)  (h0 : ¬ x0.size ≤ 6) :
    Calls Tryd.prog 28 #[.agg #[.string x0, .string x1]] w fun e w' => e = .returned (.bool false) ∧ Below w.heap.size w w' := by
  unfold maxLen at hs ht
  have d0 : decide ((x0.size : Int) ≤ 6) = false := by simp; omega
  have HB0 := hide ((Below.refl w.heap.size w).alloc (Nat.le_refl _) (.cells #[.string x0, .string x1] 33))
  go_enter Tryd.func28, Tryd.ntmps28
  go_wp2
  go_ret
  exact ⟨rfl, HB0.out⟩
set_option maxHeartbeats 400000 in
theorem spec_l04Course_no1 (x0 x1 : ByteArray) (w : World) (hs : x0.size ≤ maxLen) (ht : x1.size ≤ maxLen) (h0 : x0.size ≤ 6) (h1 : pieceB x0 = false) :
    Calls Tryd.prog 28 #[.agg #[.string x0, .string x1]] w fun e w' => e = .returned (.bool false) ∧ Below w.heap.size w w' := by
  unfold maxLen at hs ht
  have d0 : decide ((x0.size : Int) ≤ 6) = true := by simp; omega
  have HB0 := hide ((Below.refl w.heap.size w).alloc (Nat.le_refl _) (.cells #[.string x0, .string x1] 33))
  go_enter Tryd.func28, Tryd.ntmps28
  go_wp2_with fail
  refine (spec_l04Pieces x0 _ (by unfold maxLen; omega)).mono ?_
  rintro e u1 ⟨rfl, q1, rfl⟩
  rw [show onlyB pcC x0 = false from h1]
  go_wp2
  go_ret
  exact ⟨rfl, below_drewN HB0.out _⟩
set_option maxHeartbeats 400000 in
theorem spec_l04Course_no2 (x0 x1 : ByteArray) (w : World) (hs : x0.size ≤ maxLen) (ht : x1.size ≤ maxLen) (h0 : x0.size ≤ 6) (h1 : pieceB x0 = true) (h2 : ¬ (1 ≤ x1.size ∧ x1.size ≤ 8)) :
    Calls Tryd.prog 28 #[.agg #[.string x0, .string x1]] w fun e w' => e = .returned (.bool false) ∧ Below w.heap.size w w' := by
  unfold maxLen at hs ht
  have d0 : decide ((x0.size : Int) ≤ 6) = true := by simp; omega
  have HB0 := hide ((Below.refl w.heap.size w).alloc (Nat.le_refl _) (.cells #[.string x0, .string x1] 33))
  go_enter Tryd.func28, Tryd.ntmps28
  go_wp2_with fail
  refine (spec_l04Pieces x0 _ (by unfold maxLen; omega)).mono ?_
  rintro e u1 ⟨rfl, q1, rfl⟩
  rw [show onlyB pcC x0 = true from h1]
  go_wp2_with fail
  refine (spec_in_no _ _ _ _ (by omega)).mono ?_
  rintro e u2 ⟨rfl, rfl⟩
  go_wp2
  go_ret
  exact ⟨rfl, below_drewN HB0.out _⟩
set_option maxHeartbeats 400000 in
theorem spec_l04Course_no3 (x0 x1 : ByteArray) (w : World) (hs : x0.size ≤ maxLen) (ht : x1.size ≤ maxLen) (h0 : x0.size ≤ 6) (h1 : pieceB x0 = true) (h2 : 1 ≤ x1.size ∧ x1.size ≤ 8) (h3 : plainB x1 = false) :
    Calls Tryd.prog 28 #[.agg #[.string x0, .string x1]] w fun e w' => e = .returned (.bool false) ∧ Below w.heap.size w w' := by
  unfold maxLen at hs ht
  have d0 : decide ((x0.size : Int) ≤ 6) = true := by simp; omega
  have HB0 := hide ((Below.refl w.heap.size w).alloc (Nat.le_refl _) (.cells #[.string x0, .string x1] 33))
  go_enter Tryd.func28, Tryd.ntmps28
  go_wp2_with fail
  refine (spec_l04Pieces x0 _ (by unfold maxLen; omega)).mono ?_
  rintro e u1 ⟨rfl, q1, rfl⟩
  rw [show onlyB pcC x0 = true from h1]
  go_wp2_with fail
  refine (spec_in_yes _ _ _ _ (by omega) (by omega)).mono ?_
  rintro e u2 ⟨rfl, rfl⟩
  go_wp2_with fail
  refine (spec_l04Plain x1 _ (by unfold maxLen; omega)).mono ?_
  rintro e u3 ⟨rfl, q3, rfl⟩
  rw [show onlyB plC x1 = false from h3]
  go_wp2
  go_ret
  exact ⟨rfl, below_drewN HB0.out _⟩
set_option maxHeartbeats 400000 in
theorem spec_l04Course_yes (x0 x1 : ByteArray) (w : World) (hs : x0.size ≤ maxLen) (ht : x1.size ≤ maxLen) (h0 : x0.size ≤ 6) (h1 : pieceB x0 = true) (h2 : 1 ≤ x1.size ∧ x1.size ≤ 8) (h3 : plainB x1 = true) :
    Calls Tryd.prog 28 #[.agg #[.string x0, .string x1]] w fun e w' => e = .returned (.bool true) ∧ Below w.heap.size w w' := by
  unfold maxLen at hs ht
  have d0 : decide ((x0.size : Int) ≤ 6) = true := by simp; omega
  have HB0 := hide ((Below.refl w.heap.size w).alloc (Nat.le_refl _) (.cells #[.string x0, .string x1] 33))
  go_enter Tryd.func28, Tryd.ntmps28
  go_wp2_with fail
  refine (spec_l04Pieces x0 _ (by unfold maxLen; omega)).mono ?_
  rintro e u1 ⟨rfl, q1, rfl⟩
  rw [show onlyB pcC x0 = true from h1]
  go_wp2_with fail
  refine (spec_in_yes _ _ _ _ (by omega) (by omega)).mono ?_
  rintro e u2 ⟨rfl, rfl⟩
  go_wp2_with fail
  refine (spec_l04Plain x1 _ (by unfold maxLen; omega)).mono ?_
  rintro e u3 ⟨rfl, q3, rfl⟩
  rw [show onlyB plC x1 = true from h3]
  go_wp2
  go_ret
  exact ⟨rfl, below_drewN HB0.out _⟩
theorem spec_l04Course (x0 x1 : ByteArray) (w : World) (hs : x0.size ≤ maxLen) (ht : x1.size ≤ maxLen) :
    Calls Tryd.prog 28 #[.agg #[.string x0, .string x1]] w fun e w' => e = .returned (.bool (Course.ok ⟨x0, x1⟩)) ∧ Below w.heap.size w w' := by
  by_cases h0 : x0.size ≤ 6
  case neg => rw [course_no0 h0]; exact spec_l04Course_no0 x0 x1 w hs ht h0
  by_cases h1 : pieceB x0 = true
  case neg =>
    have h1' : pieceB x0 = false := by simpa using h1
    rw [course_no1 h1']; exact spec_l04Course_no1 x0 x1 w hs ht h0 h1'
  by_cases h2 : 1 ≤ x1.size ∧ x1.size ≤ 8
  case neg => rw [course_no2 h2]; exact spec_l04Course_no2 x0 x1 w hs ht h0 h1 h2
  by_cases h3 : plainB x1 = true
  case neg =>
    have h3' : plainB x1 = false := by simpa using h3
    rw [course_no3 h3']; exact spec_l04Course_no3 x0 x1 w hs ht h0 h1 h2 h3'
  rw [course_yes h0 h1 h2 h3]
  exact spec_l04Course_yes x0 x1 w hs ht h0 h1 h2 h3
set_option maxHeartbeats 1000000 in
theorem indexCourse (A : Option Addr) (n c : Nat) (zs : List Course) (w : World) (hn : n ≤ 16777216) (hl : zs.length = n) (h : Row Course.enc 2 w A zs) (hm : Texts zs) :
    Calls Tryd.prog 56 #[.slice A n c, .func (.func 49) #[] #[]] w fun e w' => (∃ v : Int, e = .returned (.int .i64 v) ∧ decide (0 ≤ v) = !(zs.all Course.ok)) ∧ Below w.heap.size w w' := by
  have HA := hide h
  have HL := hide hl
  have HM := hide hm
  have hnm : n ≤ 9223372036854775807 := by omega
  clear h hl hm
  go_enter Tryd.func56, Tryd.ntmps56
  go_wp2
  go_loopw [8] (fun i wr => ∃ k : Nat, k ≤ n ∧ i = .int .i64 k ∧ Hid (∀ (j : Nat) (x : Course), j < k → zs[j]? = some x → x.ok = true) ∧ Hid (Below w.heap.size w wr)) (fun i _ => n - (intOf i).toNat)
  case atStart => exact ⟨0, by omega, rfl, hide (fun j x hj => absurd hj (by omega)), hide (Below.refl _ _)⟩
  case round =>
    obtain ⟨k, hk, rfl, HS, HB⟩ := hrel
    by_cases hlt : k < n
    · obtain ⟨⟨x0, x1⟩, hzk⟩ : ∃ z, zs[k]? = some z := ⟨zs[k]'(by have := HL.out; omega), List.getElem?_eq_getElem (by have := HL.out; omega)⟩
      obtain ⟨b, off, rfl, hb, a0, a1⟩ := row_at_2 (HA.out.below HB.out) hzk rfl
      obtain ⟨hs0, hs1⟩ := HM.out k _ hzk
      have HZ := hide hzk
      clear hzk
      have hki : (k : Int) < (n : Int) := by omega
      by_cases hok : Course.ok ⟨x0, x1⟩ = true
      · have HS' := hide (all_more HS.out HZ.out hok)
        go_wp2_with fail
        refine (impl_validCourse _ _ _ hs0 hs1).mono ?_
        rintro e w1 ⟨rfl, hb1⟩
        have HB1 := hide hb1
        clear hb1
        rw [hok]
        clear hok
        go_wp2
        go_roundw
        case rel => exact ⟨k + 1, by omega, by go_num, HS', hide (HB.out.trans (HB1.out.mono HB.out.size))⟩
        case measure => simp [intOf]; omega
      · have hok' : Course.ok ⟨x0, x1⟩ = false := by simpa using hok
        have HN := hide (all_not (f := Course.ok) HZ.out hok')
        clear hok
        go_wp2_with fail
        refine (impl_validCourse _ _ _ hs0 hs1).mono ?_
        rintro e w1 ⟨rfl, hb1⟩
        have HB1 := hide hb1
        clear hb1
        rw [hok']
        clear hok'
        go_wp2
        go_ret
        exact ⟨⟨k, rfl, by rw [HN.out]; simp⟩, HB.out.trans (HB1.out.mono HB.out.size)⟩
    · have HN := hide (all_yes (f := Course.ok) (zs := zs) (fun j x hx => HS.out j x (by have := (List.getElem?_eq_some_iff.1 hx).1; have := HL.out; omega) hx))
      go_wp2
      go_ret
      exact ⟨⟨-1, rfl, by rw [HN.out]; decide⟩, HB.out⟩
theorem containsCourse (A : Option Addr) (n c : Nat) (zs : List Course) (w : World) (hn : n ≤ 16777216) (hl : zs.length = n) (h : Row Course.enc 2 w A zs) (hm : Texts zs) :
    Calls Tryd.prog 48 #[.slice A n c, .func (.func 49) #[] #[]] w fun e w' => e = .returned (.bool (!(zs.all Course.ok))) ∧ Below w.heap.size w w' := by
  have HA := hide h
  have HL := hide hl
  have HM := hide hm
  clear h hl hm
  go_enter Tryd.func48, Tryd.ntmps48
  go_wp2_with fail
  refine (indexCourse _ _ _ zs _ hn HL.out HA.out HM.out).mono ?_
  rintro e w1 ⟨⟨v, rfl, hv⟩, hb1⟩
  have HV := hide hv
  have HB1 := hide hb1
  clear hv hb1
  go_wp2
  go_ret
  exact ⟨ret_bool HV.out, HB1.out⟩
set_option maxHeartbeats 1000000 in
theorem impl_validBond (s : ByteArray) (A : Option Addr) (n c : Nat) (zs : List Course) (w : World) (hs : s.size ≤ maxLen) (hn : n ≤ 16777216) (hl : zs.length = n) (h : Row Course.enc 2 w A zs) (hm : Texts zs) :
    Calls Tryd.prog 35 #[.agg #[.string s, .slice A n c]] w fun e w' => e = .returned (.bool (bondOk s zs)) ∧ Below w.heap.size w w' := by
  have HA := hide h
  have HL := hide hl
  have HM := hide hm
  clear h hl hm
  have HB0 := hide ((Below.refl w.heap.size w).alloc (Nat.le_refl _) (.cells #[.string s, .slice A n c] 26))
  by_cases h0 : nameB s = true
  case neg =>
    have h0' : nameB s = false := by simpa using h0
    rw [show bondOk s zs = false from by simp [bondOk, h0']]
    clear h0
    go_enter Tryd.func35, Tryd.ntmps35
    go_wp2_with fail
    refine (impl_isName s _ hs).mono ?_
    rintro e u0 ⟨rfl, rfl⟩
    rw [h0']
    go_wp2
    go_ret
    exact ⟨rfl, HB0.out⟩
  by_cases h1 : 1 ≤ n ∧ n ≤ 8
  case neg =>
    rw [show bondOk s zs = false from by simp only [bondOk, HL.out, decide_eq_false h1, Bool.false_and, Bool.and_false]]
    go_enter Tryd.func35, Tryd.ntmps35
    go_wp2_with fail
    refine (impl_isName s _ hs).mono ?_
    rintro e u0 ⟨rfl, rfl⟩
    rw [h0]
    go_wp2_with fail
    refine (impl_in_no _ _ _ _ (by omega)).mono ?_
    rintro e u1 ⟨rfl, rfl⟩
    go_wp2
    go_ret
    exact ⟨rfl, HB0.out⟩
  rw [show bondOk s zs = zs.all Course.ok from by simp only [bondOk, HL.out, decide_eq_true h1, h0, Bool.true_and]]
  obtain ⟨v, hv⟩ : ∃ v, zs.all Course.ok = v := ⟨_, rfl⟩
  rw [hv]
  have HV := hide hv
  clear hv
  go_enter Tryd.func35, Tryd.ntmps35
  go_wp2_with fail
  refine (impl_isName s _ hs).mono ?_
  rintro e u0 ⟨rfl, rfl⟩
  rw [h0]
  go_wp2_with fail
  refine (impl_in_yes _ _ _ _ (by omega) (by omega)).mono ?_
  rintro e u1 ⟨rfl, rfl⟩
  go_wp2_with fail
  refine (containsCourse _ _ _ zs _ hn HL.out (HA.out.below HB0.out) HM.out).mono ?_
  rintro e u2 ⟨rfl, hb1⟩
  have HB1 := hide (HB0.out.trans (hb1.mono (by simp)))
  clear hb1
  rw [HV.out]
  clear HV
  cases v
  · go_wp2
    go_ret
    exact ⟨rfl, HB1.out⟩
  · go_wp2
    go_ret
    exact ⟨rfl, HB1.out⟩
set_option maxRecDepth 100000 in
set_option maxHeartbeats 1000000 in
theorem spec_l04Ok (g : Nat) (s : ByteArray) (A : Option Addr) (n c : Nat) (zs : List Course) (w : World) (hs : s.size ≤ maxLen) (hn : n ≤ 16777216) (hl : zs.length = n) (h : Row Course.enc 2 w A zs) (hm : Texts zs) (hg : g < w.heap.size) (hc0 : w.cell? ⟨g, 0, none⟩ = some (.string s)) (hc1 : w.cell? ⟨g, 1, none⟩ = some (.slice A n c)) :
    Calls Tryd.prog 13 #[.pointer (some ⟨g, 0, none⟩)] w fun e w' => e = .returned (.bool (bondOk s zs)) ∧ Below w.heap.size w w' := by
  have HA := hide h
  have HL := hide hl
  have HM := hide hm
  have H0 := hide hc0
  have H1 := hide hc1
  have hnm : n ≤ 9223372036854775807 := by omega
  clear h hl hm hc0 hc1
  go_enter Tryd.func13, Tryd.ntmps13
  go_wp2
  go_loopw [3] (fun i wr => ∃ k : Nat, k ≤ n ∧ i = .int .i64 k ∧ Hid (∀ (j : Nat) (x : Course), j < k → zs[j]? = some x → x.ok = true) ∧ Hid (Below w.heap.size w wr)) (fun i _ => n - (intOf i).toNat)
  case atStart => exact ⟨0, by omega, rfl, hide (fun j x hj => absurd hj (by omega)), hide (Below.refl _ _)⟩
  case round =>
    obtain ⟨k, hk, rfl, HS, HB⟩ := hrel
    have c0 := (HB.out.cell (p := ⟨g, 0, none⟩) hg).trans H0.out
    have c1 := (HB.out.cell (p := ⟨g, 1, none⟩) hg).trans H1.out
    by_cases hlt : k < n
    · obtain ⟨⟨x0, x1⟩, hzk⟩ : ∃ z, zs[k]? = some z := ⟨zs[k]'(by have := HL.out; omega), List.getElem?_eq_getElem (by have := HL.out; omega)⟩
      obtain ⟨b, off, rfl, hb, a0, a1⟩ := row_at_2 (HA.out.below HB.out) hzk rfl
      obtain ⟨hs0, hs1⟩ := HM.out k _ hzk
      have HZ := hide hzk
      clear hzk
      have hki : (k : Int) < (n : Int) := by omega
      by_cases hok : Course.ok ⟨x0, x1⟩ = true
      · have HS' := hide (all_more HS.out HZ.out hok)
        go_wp2_with fail
        refine (spec_l04Course _ _ _ hs0 hs1).mono ?_
        rintro e w1 ⟨rfl, hb1⟩
        have HB1 := hide (HB.out.trans (hb1.mono HB.out.size))
        clear hb1
        rw [hok]
        clear hok
        go_wp2
        go_roundw
        case rel => exact ⟨k + 1, by omega, by go_num, HS', HB1⟩
        case measure => simp [intOf]; omega
      · have hok' : Course.ok ⟨x0, x1⟩ = false := by simpa using hok
        have HN := hide (show bondOk s zs = false from by simp only [bondOk, all_not (f := Course.ok) HZ.out hok', Bool.and_false])
        clear hok
        go_wp2_with fail
        refine (spec_l04Course _ _ _ hs0 hs1).mono ?_
        rintro e w1 ⟨rfl, hb1⟩
        have HB1 := hide (HB.out.trans (hb1.mono HB.out.size))
        clear hb1
        rw [hok']
        clear hok'
        go_wp2
        go_ret
        exact ⟨ret_bool HN.out.symm, HB1.out⟩
    · have HN := hide (all_yes (f := Course.ok) (zs := zs) (fun j x hx => HS.out j x (by have := (List.getElem?_eq_some_iff.1 hx).1; have := HL.out; omega) hx))
      by_cases h0 : nameB s = true
      case neg =>
        have h0' : nameB s = false := by simpa using h0
        have HF := hide (show bondOk s zs = false from by simp only [bondOk, h0', Bool.false_and])
        clear h0
        go_wp2_with fail
        refine (spec_isName s _ hs).mono ?_
        rintro e u0 ⟨rfl, rfl⟩
        rw [h0']
        go_wp2
        go_ret
        exact ⟨ret_bool HF.out.symm, HB.out⟩
      have HF := hide (show bondOk s zs = decide (1 ≤ n ∧ n ≤ 8) from by simp only [bondOk, h0, HN.out, HL.out, Bool.true_and, Bool.and_true])
      by_cases h1 : 1 ≤ n ∧ n ≤ 8
      · go_wp2_with fail
        refine (spec_isName s _ hs).mono ?_
        rintro e u0 ⟨rfl, rfl⟩
        rw [h0]
        go_wp2_with fail
        refine (spec_in_yes _ _ _ _ (by omega) (by omega)).mono ?_
        rintro e u1 ⟨rfl, rfl⟩
        go_wp2
        go_ret
        exact ⟨ret_bool (by rw [HF.out, decide_eq_true h1]), HB.out⟩
      · go_wp2_with fail
        refine (spec_isName s _ hs).mono ?_
        rintro e u0 ⟨rfl, rfl⟩
        rw [h0]
        go_wp2_with fail
        refine (spec_in_no _ _ _ _ (by omega)).mono ?_
        rintro e u1 ⟨rfl, rfl⟩
        go_wp2
        go_ret
        exact ⟨ret_bool (by rw [HF.out, decide_eq_false h1]), HB.out⟩
end Go.Proofs.YtgobpleckeeheaaDoor
