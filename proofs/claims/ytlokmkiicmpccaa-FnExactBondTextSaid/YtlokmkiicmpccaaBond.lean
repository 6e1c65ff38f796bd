/-
  What is proved: a bond as an argument reads as plain data; its size, copy and comparison by the laws' own functions. Conditions: lengths as named in each.
-/
import Derived.Test.YtlokmkiicmpccaaCourseS
import Derived.Test.YtlokmkiicmpccaaCourseSame
import Derived.Lib.SmallJoins
namespace Go.Proofs.Ytlokmkiicmpccaa
open Go.RowKit Go.ChangeShapes Go.WideShapes Go.Deep Go.Joins
set_option linter.unusedVariables false

theorem own_low {w : World} {base base' size n : Nat} {t : TypeId} {v : Value} {xs : List Value} (h : w.ownsRow base t size v n xs) (hb : base' ≤ base) : w.ownsRow base' t size v n xs :=
  ⟨h.1, h.2.imp id fun ⟨g, cap, cur, h1, h2, h3⟩ => ⟨g, cap, cur, h1, Nat.le_trans hb h2, h3⟩⟩
set_option maxRecDepth 100000 in
theorem argBond_open {H : Type} {enc : TypeId × Value → H} {w : World} {base : Nat} {spare : Nat → Bool} {held : Bool} {r : Reach} {b0 : Nat} {v : Value} {d : DataW H} {p : List MemPlace} (hv : Value.okWide Try.prog w r b0 24 v) (h : DataW.Trod enc Try.prog w base spare held 24 v d p) :
    ∃ (s : ByteArray) (A : Option Addr) (n c : Nat) (z : List Course), v = .agg #[.string s, .slice A n c] ∧ s.size ≤ maxLen ∧ ArgRow Course.enc Course.Wf 2 w A n c z := by
  obtain ⟨v0, v1, y0, y1, m, rfl, rfl, rfl, h0, h1⟩ := open_agg2 Try.underlying24 (by kernel_rfl) (by kernel_rfl) hv h
  obtain ⟨s, e0, _, hs⟩ := DataW.trod_string Try.underlying9 h0
  obtain ⟨a, l, c, e1⟩ := slice_form Try.underlying22 h1
  simp only [List.cons.injEq, and_true] at e0 e1
  subst e0 e1
  obtain ⟨z, hz⟩ := argCourses_of (P := Try.prog) Try.underlying22 Try.underlying84 (by kernel_rfl) (by kernel_rfl) rfl rfl Try.underlying9 Try.underlying9 (⟨m, h1⟩ : DataW.Trod enc Try.prog w base spare held 22 (.slice a l c) y1.1 y1.2)
  exact ⟨s, a, l, c, z, rfl, hs, hz⟩
theorem szCourse_ok (x0 x1 : ByteArray) (left : Int) (w : World) (h0 : 0 ≤ left) (h1 : left ≤ 1048576) (hs : x0.size ≤ maxLen) (ht : x1.size ≤ maxLen) :
    Calls Try.prog 65 #[.agg #[.string x0, .string x1], .int .i64 left] w fun e w' => (∃ v : Int, e = .returned (.int .i64 v) ∧ (v = -1 ∨ (0 ≤ v ∧ v ≤ left))) ∧ Below w.heap.size w w' := by
  unfold maxLen at hs ht
  have e := Go.IntWalk.i64_in (left - (x0.size : Int)) ⟨by omega, by omega⟩
  by_cases h : left < x0.size
  · have d : decide (left - (x0.size : Int) < 0) = true := by simp; omega
    go_enter Try.func65, Try.ntmps65
    go_wp2
    go_ret
    exact ⟨⟨-1, rfl, .inl rfl⟩, by go_grown⟩
  · have d : decide (left - (x0.size : Int) < 0) = false := by simp; omega
    have e2 := Go.IntWalk.i64_in (left - (x0.size : Int) - (x1.size : Int)) ⟨by omega, by omega⟩
    by_cases h2 : left - (x0.size : Int) < x1.size
    · have d2 : decide (left - (x0.size : Int) - (x1.size : Int) < 0) = true := by simp; omega
      go_enter Try.func65, Try.ntmps65
      go_wp2
      go_ret
      exact ⟨⟨-1, rfl, .inl rfl⟩, by go_grown⟩
    · have d2 : decide (left - (x0.size : Int) - (x1.size : Int) < 0) = false := by simp; omega
      go_enter Try.func65, Try.ntmps65
      go_wp2
      go_ret
      exact ⟨⟨_, rfl, .inr ⟨by omega, by omega⟩⟩, by go_grown⟩
set_option maxHeartbeats 1000000 in
theorem szCourseS_ok (A : Option Addr) (n c : Nat) (zs : List Course) (left : Int) (w : World) (h0 : 0 ≤ left) (h1 : left ≤ 1048576) (h : ArgRow Course.enc Course.Wf 2 w A n c zs) :
    Calls Try.prog 38 #[.slice A n c, .int .i64 left] w fun e w' => (∃ v : Int, e = .returned (.int .i64 v) ∧ (v = -1 ∨ (0 ≤ v ∧ v ≤ left - n))) ∧ Below w.heap.size w w' := by
  have hnm : n ≤ maxLen := Nat.le_trans h.2.1 h.2.2.1
  have HA := hide h
  clear h
  unfold maxLen at hnm
  have e := Go.IntWalk.i64_in (left - (n : Int)) ⟨by omega, by omega⟩
  by_cases h : left < n
  · have d : decide (left - (n : Int) < 0) = true := by simp; omega
    go_enter Try.func38, Try.ntmps38
    go_wp2
    go_ret
    exact ⟨⟨-1, rfl, .inl rfl⟩, Below.refl _ _⟩
  · have d : decide (left - (n : Int) < 0) = false := by simp; omega
    go_enter Try.func38, Try.ntmps38
    go_wp2
    go_loopw [1, 5] (fun q i wr => ∃ (k : Nat) (v : Int), k ≤ n ∧ i = .int .i64 k ∧ q = .int .i64 v ∧ 0 ≤ v ∧ v ≤ left - n ∧ Hid (Below w.heap.size w wr)) (fun _ i _ => n - (intOf i).toNat)
    case atStart => exact ⟨0, left - n, by omega, rfl, rfl, by omega, by omega, hide (Below.refl _ _)⟩
    case round =>
      obtain ⟨k, v, hk, rfl, rfl, hv0, hv1, HB⟩ := hrel
      by_cases hlt : k < n
      · obtain ⟨⟨x0, x1⟩, hzk⟩ : ∃ z, zs[k]? = some z := ⟨zs[k]'(by have := HA.out.1; omega), List.getElem?_eq_getElem (by have := HA.out.1; omega)⟩
        have hw := HA.out.2.2.2.1 _ (List.mem_of_getElem? hzk)
        have hsz : x0.size ≤ maxLen := hw.1
        have htz : x1.size ≤ maxLen := hw.2
        obtain ⟨b, off, rfl, hb, a0, a1⟩ := row_at_2 ((Row.of_arg HA.out).below HB.out) hzk rfl
        clear hw hzk
        have hki : (k : Int) < (n : Int) := by omega
        go_wp2_with fail
        refine (szCourse_ok x0 x1 v _ hv0 (by omega) hsz htz).mono ?_
        rintro e u1 ⟨⟨t, rfl, ht⟩, hb1⟩
        have HB1 := hide (HB.out.trans (hb1.mono HB.out.size))
        clear hb1
        rcases ht with rfl | ⟨ht0, ht1⟩
        · go_wp2
          go_ret
          exact ⟨⟨_, rfl, .inl rfl⟩, HB1.out⟩
        · have dt : decide (t < 0) = false := by simp; omega
          go_wp2
          go_roundw
          case rel => exact ⟨k + 1, t, by omega, by go_num, rfl, ht0, by omega, HB1⟩
          case measure => simp [intOf]; omega
      · go_wp2
        go_ret
        exact ⟨⟨_, rfl, .inr ⟨by omega, by omega⟩⟩, HB.out⟩
set_option maxHeartbeats 1000000 in
theorem szBond_ok (s : ByteArray) (A : Option Addr) (n c : Nat) (zs : List Course) (left : Int) (w : World) (h0 : 0 ≤ left) (h1 : left ≤ 1048576) (hs : s.size ≤ maxLen) (h : ArgRow Course.enc Course.Wf 2 w A n c zs) :
    Calls Try.prog 11 #[.agg #[.string s, .slice A n c], .int .i64 left] w fun e w' => (∃ v : Int, e = .returned (.int .i64 v) ∧ (v = -1 ∨ (0 ≤ v ∧ v ≤ left - n))) ∧ Below w.heap.size w w' := by
  unfold maxLen at hs
  have HA := hide h
  clear h
  have e := Go.IntWalk.i64_in (left - (s.size : Int)) ⟨by omega, by omega⟩
  by_cases h : left < s.size
  · have d : decide (left - (s.size : Int) < 0) = true := by simp; omega
    go_enter Try.func11, Try.ntmps11
    go_wp2
    go_ret
    exact ⟨⟨-1, rfl, .inl rfl⟩, by go_grown⟩
  · have d : decide (left - (s.size : Int) < 0) = false := by simp; omega
    go_enter Try.func11, Try.ntmps11
    have HB0 := hide ((Below.refl w.heap.size w).alloc (Nat.le_refl _) (.cells #[.string s, .slice A n c] 24))
    go_wp2_with fail
    refine (szCourseS_ok A n c zs (left - (s.size : Int)) _ (by omega) (by omega) (HA.out.below HB0.out)).mono ?_
    rintro e u1 ⟨⟨t, rfl, ht⟩, hb1⟩
    have HB1 := hide (HB0.out.trans (hb1.mono (by simp)))
    clear hb1
    rcases ht with rfl | ⟨ht0, ht1⟩
    · go_wp2
      go_ret
      exact ⟨⟨_, rfl, .inl rfl⟩, HB1.out⟩
    · have dt : decide (t < 0) = false := by simp; omega
      go_wp2
      go_ret
      exact ⟨⟨_, rfl, .inr ⟨by omega, by omega⟩⟩, HB1.out⟩
set_option maxHeartbeats 1000000 in
theorem toBond_own (s : ByteArray) (A : Option Addr) (n c : Nat) (zs : List Course) (w : World) (hn : n ≤ 1048576) (h : ArgRow Course.enc Course.Wf 2 w A n c zs) :
    Calls Try.prog 13 #[.agg #[.string s, .slice A n c]] w fun e w' => ∃ A' c', e = .returned (.agg #[.string s, .slice A' n c']) ∧ Own 56 2 Course.enc w' w.heap.size w'.heap.size A' n c' zs ∧ Below w.heap.size w w' := by
  have HA := hide h
  clear h
  go_enter Try.func13, Try.ntmps13
  have HB0 := hide ((((Below.refl w.heap.size w).alloc (Nat.le_refl _) (.cells #[.string s, .slice A n c] 24)).alloc (by simp) (.cells #[.string ⟨#[]⟩, .slice none 0 0] 29)).alloc (by simp <;> omega) (.cells #[.string s, .slice none 0 0] 29))
  go_wp2_with fail
  refine (toCourseS_own A n c zs _ hn (HA.out.below HB0.out)).mono ?_
  rintro e w1 ⟨A', c', rfl, ho, hb1⟩
  have r0 := (hb1.cell (p := ⟨w.heap.size + 1 + 1, 0, none⟩) (by simp)).trans (show _ = some (.string s) from by simp [go_sem])
  have r1 := (hb1.cell (p := ⟨w.heap.size + 1 + 1, 1, none⟩) (by simp)).trans (show _ = some (.slice none 0 0) from by simp [go_sem])
  have q0 := ((bcell hb1).2 (w.heap.size + 1 + 1) 0 (by simp)).trans (show _ = false from by simp [go_sem])
  have q1 := ((bcell hb1).2 (w.heap.size + 1 + 1) 1 (by simp)).trans (show _ = false from by simp [go_sem])
  have p0 := (hb1.cell (p := ⟨w.heap.size + 1, 0, none⟩) (by simp <;> omega)).trans (show _ = some (.string ⟨#[]⟩) from by simp [go_sem])
  have p1 := (hb1.cell (p := ⟨w.heap.size + 1, 1, none⟩) (by simp <;> omega)).trans (show _ = some (.slice none 0 0) from by simp [go_sem])
  have o0 := ((bcell hb1).2 (w.heap.size + 1) 0 (by simp <;> omega)).trans (show _ = false from by simp [go_sem])
  have o1 := ((bcell hb1).2 (w.heap.size + 1) 1 (by simp <;> omega)).trans (show _ = false from by simp [go_sem])
  have hz : w.heap.size + 1 + 1 < w1.heap.size := by have := hb1.size; simp at this; omega
  have HB1 := hide (HB0.out.trans (hb1.mono (by simp <;> omega)))
  have HO := hide ho
  clear hb1 ho
  go_wp2
  refine bodyPost_ret (v := .agg #[.string s, .slice A' n c']) ?_ rfl ⟨A', c', rfl, ?_, ?_⟩
  · simp [results, Try.results13, go_sem, p0, p1]
  · have h1 := ownsRow_setCell_below HO.out.own (a := ⟨w.heap.size + 1 + 1, 1, none⟩) (by simp <;> omega) (.slice A' n c')
    have h2 := ownsRow_setCell_below h1 (a := ⟨w.heap.size + 1, 0, none⟩) (by simp <;> omega) (.string s)
    have h3 := ownsRow_setCell_below h2 (a := ⟨w.heap.size + 1, 1, none⟩) (by simp <;> omega) (.slice A' n c')
    exact ⟨HO.out.len, own_low h3 (by simp <;> omega), fun a ha => by
      have := HO.out.up a ha
      simpa using this, Nat.le_refl _⟩
  · have BX := HB1.out
    go_grown
set_option maxHeartbeats 1000000 in
theorem eqBond_same (s : ByteArray) (A B : Option Addr) (n c d : Nat) (zs : List Course) (w : World) (hn : n ≤ 16777216) (hl : zs.length = n) (ha : Row Course.enc 2 w A zs) (hb : Row Course.enc 2 w B zs) :
    Calls Try.prog 15 #[.agg #[.string s, .slice A n c], .agg #[.string s, .slice B n d]] w fun e w' => e = .returned (.bool true) ∧ Below w.heap.size w w' := by
  have HA := hide ha
  have HB := hide hb
  have HL := hide hl
  clear ha hb hl
  go_enter Try.func15, Try.ntmps15
  have HB0 := hide (((Below.refl w.heap.size w).alloc (Nat.le_refl _) (.cells #[.string s, .slice A n c] 29)).alloc (by simp) (.cells #[.string s, .slice B n d] 29))
  go_wp2_with fail
  refine (eqCourseS_same _ _ _ _ _ zs _ hn HL.out (HA.out.below HB0.out) (HB.out.below HB0.out)).mono ?_
  rintro e w1 ⟨rfl, hb1⟩
  have HB1 := hide (HB0.out.trans (hb1.mono (by simp; omega)))
  clear hb1
  go_wp2
  go_ret
  exact ⟨rfl, HB1.out⟩
end Go.Proofs.Ytlokmkiicmpccaa
