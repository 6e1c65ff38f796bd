/-
  What is proved: the bond of a name out of the library, of the program and of the reference. Condition: a length that fits, the library's own variable holds some number, the program's table of texts lies in its block.
-/
import Derived.Test.YtlokmkiicmpccaaDoorRead2
import Derived.Test.YtlokmkiicmpccaaDoorReadS
import Derived.Test.YtlokmkiicmpccaaDoorLibN
namespace Go.Proofs.YtlokmkiicmpccaaDoor
open Go.RowKit Go.PlainAid
set_option linter.unusedVariables false

noncomputable def hitB (s x : ByteArray) : Bool := (readN x).toList == s.toList
noncomputable def namedT (s : ByteArray) : Option ByteArray := libB.find? (hitB s)
noncomputable def nameN (s : ByteArray) : ByteArray := match namedT s with | some x => readN x | none => ⟨#[]⟩
noncomputable def nameZ (s : ByteArray) : List Course := match namedT s with | some x => readZ x | none => []
noncomputable def nameE (s : ByteArray) : Int := match namedT s with | some _ => 0 | none => 3
theorem find_at {p : ByteArray → Bool} : ∀ {l : List ByteArray} {k : Nat} {x : ByteArray}, l[k]? = some x → (∀ j y, j < k → l[j]? = some y → p y = false) → p x = true → l.find? p = some x
  | [], k, x, h, _, _ => by simp at h
  | a :: l, 0, x, h, _, hp => by
    obtain rfl : a = x := Option.some.inj h
    rw [List.find?_cons, hp]
  | a :: l, k + 1, x, h, hn, hp => by
    rw [List.find?_cons, hn 0 a (Nat.succ_pos k) rfl]
    exact find_at (l := l) (k := k) h (fun j y hj hy => hn (j + 1) y (by omega) hy) hp
theorem find_no {p : ByteArray → Bool} : ∀ {l : List ByteArray}, (∀ j y, j < l.length → l[j]? = some y → p y = false) → l.find? p = none
  | [], _ => rfl
  | a :: l, hn => by
    rw [List.find?_cons, hn 0 a (Nat.succ_pos _) rfl]
    exact find_no (l := l) (fun j y hj hy => hn (j + 1) y (by rw [List.length_cons]; omega) hy)
theorem miss_more {s x : ByteArray} {k : Nat} (h : ∀ j y, j < k → libB[j]? = some y → hitB s y = false) (hx : libB[k]? = some x) (hq : hitB s x = false) : ∀ j y, j < k + 1 → libB[j]? = some y → hitB s y = false := fun j y hj hy => by
  rcases Nat.lt_or_ge j k with h1 | h1
  · exact h j y h1 hy
  · obtain rfl : j = k := by omega
    rw [hx] at hy
    obtain rfl := Option.some.inj hy
    exact hq
/-- What a name gives. -/
def NamedPost (s : ByteArray) (w : World) (e : Ending) (w' : World) : Prop := ∃ A' c', e = .returned (.tuple #[.agg #[.string (nameN s), .slice A' (nameZ s).length c'], .int .i64 (nameE s)]) ∧ Own 51 2 Course.enc w' w.heap.size w'.heap.size A' (nameZ s).length c' (nameZ s) ∧ Below w.heap.size w w'
theorem namedPost_yes {s x sn : ByteArray} {z : List Course} {n : Nat} {w w' : World} {e : Ending} {A : Option Addr} {c : Nat} (h : namedT s = some x) (h1 : readN x = sn) (h2 : readZ x = z) (h3 : z.length = n) (he : e = .returned (.tuple #[.agg #[.string sn, .slice A n c], .int .i64 0])) (ho : Own 51 2 Course.enc w' w.heap.size w'.heap.size A n c z) (hb : Below w.heap.size w w') : NamedPost s w e w' := by
  subst h1 h2 h3
  refine ⟨A, c, ?_, ?_, hb⟩
  · unfold nameN nameZ nameE
    rw [h]
    exact he
  · unfold nameZ
    rw [h]
    exact ho
theorem namedPost_no {s : ByteArray} {w w' : World} {e : Ending} (h : namedT s = none) (he : e = .returned (.tuple #[.agg #[.string ⟨#[]⟩, .slice none 0 0], .int .i64 3])) (hb : Below w.heap.size w w') : NamedPost s w e w' := by
  refine ⟨none, 0, ?_, ?_, hb⟩
  · unfold nameN nameZ nameE
    rw [h]
    exact he
  · unfold nameZ
    rw [h]
    exact Own.nil (Nat.le_refl _)
set_option maxRecDepth 100000 in
set_option maxHeartbeats 4000000 in
theorem impl_bondNamed (s : ByteArray) (w : World) (hM : MaxLenIs w) (hT : LibTab w) : Calls Tryd.prog 20 #[.string s] w (NamedPost s w) := by
  have HM := hide hM
  have hM1 : 1 < w.heap.size := by obtain ⟨m, hm⟩ := hM; exact cell_lt hm
  have hz00 : 0 < w.heap.size := cell_lt hT.1
  obtain ⟨h0, h1, h2, h3, h4⟩ := hT.below ((Below.refl w.heap.size w).alloc (Nat.le_refl _) (.cells #[.string ⟨#[]⟩, .slice none 0 0] 29))
  clear hM hT
  have HB0 := hide ((Below.refl w.heap.size w).alloc (Nat.le_refl _) (.cells #[.string ⟨#[]⟩, .slice none 0 0] 29))
  have R0 := hide (show (w.alloc (.cells #[.string ⟨#[]⟩, .slice none 0 0] 29)).cell? ⟨w.heap.size, 0, none⟩ = some (.string ⟨#[]⟩) from by simp [go_sem])
  have R1 := hide (show (w.alloc (.cells #[.string ⟨#[]⟩, .slice none 0 0] 29)).cell? ⟨w.heap.size, 1, none⟩ = some (.slice none 0 0) from by simp [go_sem])
  have X0 := hide (show (w.alloc (.cells #[.string ⟨#[]⟩, .slice none 0 0] 29)).frozen? ⟨w.heap.size, 0, none⟩ = false from by simp [go_sem])
  have X1 := hide (show (w.alloc (.cells #[.string ⟨#[]⟩, .slice none 0 0] 29)).frozen? ⟨w.heap.size, 1, none⟩ = false from by simp [go_sem])
  have hzz : w.heap.size < (w.alloc (.cells #[.string ⟨#[]⟩, .slice none 0 0] 29)).heap.size := by simp
  go_enter Tryd.func20, Tryd.ntmps20
  go_wp2
  clear h0 h1 h2 h3 h4
  go_loopw [9] (fun i wr => ∃ k : Nat, k ≤ 5 ∧ i = .int .i64 k ∧ Hid (∀ j y, j < k → libB[j]? = some y → hitB s y = false) ∧ Hid (Below (w.alloc (.cells #[.string ⟨#[]⟩, .slice none 0 0] 29)).heap.size (w.alloc (.cells #[.string ⟨#[]⟩, .slice none 0 0] 29)) wr)) (fun i _ => 5 - (intOf i).toNat)
  case atStart => exact ⟨0, by omega, rfl, hide (fun j y hj => absurd hj (Nat.not_lt_zero j)), hide (Below.refl _ _)⟩
  case round =>
    obtain ⟨k, hk, rfl, HN, HW⟩ := hrel
    have HB := hide (HW.out)
    have hz := HB.out.size
    have r0 := (HB.out.cell (p := ⟨w.heap.size, 0, none⟩) hzz).trans R0.out
    have r1 := (HB.out.cell (p := ⟨w.heap.size, 1, none⟩) hzz).trans R1.out
    have x0 := (HB.out.frozen (p := ⟨w.heap.size, 0, none⟩) hzz).trans X0.out
    have x1 := (HB.out.frozen (p := ⟨w.heap.size, 1, none⟩) hzz).trans X1.out
    have HBw := hide (HB0.out.trans (HB.out.mono (Nat.le_of_lt hzz)))
    have hzr : w.heap.size < wr.heap.size := Nat.lt_of_lt_of_le hzz hz
    by_cases hlt : k < 5
    · obtain ⟨x, hzk⟩ : ∃ z, libB[k]? = some z := ⟨libB[k]'(by simpa [libB, libL] using hlt), List.getElem?_eq_getElem _⟩
      have HX := hide hzk
      obtain ⟨y9, r9, hy9, hcut9, hsz⟩ := lib_cut hzk
      have hpick := lib_pick hzk
      clear hy9 hcut9
      have hki : (k : Int) < 5 := by omega
      clear hzk
      obtain ⟨rn, hrn⟩ : ∃ r, readN x = r := ⟨_, rfl⟩
      obtain ⟨rz, hrz⟩ : ∃ r, readZ x = r := ⟨_, rfl⟩
      obtain ⟨nz, hnz⟩ : ∃ r, rz.length = r := ⟨_, rfl⟩
      obtain ⟨ok, hok⟩ : ∃ r, okT x = r := ⟨_, rfl⟩
      obtain ⟨q, hq⟩ : ∃ q, hitB s x = q := ⟨_, rfl⟩
      have hq2 : (rn.toList == s.toList) = q := by rw [← hrn]; exact hq
      have HQ := hide hq
      have HRN := hide hrn
      have HRZ := hide hrz
      have HNZ := hide hnz
      have HOK := hide hok
      clear hrn hrz hnz hok hq
      go_wp2_with fail
      refine (impl_readBond x _ (by omega) (HM.out.below hM1 HBw.out)).mono ?_
      rintro e w2 ⟨A, c, rfl, ho, hb2⟩
      rw [HRN.out, HRZ.out, HNZ.out, HOK.out]
      rw [HRZ.out, HNZ.out] at ho
      have HO := hide ho
      replace r0 := (hb2.cell (p := ⟨w.heap.size, 0, none⟩) hzr).trans r0
      replace r1 := (hb2.cell (p := ⟨w.heap.size, 1, none⟩) hzr).trans r1
      replace x0 := (hb2.frozen (p := ⟨w.heap.size, 0, none⟩) hzr).trans x0
      replace x1 := (hb2.frozen (p := ⟨w.heap.size, 1, none⟩) hzr).trans x1
      have HB2 := hide (HBw.out.trans (hb2.mono HBw.out.size))
      have HW2 := hide (HW.out.trans (hb2.mono HW.out.size))
      have hz2 : w.heap.size < w2.heap.size := Nat.lt_of_lt_of_le hzr hb2.size
      clear hb2 ho
      cases q with
      | true =>
        go_wp2
        refine bodyPost_ret (v := .tuple #[.agg #[.string rn, .slice A nz c], .int .i64 0]) ?_ rfl (namedPost_yes (find_at HX.out HN.out HQ.out) HRN.out HRZ.out HNZ.out rfl ?_ ?_)
        · have e0 := (World.cell?_alloc_lt ((w2.setCell ⟨w.heap.size, 0, none⟩ (.string rn)).setCell ⟨w.heap.size, 1, none⟩ (.slice A nz c)) (.cells #[.string rn, .slice A nz c] 29) ⟨w.heap.size, 0, none⟩ (by simpa using hz2))
          have e1 := (World.cell?_alloc_lt ((w2.setCell ⟨w.heap.size, 0, none⟩ (.string rn)).setCell ⟨w.heap.size, 1, none⟩ (.slice A nz c)) (.cells #[.string rn, .slice A nz c] 29) ⟨w.heap.size, 1, none⟩ (by simpa using hz2))
          simp [results, Tryd.results20, go_sem, e0, e1, r0, r1]
        · refine ⟨HNZ.out, own_low1' ((ownsRow_setCell_below (ownsRow_setCell_below HO.out.own (a := ⟨w.heap.size, 0, none⟩) hzr _) (a := ⟨w.heap.size, 1, none⟩) hzr _).alloc _) (Nat.le_of_lt hzr), fun a ha => ?_, by simp⟩
          have := HO.out.up a ha
          simp
          omega
        · have BX := HB2.out
          go_grown
      | false =>
        go_wp2
        go_roundw
        case rel => exact ⟨k + 1, by omega, by go_num, hide (miss_more HN.out HX.out HQ.out), hide (HW2.out.alloc HW2.out.size _)⟩
        case measure => simp [intOf]; omega
    · obtain rfl : k = 5 := by omega
      have HF := hide (show namedT s = none from find_no (fun j y hj hy => HN.out j y hj hy))
      go_wp2
      refine bodyPost_ret (v := .tuple #[.agg #[.string ⟨#[]⟩, .slice none 0 0], .int .i64 3]) ?_ rfl (namedPost_no HF.out rfl ?_)
      · simp [results, Tryd.results20, go_sem, r0, r1]
      · have BX := HBw.out
        go_grown
set_option maxRecDepth 100000 in
set_option maxHeartbeats 4000000 in
theorem spec_bondNamed (s : ByteArray) (w : World) : Calls Tryd.prog 19 #[.string s] w (NamedPost s w) := by
  have HB0 := hide ((Below.refl w.heap.size w).alloc (Nat.le_refl _) (.cells #[.string ⟨#[]⟩, .slice none 0 0] 29))
  have R0 := hide (show (w.alloc (.cells #[.string ⟨#[]⟩, .slice none 0 0] 29)).cell? ⟨w.heap.size, 0, none⟩ = some (.string ⟨#[]⟩) from by simp [go_sem])
  have R1 := hide (show (w.alloc (.cells #[.string ⟨#[]⟩, .slice none 0 0] 29)).cell? ⟨w.heap.size, 1, none⟩ = some (.slice none 0 0) from by simp [go_sem])
  have X0 := hide (show (w.alloc (.cells #[.string ⟨#[]⟩, .slice none 0 0] 29)).frozen? ⟨w.heap.size, 0, none⟩ = false from by simp [go_sem])
  have X1 := hide (show (w.alloc (.cells #[.string ⟨#[]⟩, .slice none 0 0] 29)).frozen? ⟨w.heap.size, 1, none⟩ = false from by simp [go_sem])
  have hzz : w.heap.size < (w.alloc (.cells #[.string ⟨#[]⟩, .slice none 0 0] 29)).heap.size := by simp
  go_enter Tryd.func19, Tryd.ntmps19
  go_wp2_with fail
  refine (spec_library _).mono ?_
  rintro e w1 ⟨g, rfl, hr, hb1⟩
  have HR := hide hr
  have HB1 := hide hb1
  clear hr hb1
  go_wp2
  go_loopw [5] (fun i wr => ∃ k : Nat, k ≤ 5 ∧ i = .int .i64 k ∧ Hid (∀ j y, j < k → libB[j]? = some y → hitB s y = false) ∧ Hid (Below w1.heap.size w1 wr)) (fun i _ => 5 - (intOf i).toNat)
  case atStart => exact ⟨0, by omega, rfl, hide (fun j y hj => absurd hj (Nat.not_lt_zero j)), hide (Below.refl _ _)⟩
  case round =>
    obtain ⟨k, hk, rfl, HN, HW⟩ := hrel
    have HB := hide (HB1.out.trans (HW.out.mono HB1.out.size))
    have hz := HB.out.size
    have r0 := (HB.out.cell (p := ⟨w.heap.size, 0, none⟩) hzz).trans R0.out
    have r1 := (HB.out.cell (p := ⟨w.heap.size, 1, none⟩) hzz).trans R1.out
    have x0 := (HB.out.frozen (p := ⟨w.heap.size, 0, none⟩) hzz).trans X0.out
    have x1 := (HB.out.frozen (p := ⟨w.heap.size, 1, none⟩) hzz).trans X1.out
    have HBw := hide (HB0.out.trans (HB.out.mono (Nat.le_of_lt hzz)))
    have hzr : w.heap.size < wr.heap.size := Nat.lt_of_lt_of_le hzz hz
    by_cases hlt : k < 5
    · obtain ⟨x, hzk⟩ : ∃ z, libB[k]? = some z := ⟨libB[k]'(by simpa [libB, libL] using hlt), List.getElem?_eq_getElem _⟩
      have HX := hide hzk
      obtain ⟨y9, hy9, hs9, hsz⟩ := lib_at hzk
      obtain ⟨b, off, e0, hb, a0⟩ := row_at_1 (HR.out.below HW.out) hzk rfl
      obtain ⟨rfl, rfl⟩ : b = g ∧ off = 0 := by injection e0 with e0; injection e0 with e1 e2 e3; exact ⟨e1.symm, e2.symm⟩
      rw [Nat.zero_add] at a0
      clear hy9 hs9 e0
      have hki : (k : Int) < 5 := by omega
      clear hzk
      obtain ⟨rn, hrn⟩ : ∃ r, readN x = r := ⟨_, rfl⟩
      obtain ⟨rz, hrz⟩ : ∃ r, readZ x = r := ⟨_, rfl⟩
      obtain ⟨nz, hnz⟩ : ∃ r, rz.length = r := ⟨_, rfl⟩
      obtain ⟨ok, hok⟩ : ∃ r, okT x = r := ⟨_, rfl⟩
      obtain ⟨q, hq⟩ : ∃ q, hitB s x = q := ⟨_, rfl⟩
      have hq2 : (rn.toList == s.toList) = q := by rw [← hrn]; exact hq
      have HQ := hide hq
      have HRN := hide hrn
      have HRZ := hide hrz
      have HNZ := hide hnz
      have HOK := hide hok
      clear hrn hrz hnz hok hq
      go_wp2_with fail
      refine (spec_readBond x _ (by omega)).mono ?_
      rintro e w2 ⟨A, c, rfl, ho, hb2⟩
      rw [HRN.out, HRZ.out, HNZ.out, HOK.out]
      rw [HRZ.out, HNZ.out] at ho
      have HO := hide ho
      replace r0 := (hb2.cell (p := ⟨w.heap.size, 0, none⟩) hzr).trans r0
      replace r1 := (hb2.cell (p := ⟨w.heap.size, 1, none⟩) hzr).trans r1
      replace x0 := (hb2.frozen (p := ⟨w.heap.size, 0, none⟩) hzr).trans x0
      replace x1 := (hb2.frozen (p := ⟨w.heap.size, 1, none⟩) hzr).trans x1
      have HB2 := hide (HBw.out.trans (hb2.mono HBw.out.size))
      have HW2 := hide (HW.out.trans (hb2.mono HW.out.size))
      have hz2 : w.heap.size < w2.heap.size := Nat.lt_of_lt_of_le hzr hb2.size
      clear hb2 ho
      cases q with
      | true =>
        go_wp2
        refine bodyPost_ret (v := .tuple #[.agg #[.string rn, .slice A nz c], .int .i64 0]) ?_ rfl (namedPost_yes (find_at HX.out HN.out HQ.out) HRN.out HRZ.out HNZ.out rfl ?_ ?_)
        · have e0 := (World.cell?_alloc_lt ((w2.setCell ⟨w.heap.size, 0, none⟩ (.string rn)).setCell ⟨w.heap.size, 1, none⟩ (.slice A nz c)) (.cells #[.string rn, .slice A nz c] 29) ⟨w.heap.size, 0, none⟩ (by simpa using hz2))
          have e1 := (World.cell?_alloc_lt ((w2.setCell ⟨w.heap.size, 0, none⟩ (.string rn)).setCell ⟨w.heap.size, 1, none⟩ (.slice A nz c)) (.cells #[.string rn, .slice A nz c] 29) ⟨w.heap.size, 1, none⟩ (by simpa using hz2))
          simp [results, Tryd.results19, go_sem, e0, e1, r0, r1]
        · refine ⟨HNZ.out, own_low1' ((ownsRow_setCell_below (ownsRow_setCell_below HO.out.own (a := ⟨w.heap.size, 0, none⟩) hzr _) (a := ⟨w.heap.size, 1, none⟩) hzr _).alloc _) (Nat.le_of_lt hzr), fun a ha => ?_, by simp⟩
          have := HO.out.up a ha
          simp
          omega
        · have BX := HB2.out
          go_grown
      | false =>
        go_wp2
        go_roundw
        case rel => exact ⟨k + 1, by omega, by go_num, hide (miss_more HN.out HX.out HQ.out), hide (HW2.out.alloc HW2.out.size _)⟩
        case measure => simp [intOf]; omega
    · obtain rfl : k = 5 := by omega
      have HF := hide (show namedT s = none from find_no (fun j y hj hy => HN.out j y hj hy))
      go_wp2
      refine bodyPost_ret (v := .tuple #[.agg #[.string ⟨#[]⟩, .slice none 0 0], .int .i64 3]) ?_ rfl (namedPost_no HF.out rfl ?_)
      · simp [results, Tryd.results19, go_sem, r0, r1]
      · have BX := HBw.out
        go_grown
end Go.Proofs.YtlokmkiicmpccaaDoor
