/-
  What is proved: the names of the bonds of the library, of the program and of the reference. Condition: the program's table of texts lies in its block, the library's own variable holds some number.
-/
import Derived.Test.YtlokmkiicmpccaaDoorSplitW
import Derived.Test.YtlokmkiicmpccaaDoorShelf
namespace Go.Proofs.YtlokmkiicmpccaaDoor
open Go.RowKit Go.PlainAid
set_option linter.unusedVariables false

def libL : List (List UInt8) := [[115, 116, 114, 101, 116, 99, 104, 101, 114, 32, 83, 32, 66, 43, 83], [104, 101, 97, 100, 101, 114, 32, 72, 32, 67, 43, 72], [101, 110, 103, 108, 105, 115, 104, 32, 83, 32, 72, 67, 43, 72], [102, 108, 101, 109, 105, 115, 104, 32, 83, 72, 32, 72, 67, 43, 83, 72], [103, 97, 114, 100, 101, 110, 32, 83, 32, 66, 43, 83, 32, 83, 32, 72, 67, 43, 72]]
def libB : List ByteArray := libL.map ba
def namesB : List ByteArray := [ba [115, 116, 114, 101, 116, 99, 104, 101, 114], ba [104, 101, 97, 100, 101, 114], ba [101, 110, 103, 108, 105, 115, 104], ba [102, 108, 101, 109, 105, 115, 104], ba [103, 97, 114, 100, 101, 110]]
/-- The library's own variable holds some number. -/
def MaxLenIs (w : World) : Prop := ∃ m, w.cell? ⟨1, 0, none⟩ = some (.int .i64 m)
theorem MaxLenIs.below {w w' : World} (h : MaxLenIs w) (hz : 1 < w.heap.size) (hb : Below w.heap.size w w') : MaxLenIs w' := by
  obtain ⟨m, hm⟩ := h
  exact ⟨m, (hb.cell (p := ⟨1, 0, none⟩) hz).trans hm⟩
theorem cell_lt {w : World} {b i : Nat} {v : Value} (h : w.cell? ⟨b, i, none⟩ = some v) : b < w.heap.size := by
  rcases Nat.lt_or_ge b w.heap.size with h1 | h1
  · exact h1
  · have e : w.heap[b]? = none := Array.getElem?_eq_none h1
    simp [World.cell?, e] at h
theorem cut_is (s sep : ByteArray) (r : List UInt8 × List UInt8 × Bool) (w : World) (hr : Lib.cut s.data.toList sep.data.toList = r) (hs : s.size < 4294967281) (hm : MaxLenIs w) :
    Calls Tryd.prog 36 #[.string s, .string sep] w fun e w' => e = .returned (.tuple #[.string (ba r.1), .string (ba r.2.1), .bool r.2.2]) ∧ Below w.heap.size w w' := by
  subst hr
  obtain ⟨m, hm⟩ := hm
  exact (Tryd.strings_Cut s sep m w hs hm).mono fun e w' ⟨he, q, hq⟩ => ⟨he, by rw [hq]; exact below_drewN (Below.refl _ _) q⟩
theorem row_built (w : World) (xs : List ByteArray) (t : TypeId) (g : Nat) (hg : w.heap.size = g) : Row encS 1 (w.alloc (.cells (xs.map Value.string).toArray t)) (some ⟨g, 0, none⟩) xs := fun _ => by
  subst hg
  refine ⟨w.heap.size, 0, rfl, by simp, fun i x hi j v hv => ?_⟩
  match j, hv with
  | 0, hv =>
    obtain rfl := Option.some.inj hv
    have hi' := hi
    simp [World.cell?_alloc_new, hi']
theorem own_lowS {w : World} {base base' size n : Nat} {t : TypeId} {v : Value} {xs : List Value} (h : w.ownsRow base t size v n xs) (hb : base' ≤ base) : w.ownsRow base' t size v n xs :=
  ⟨h.1, h.2.imp id fun ⟨g, cap, cur, h1, h2, h3⟩ => ⟨g, cap, cur, h1, Nat.le_trans hb h2, h3⟩⟩
/-- The table of the program. -/
def LibTab (w : World) : Prop := w.cell? ⟨0, 0, none⟩ = some (.string (ba [115, 116, 114, 101, 116, 99, 104, 101, 114, 32, 83, 32, 66, 43, 83])) ∧ w.cell? ⟨0, 1, none⟩ = some (.string (ba [104, 101, 97, 100, 101, 114, 32, 72, 32, 67, 43, 72])) ∧ w.cell? ⟨0, 2, none⟩ = some (.string (ba [101, 110, 103, 108, 105, 115, 104, 32, 83, 32, 72, 67, 43, 72])) ∧ w.cell? ⟨0, 3, none⟩ = some (.string (ba [102, 108, 101, 109, 105, 115, 104, 32, 83, 72, 32, 72, 67, 43, 83, 72])) ∧ w.cell? ⟨0, 4, none⟩ = some (.string (ba [103, 97, 114, 100, 101, 110, 32, 83, 32, 66, 43, 83, 32, 83, 32, 72, 67, 43, 72]))
theorem LibTab.below {w w' : World} (h : LibTab w) (hb : Below w.heap.size w w') : LibTab w' := by
  obtain ⟨h0, h1, h2, h3, h4⟩ := h
  have hz := cell_lt h0
  exact ⟨(hb.cell (p := ⟨0, 0, none⟩) hz).trans h0, (hb.cell (p := ⟨0, 1, none⟩) hz).trans h1, (hb.cell (p := ⟨0, 2, none⟩) hz).trans h2, (hb.cell (p := ⟨0, 3, none⟩) hz).trans h3, (hb.cell (p := ⟨0, 4, none⟩) hz).trans h4⟩
theorem lib_pick0 (W : World) : (Instr.index 56 (.agg #[.string (ba [115, 116, 114, 101, 116, 99, 104, 101, 114, 32, 83, 32, 66, 43, 83]), .string (ba [104, 101, 97, 100, 101, 114, 32, 72, 32, 67, 43, 72]), .string (ba [101, 110, 103, 108, 105, 115, 104, 32, 83, 32, 72, 67, 43, 72]), .string (ba [102, 108, 101, 109, 105, 115, 104, 32, 83, 72, 32, 72, 67, 43, 83, 72]), .string (ba [103, 97, 114, 100, 101, 110, 32, 83, 32, 66, 43, 83, 32, 83, 32, 72, 67, 43, 72])]) (.int .i64 0)).run Tryd.prog W = .ok (.string (ba [115, 116, 114, 101, 116, 99, 104, 101, 114, 32, 83, 32, 66, 43, 83])) W := by kernel_rfl
theorem lib_pick1 (W : World) : (Instr.index 56 (.agg #[.string (ba [115, 116, 114, 101, 116, 99, 104, 101, 114, 32, 83, 32, 66, 43, 83]), .string (ba [104, 101, 97, 100, 101, 114, 32, 72, 32, 67, 43, 72]), .string (ba [101, 110, 103, 108, 105, 115, 104, 32, 83, 32, 72, 67, 43, 72]), .string (ba [102, 108, 101, 109, 105, 115, 104, 32, 83, 72, 32, 72, 67, 43, 83, 72]), .string (ba [103, 97, 114, 100, 101, 110, 32, 83, 32, 66, 43, 83, 32, 83, 32, 72, 67, 43, 72])]) (.int .i64 1)).run Tryd.prog W = .ok (.string (ba [104, 101, 97, 100, 101, 114, 32, 72, 32, 67, 43, 72])) W := by kernel_rfl
theorem lib_pick2 (W : World) : (Instr.index 56 (.agg #[.string (ba [115, 116, 114, 101, 116, 99, 104, 101, 114, 32, 83, 32, 66, 43, 83]), .string (ba [104, 101, 97, 100, 101, 114, 32, 72, 32, 67, 43, 72]), .string (ba [101, 110, 103, 108, 105, 115, 104, 32, 83, 32, 72, 67, 43, 72]), .string (ba [102, 108, 101, 109, 105, 115, 104, 32, 83, 72, 32, 72, 67, 43, 83, 72]), .string (ba [103, 97, 114, 100, 101, 110, 32, 83, 32, 66, 43, 83, 32, 83, 32, 72, 67, 43, 72])]) (.int .i64 2)).run Tryd.prog W = .ok (.string (ba [101, 110, 103, 108, 105, 115, 104, 32, 83, 32, 72, 67, 43, 72])) W := by kernel_rfl
theorem lib_pick3 (W : World) : (Instr.index 56 (.agg #[.string (ba [115, 116, 114, 101, 116, 99, 104, 101, 114, 32, 83, 32, 66, 43, 83]), .string (ba [104, 101, 97, 100, 101, 114, 32, 72, 32, 67, 43, 72]), .string (ba [101, 110, 103, 108, 105, 115, 104, 32, 83, 32, 72, 67, 43, 72]), .string (ba [102, 108, 101, 109, 105, 115, 104, 32, 83, 72, 32, 72, 67, 43, 83, 72]), .string (ba [103, 97, 114, 100, 101, 110, 32, 83, 32, 66, 43, 83, 32, 83, 32, 72, 67, 43, 72])]) (.int .i64 3)).run Tryd.prog W = .ok (.string (ba [102, 108, 101, 109, 105, 115, 104, 32, 83, 72, 32, 72, 67, 43, 83, 72])) W := by kernel_rfl
theorem lib_pick4 (W : World) : (Instr.index 56 (.agg #[.string (ba [115, 116, 114, 101, 116, 99, 104, 101, 114, 32, 83, 32, 66, 43, 83]), .string (ba [104, 101, 97, 100, 101, 114, 32, 72, 32, 67, 43, 72]), .string (ba [101, 110, 103, 108, 105, 115, 104, 32, 83, 32, 72, 67, 43, 72]), .string (ba [102, 108, 101, 109, 105, 115, 104, 32, 83, 72, 32, 72, 67, 43, 83, 72]), .string (ba [103, 97, 114, 100, 101, 110, 32, 83, 32, 66, 43, 83, 32, 83, 32, 72, 67, 43, 72])]) (.int .i64 4)).run Tryd.prog W = .ok (.string (ba [103, 97, 114, 100, 101, 110, 32, 83, 32, 66, 43, 83, 32, 83, 32, 72, 67, 43, 72])) W := by kernel_rfl
theorem lib_pick {k : Nat} {x : ByteArray} (h : libB[k]? = some x) (W : World) : (Instr.index 56 (.agg #[.string (ba [115, 116, 114, 101, 116, 99, 104, 101, 114, 32, 83, 32, 66, 43, 83]), .string (ba [104, 101, 97, 100, 101, 114, 32, 72, 32, 67, 43, 72]), .string (ba [101, 110, 103, 108, 105, 115, 104, 32, 83, 32, 72, 67, 43, 72]), .string (ba [102, 108, 101, 109, 105, 115, 104, 32, 83, 72, 32, 72, 67, 43, 83, 72]), .string (ba [103, 97, 114, 100, 101, 110, 32, 83, 32, 66, 43, 83, 32, 83, 32, 72, 67, 43, 72])]) (.int .i64 (k : Int))).run Tryd.prog W = .ok (.string x) W := by
  match k, h with
  | 0, h =>
    obtain rfl : ba [115, 116, 114, 101, 116, 99, 104, 101, 114, 32, 83, 32, 66, 43, 83] = x := Option.some.inj h
    exact lib_pick0 W
  | 1, h =>
    obtain rfl : ba [104, 101, 97, 100, 101, 114, 32, 72, 32, 67, 43, 72] = x := Option.some.inj h
    exact lib_pick1 W
  | 2, h =>
    obtain rfl : ba [101, 110, 103, 108, 105, 115, 104, 32, 83, 32, 72, 67, 43, 72] = x := Option.some.inj h
    exact lib_pick2 W
  | 3, h =>
    obtain rfl : ba [102, 108, 101, 109, 105, 115, 104, 32, 83, 72, 32, 72, 67, 43, 83, 72] = x := Option.some.inj h
    exact lib_pick3 W
  | 4, h =>
    obtain rfl : ba [103, 97, 114, 100, 101, 110, 32, 83, 32, 66, 43, 83, 32, 83, 32, 72, 67, 43, 72] = x := Option.some.inj h
    exact lib_pick4 W
theorem lib_cut {k : Nat} {x : ByteArray} (h : libB[k]? = some x) : ∃ y r, namesB[k]? = some (ba y) ∧ Lib.cut x.data.toList [32] = (y, r, true) ∧ x.size ≤ 100 := by
  match k, h with
  | 0, h => obtain rfl := Option.some.inj h; exact ⟨_, [83, 32, 66, 43, 83], rfl, by kernel_rfl, by decide⟩
  | 1, h => obtain rfl := Option.some.inj h; exact ⟨_, [72, 32, 67, 43, 72], rfl, by kernel_rfl, by decide⟩
  | 2, h => obtain rfl := Option.some.inj h; exact ⟨_, [83, 32, 72, 67, 43, 72], rfl, by kernel_rfl, by decide⟩
  | 3, h => obtain rfl := Option.some.inj h; exact ⟨_, [83, 72, 32, 72, 67, 43, 83, 72], rfl, by kernel_rfl, by decide⟩
  | 4, h => obtain rfl := Option.some.inj h; exact ⟨_, [83, 32, 66, 43, 83, 32, 83, 32, 72, 67, 43, 72], rfl, by kernel_rfl, by decide⟩
theorem lib_at {k : Nat} {x : ByteArray} (h : libB[k]? = some x) : ∃ y, namesB[k]? = some y ∧ (splB 32 x)[0]? = some y ∧ x.size ≤ 100 := by
  match k, h with
  | 0, h => obtain rfl := Option.some.inj h; exact ⟨_, rfl, by kernel_rfl, by decide⟩
  | 1, h => obtain rfl := Option.some.inj h; exact ⟨_, rfl, by kernel_rfl, by decide⟩
  | 2, h => obtain rfl := Option.some.inj h; exact ⟨_, rfl, by kernel_rfl, by decide⟩
  | 3, h => obtain rfl := Option.some.inj h; exact ⟨_, rfl, by kernel_rfl, by decide⟩
  | 4, h => obtain rfl := Option.some.inj h; exact ⟨_, rfl, by kernel_rfl, by decide⟩
theorem spec_library (w : World) : Calls Tryd.prog 34 #[] w fun e w' => ∃ g, e = .returned (.slice (some ⟨g, 0, none⟩) 5 5) ∧ Row encS 1 w' (some ⟨g, 0, none⟩) libB ∧ Below w.heap.size w w' := by
  go_enter Tryd.func34, Tryd.ntmps34
  go_wp2
  go_ret
  exact ⟨_, rfl, row_built w libB _ _ rfl, (Below.refl _ _).alloc (Nat.le_refl _) _⟩
set_option maxRecDepth 100000 in
set_option maxHeartbeats 2000000 in
theorem spec_bondNames (w : World) :
    Calls Tryd.prog 9 #[] w fun e w' => ∃ A' c', e = .returned (.slice A' 5 c') ∧ Own 9 1 encS w' w.heap.size w'.heap.size A' 5 c' namesB ∧ Below w.heap.size w w' := by
  obtain ⟨i0, hi, hz0, hz1, hz2⟩ := info_parts info_Str
  have HI := hide hi
  have HZ0 := hide hz0
  have HZ1 := hide hz1
  have HZ2 := hide hz2
  clear hi hz0 hz1 hz2
  go_enter Tryd.func9, Tryd.ntmps9
  go_wp2_with fail
  refine (spec_library _).mono ?_
  rintro e w1 ⟨g, rfl, hr, hb1⟩
  have HR := hide hr
  have HB1 := hide hb1
  have hz1 := hb1.size
  clear hr hb1
  go_wp2
  go_loopw [2, 3] (fun v i wr => ∃ k : Nat, k ≤ 5 ∧ i = .int .i64 k ∧ Hid (wr.ownsRow w1.heap.size 9 1 v (namesB.take k).length (flat encS (namesB.take k))) ∧ Hid (Below w1.heap.size w1 wr)) (fun _ i _ => 5 - (intOf i).toNat)
  case atStart => exact ⟨0, by omega, rfl, hide (own_empty w1 _ _ _ (Nat.le_refl _)), hide ((Below.refl _ _).alloc (Nat.le_refl _) _)⟩
  case round =>
    obtain ⟨k, hk, rfl, HO, HA⟩ := hrel
    have hz := HA.out.size
    by_cases hlt : k < 5
    · obtain ⟨x, hzk⟩ : ∃ z, libB[k]? = some z := ⟨libB[k]'(by simpa [libB, libL] using hlt), List.getElem?_eq_getElem _⟩
      obtain ⟨y, hy, hs0, hsz⟩ := lib_at hzk
      obtain ⟨b, off, e0, hb, a0⟩ := row_at_1 (HR.out.below HA.out) hzk rfl
      obtain ⟨rfl, rfl⟩ : b = g ∧ off = 0 := by injection e0 with e0; injection e0 with e1 e2 e3; exact ⟨e1.symm, e2.symm⟩
      have HY := hide hy
      have HS0 := hide hs0
      have hlen : (namesB.take k).length ≤ 5 := Nat.le_trans (List.length_take_le _ _) hk
      clear e0 hzk hy hs0
      rw [Nat.zero_add] at a0
      have hki : (k : Int) < 5 := by omega
      go_wp2_with fail
      refine (spec_l01Split x 32 32 _ rfl (by omega)).mono ?_
      rintro e w2 ⟨A2, c2, rfl, ho, hb2⟩
      have HA2 := hide (HA.out.trans (hb2.mono hz))
      have HO2 := hide (own_below HO.out hb2)
      have hz2 : w1.heap.size ≤ w2.heap.size := HA2.out.size
      obtain ⟨b2, off2, rfl, hbb, q0⟩ := row_at_1 (ho.row (fun _ => rfl)) HS0.out rfl
      have hl0 : 0 < (splB 32 x).length := (List.getElem?_eq_some_iff.1 HS0.out).1
      rw [Nat.add_zero] at q0
      clear hb2 ho a0
      go_wp2_with (at_builtin; go_loud (refine wpList_append_own _ rfl _ _ 22 rfl w1.heap.size 9 i0 (.string ⟨#[]⟩) 1 16 Tryd.underlying22 HI.out HZ0.out HZ1.out HZ2.out rfl (by decide) _ _ _ rfl (HO2.out.alloc _) ⟨w2.heap.size, 0, none⟩ 1 1 [.string y] rfl rfl (cell_one_new _ _ _) (fun x hx => by simp at hx; subst hx; rfl) (by unfold maxLen; omega) (by omega) (by simp; omega) ?_; intro v' w3 hown' hgrow hnil))
      have HO' := hide (own_pushS hown' (ys := namesB.take (k + 1)) (by rw [List.take_add_one, HY.out]; rfl))
      have HA' := hide (below_push2 HA2.out (Nat.le_refl _) HO2.out hgrow)
      clear hown' hgrow hnil
      go_roundw
      case rel => exact ⟨k + 1, by omega, by go_num, HO', HA'⟩
      case measure => simp [intOf]; omega
    · obtain rfl : k = 5 := by omega
      obtain ⟨A', c', rfl, ho⟩ := Own.of_row rfl HO.out HA.out.size
      have HO2 := hide ho
      clear ho
      go_wp2
      go_ret
      exact ⟨A', c', rfl, ⟨HO2.out.len, own_lowS HO2.out.own hz1, HO2.out.up, HO2.out.hi_le⟩, HB1.out.trans (HA.out.mono hz1)⟩
set_option maxRecDepth 100000 in
set_option maxHeartbeats 2000000 in
theorem impl_bondNames (w : World) (hM : MaxLenIs w) (hT : LibTab w) :
    Calls Tryd.prog 10 #[] w fun e w' => ∃ A' c', e = .returned (.slice A' 5 c') ∧ Own 9 1 encS w' w.heap.size w'.heap.size A' 5 c' namesB ∧ Below w.heap.size w w' := by
  obtain ⟨i0, hi, hz0, hz1, hz2⟩ := info_parts info_Str
  have HI := hide hi
  have HZ0 := hide hz0
  have HZ1 := hide hz1
  have HZ2 := hide hz2
  have HM := hide hM
  have HT := hide hT
  have hM1 : 1 < w.heap.size := by obtain ⟨m, hm⟩ := hM; exact cell_lt hm
  have hz00 : 0 < w.heap.size := cell_lt hT.1
  obtain ⟨h0, h1, h2, h3, h4⟩ := hT.below ((Below.refl w.heap.size w).alloc (Nat.le_refl _) (.cells #[] 9))
  clear hi hz0 hz1 hz2 hM hT
  go_enter Tryd.func10, Tryd.ntmps10
  go_wp2
  clear h0 h1 h2 h3 h4
  go_loopw [1, 9] (fun v i wr => ∃ k : Nat, k ≤ 5 ∧ i = .int .i64 k ∧ Hid (wr.ownsRow w.heap.size 9 1 v (namesB.take k).length (flat encS (namesB.take k))) ∧ Hid (Below w.heap.size w wr)) (fun _ i _ => 5 - (intOf i).toNat)
  case atStart => exact ⟨0, by omega, rfl, hide (own_empty w _ _ _ (Nat.le_refl _)), hide ((Below.refl _ _).alloc (Nat.le_refl _) _)⟩
  case round =>
    obtain ⟨k, hk, rfl, HO, HB⟩ := hrel
    have hz := HB.out.size
    by_cases hlt : k < 5
    · obtain ⟨x, hzk⟩ : ∃ z, libB[k]? = some z := ⟨libB[k]'(by simpa [libB, libL] using hlt), List.getElem?_eq_getElem _⟩
      obtain ⟨y, r, hy, hcut, hsz⟩ := lib_cut hzk
      have hpick := lib_pick hzk
      have HY := hide hy
      have HC := hide hcut
      have hlen : (namesB.take k).length ≤ 5 := Nat.le_trans (List.length_take_le _ _) hk
      clear hzk hy hcut
      have hki : (k : Int) < 5 := by omega
      go_wp2_with fail
      refine (cut_is x ⟨#[32]⟩ _ _ HC.out (by omega) (HM.out.below hM1 HB.out)).mono ?_
      rintro e w2 ⟨rfl, hb2⟩
      have HB2 := hide (HB.out.trans (hb2.mono hz))
      have HO2 := hide (own_below HO.out hb2)
      have hz2 : w.heap.size ≤ w2.heap.size := HB2.out.size
      clear hb2
      go_wp2_with (at_builtin; refine wpList_append_own _ rfl _ _ 22 rfl w.heap.size 9 i0 (.string ⟨#[]⟩) 1 16 Tryd.underlying22 HI.out HZ0.out HZ1.out HZ2.out rfl (by decide) _ _ _ rfl (HO2.out.alloc _) ⟨w2.heap.size, 0, none⟩ 1 1 [.string (ba y)] rfl rfl (cell_one_new _ _ _) (fun x hx => by simp at hx; subst hx; rfl) (by unfold maxLen; omega) (by omega) (by simp; omega) ?_; intro v' w3 hown' hgrow hnil)
      have HO' := hide (own_pushS hown' (ys := namesB.take (k + 1)) (by rw [List.take_add_one, HY.out]; rfl))
      have HB' := hide (below_push2 HB2.out (Nat.le_refl _) HO2.out hgrow)
      clear hown' hgrow hnil hpick
      go_roundw
      case rel => exact ⟨k + 1, by omega, by go_num, HO', HB'⟩
      case measure => simp [intOf]; omega
    · obtain rfl : k = 5 := by omega
      obtain ⟨A', c', rfl, ho⟩ := Own.of_row rfl HO.out HB.out.size
      have HO2 := hide ho
      clear ho
      go_wp2
      go_ret
      exact ⟨A', c', rfl, HO2.out, HB.out⟩
end Go.Proofs.YtlokmkiicmpccaaDoor
