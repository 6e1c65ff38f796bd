/-
  What is proved: a format and a mould read off texts by the program. Conditions: a length that fits; the library's own variables hold what they are laid with.
-/
import Derived.Test.YtjoepnmmcagggaaDoorTexts
namespace Go.Proofs.YtjoepnmmcagggaaDoor
open Go.RowKit Go.PlainAid
set_option linter.unusedVariables false

/-- What is read: four numbers, or none. -/
def QuadPost (o : Option (Int × Int × Int × Int)) (w : World) (e : Ending) (w' : World) : Prop :=
  Below w.heap.size w w' ∧ ((o = none ∧ e = .returned (.tuple #[.agg #[.int .i64 0, .int .i64 0, .int .i64 0, .int .i64 0], .bool false])) ∨ ∃ x y z j, o = some (x, y, z, j) ∧ e = .returned (.tuple #[.agg #[.int .i64 x, .int .i64 y, .int .i64 z, .int .i64 j], .bool true]))
theorem quad_no {o : Option (Int × Int × Int × Int)} {w w' : World} {e : Ending} (h : o = none) (he : e = .returned (.tuple #[.agg #[.int .i64 0, .int .i64 0, .int .i64 0, .int .i64 0], .bool false])) (hb : Below w.heap.size w w') : QuadPost o w e w' := ⟨hb, .inl ⟨h, he⟩⟩
theorem quad_yes {o : Option (Int × Int × Int × Int)} {w w' : World} {e : Ending} {x y z j : Int} (h : o = some (x, y, z, j)) (he : e = .returned (.tuple #[.agg #[.int .i64 x, .int .i64 y, .int .i64 z, .int .i64 j], .bool true])) (hb : Below w.heap.size w w') : QuadPost o w e w' := ⟨hb, .inr ⟨x, y, z, j, h, he⟩⟩
theorem cut_len (l sep : List UInt8) : (Lib.cut l sep).1.length ≤ l.length ∧ (Lib.cut l sep).2.1.length ≤ l.length := by
  unfold Lib.cut
  split
  · simp
    omega
  · simp
theorem cut_nil1 {c : UInt8} {sep : List UInt8} : Lib.cut [] (c :: sep) = ([], [], false) := by
  unfold Lib.cut
  have : Lib.index [] (c :: sep) = -1 := by
    unfold Lib.index
    simp
  rw [this]
  simp
theorem nums_nil : numsL 120 [] = none := nums_count (by decide)
theorem fmt_ne {l : List UInt8} {v : List Int} (h : numsL 120 (Lib.cut l [43]).1 = some v) : l ≠ [] := fun e => by
  subst e
  rw [cut_nil1, nums_nil] at h
  cases h
theorem mld_ne {l : List UInt8} {v : List Int} (h : numsL 120 (Lib.cut l usedL).1 = some v) : l ≠ [] := fun e => by
  subst e
  unfold usedL at h
  rw [cut_nil1, nums_nil] at h
  cases h
theorem fmtT_ne {s : ByteArray} {x y z j : Int} (hs : s.data.toList ≠ []) (h : ¬ (fmtB x y z j = true ∧ fText x y z j = s.data.toList)) : fmtT x y z j ≠ s := by
  intro e
  cases hb : fmtB x y z j with
  | false =>
    rw [fmtT_no hb] at e
    rw [← e] at hs
    exact hs rfl
  | true =>
    rw [fmtT_yes hb] at e
    exact h ⟨hb, by rw [← e, ba_data]⟩
theorem mldT_ne {s : ByteArray} {x y z j : Int} (hs : s.data.toList ≠ []) (h : ¬ (mldB x y z j = true ∧ mText x y z j = s.data.toList)) : mldT x y z j ≠ s := by
  intro e
  cases hb : mldB x y z j with
  | false =>
    rw [mldT_no hb] at e
    rw [← e] at hs
    exact hs rfl
  | true =>
    rw [mldT_yes hb] at e
    exact h ⟨hb, by rw [← e, ba_data]⟩
theorem fmtT_eq {s : ByteArray} {x y z j : Int} (h : fmtB x y z j = true ∧ fText x y z j = s.data.toList) : fmtT x y z j = s := by
  rw [fmtT_yes h.1, h.2, ba_of]
theorem mldT_eq {s : ByteArray} {x y z j : Int} (h : mldB x y z j = true ∧ mText x y z j = s.data.toList) : mldT x y z j = s := by
  rw [mldT_yes h.1, h.2, ba_of]
set_option maxRecDepth 100000 in
set_option maxHeartbeats 4000000 in
theorem impl_readFormat (s : ByteArray) (w : World) (hs : s.size ≤ 16777216) (hm : MaxLenIs w) (hp : Pow10 w) (hy : ErrSyn w) :
    Calls Tryd.prog 36 #[.string s] w (QuadPost (fmtL s.data.toList) w) := by
  have hMz : 3 < w.heap.size := by obtain ⟨m, hm⟩ := hm; exact cell_lt hm
  have HM := hide hm
  have HP := hide hp
  have HY := hide hy
  clear hm hp hy
  obtain ⟨a, b, p, hr⟩ : ∃ a b p, Lib.cut s.data.toList [43] = (a, b, p) := ⟨_, _, _, rfl⟩
  have hla : (ba a).size ≤ 16777216 := by
    have := (cut_len s.data.toList [43]).1
    rw [hr] at this
    rw [ba_size']
    simp at this
    omega
  have hlb : (ba b).size ≤ 16777216 := by
    have := (cut_len s.data.toList [43]).2
    rw [hr] at this
    rw [ba_size']
    simp at this
    omega
  have HR := hide hr
  clear hr
  have HB0 := hide ((Below.refl w.heap.size w).alloc (Nat.le_refl _) (.cells #[.int .i64 0, .int .i64 0, .int .i64 0, .int .i64 0] 34))
  go_enter Tryd.func36, Tryd.ntmps36
  go_wp2_with fail
  refine (cut_is s ⟨#[43]⟩ _ _ HR.out (by omega) (HM.out.below hMz HB0.out)).mono ?_
  rintro e w1 ⟨rfl, hb⟩
  have r0 := (hb.cell (p := ⟨w.heap.size, 0, none⟩) (by simp)).trans (show _ = some (.int .i64 0) from by simp [go_sem])
  have x0 := ((bcell hb).2 w.heap.size 0 (by simp)).trans (show _ = false from by simp [go_sem])
  have r1 := (hb.cell (p := ⟨w.heap.size, 1, none⟩) (by simp)).trans (show _ = some (.int .i64 0) from by simp [go_sem])
  have x1 := ((bcell hb).2 w.heap.size 1 (by simp)).trans (show _ = false from by simp [go_sem])
  have r2 := (hb.cell (p := ⟨w.heap.size, 2, none⟩) (by simp)).trans (show _ = some (.int .i64 0) from by simp [go_sem])
  have x2 := ((bcell hb).2 w.heap.size 2 (by simp)).trans (show _ = false from by simp [go_sem])
  have r3 := (hb.cell (p := ⟨w.heap.size, 3, none⟩) (by simp)).trans (show _ = some (.int .i64 0) from by simp [go_sem])
  have x3 := ((bcell hb).2 w.heap.size 3 (by simp)).trans (show _ = false from by simp [go_sem])
  have hz : w.heap.size < w1.heap.size := by have := hb.size; simp at this; omega
  have hz1 := hz
  have HB1 := hide (HB0.out.trans (hb.mono (by simp)))
  clear hb
  go_wp2_with fail
  refine (impl_readNums (ba a) _ hla (HM.out.below hMz HB1.out) (HP.out.below HB1.out) (HY.out.below HB1.out)).mono ?_
  rintro e w2 ⟨hb, hcase⟩
  rw [ba_data] at hcase
  replace r0 := (hb.cell (p := ⟨w.heap.size, 0, none⟩) hz).trans r0
  replace x0 := ((bcell hb).2 w.heap.size 0 hz).trans x0
  replace r1 := (hb.cell (p := ⟨w.heap.size, 1, none⟩) hz).trans r1
  replace x1 := ((bcell hb).2 w.heap.size 1 hz).trans x1
  replace r2 := (hb.cell (p := ⟨w.heap.size, 2, none⟩) hz).trans r2
  replace x2 := ((bcell hb).2 w.heap.size 2 hz).trans x2
  replace r3 := (hb.cell (p := ⟨w.heap.size, 3, none⟩) hz).trans r3
  replace x3 := ((bcell hb).2 w.heap.size 3 hz).trans x3
  replace hz : w.heap.size < w2.heap.size := Nat.lt_of_lt_of_le hz hb.size
  have HB2 := hide (HB1.out.trans (hb.mono HB1.out.size))
  clear hb
  rcases hcase with ⟨hn, rfl⟩ | ⟨x, y, z, g, c, hn, rfl, ho⟩
  · have HN := hide (fmt_cut (l := s.data.toList) (.inl (by rw [HR.out]; exact hn)))
    clear hn
    go_wp2_with fail
    refine (impl_readDec (ba b) _ hlb (HP.out.below HB2.out) (HY.out.below HB2.out)).mono ?_
    rintro e w3 ⟨rfl, hb⟩
    generalize numV (ba b) = v
    generalize numB (ba b) = t
    replace r0 := (hb.cell (p := ⟨w.heap.size, 0, none⟩) hz).trans r0
    replace x0 := ((bcell hb).2 w.heap.size 0 hz).trans x0
    replace r1 := (hb.cell (p := ⟨w.heap.size, 1, none⟩) hz).trans r1
    replace x1 := ((bcell hb).2 w.heap.size 1 hz).trans x1
    replace r2 := (hb.cell (p := ⟨w.heap.size, 2, none⟩) hz).trans r2
    replace x2 := ((bcell hb).2 w.heap.size 2 hz).trans x2
    replace r3 := (hb.cell (p := ⟨w.heap.size, 3, none⟩) hz).trans r3
    replace x3 := ((bcell hb).2 w.heap.size 3 hz).trans x3
    replace hz : w.heap.size < w3.heap.size := Nat.lt_of_lt_of_le hz hb.size
    have HB3 := hide (HB2.out.trans (hb.mono HB2.out.size))
    clear hb
    go_wp2
    refine bodyPost_ret (v := .tuple #[.agg #[.int .i64 0, .int .i64 0, .int .i64 0, .int .i64 0], .bool false]) ?_ rfl (quad_no HN.out rfl ?_)
    · simp [results, Tryd.results36, go_sem, r0, r1, r2, r3]
    · have BX := HB3.out
      go_grown
  · have hlne := fmt_ne (l := s.data.toList) (by rw [HR.out]; exact hn)
    cases hj : numL b with
    | none =>
      have HN := hide (fmt_cut (l := s.data.toList) (.inr (by rw [HR.out]; exact hj)))
      obtain ⟨v1, v2⟩ := num_no (s := ba b) (by rw [ba_data]; exact hj)
      have HV1 := hide v1
      have HV2 := hide v2
      clear hn hj v1 v2 ho hlne
      go_wp2_with fail
      refine (impl_readDec (ba b) _ hlb (HP.out.below HB2.out) (HY.out.below HB2.out)).mono ?_
      rintro e w3 ⟨rfl, hb⟩
      rw [HV1.out, HV2.out]
      replace r0 := (hb.cell (p := ⟨w.heap.size, 0, none⟩) hz).trans r0
      replace x0 := ((bcell hb).2 w.heap.size 0 hz).trans x0
      replace r1 := (hb.cell (p := ⟨w.heap.size, 1, none⟩) hz).trans r1
      replace x1 := ((bcell hb).2 w.heap.size 1 hz).trans x1
      replace r2 := (hb.cell (p := ⟨w.heap.size, 2, none⟩) hz).trans r2
      replace x2 := ((bcell hb).2 w.heap.size 2 hz).trans x2
      replace r3 := (hb.cell (p := ⟨w.heap.size, 3, none⟩) hz).trans r3
      replace x3 := ((bcell hb).2 w.heap.size 3 hz).trans x3
      replace hz : w.heap.size < w3.heap.size := Nat.lt_of_lt_of_le hz hb.size
      have HB3 := hide (HB2.out.trans (hb.mono HB2.out.size))
      clear hb
      go_wp2
      refine bodyPost_ret (v := .tuple #[.agg #[.int .i64 0, .int .i64 0, .int .i64 0, .int .i64 0], .bool false]) ?_ rfl (quad_no HN.out rfl ?_)
      · simp [results, Tryd.results36, go_sem, r0, r1, r2, r3]
      · have BX := HB3.out
        go_grown
    | some j =>
      obtain ⟨v1, v2⟩ := num_yes (s := ba b) (n := j) (by rw [ba_data]; exact hj)
      have HV1 := hide v1
      have HV2 := hide v2
      have hn' : numsL 120 (Lib.cut s.data.toList [43]).1 = some [x, y, z] := by rw [HR.out]; exact hn
      have hj' : numL (Lib.cut s.data.toList [43]).2.1 = some j := by rw [HR.out]; exact hj
      have HN1 := hide hn'
      have HJ1 := hide hj'
      have HNE := hide hlne
      have HO := hide ho
      clear hn hj v1 v2 ho hlne hn' hj'
      go_wp2_with fail
      refine (impl_readDec (ba b) _ hlb (HP.out.below HB2.out) (HY.out.below HB2.out)).mono ?_
      rintro e w3 ⟨rfl, hb⟩
      rw [HV1.out, HV2.out]
      replace r0 := (hb.cell (p := ⟨w.heap.size, 0, none⟩) hz).trans r0
      replace x0 := ((bcell hb).2 w.heap.size 0 hz).trans x0
      replace r1 := (hb.cell (p := ⟨w.heap.size, 1, none⟩) hz).trans r1
      replace x1 := ((bcell hb).2 w.heap.size 1 hz).trans x1
      replace r2 := (hb.cell (p := ⟨w.heap.size, 2, none⟩) hz).trans r2
      replace x2 := ((bcell hb).2 w.heap.size 2 hz).trans x2
      replace r3 := (hb.cell (p := ⟨w.heap.size, 3, none⟩) hz).trans r3
      replace x3 := ((bcell hb).2 w.heap.size 3 hz).trans x3
      replace hz : w.heap.size < w3.heap.size := Nat.lt_of_lt_of_le hz hb.size
      have HB3 := hide (HB2.out.trans (hb.mono HB2.out.size))
      have hown := (HO.out.below hb).own
      have a0 := (own_int_at hown (i := 0) (x := x) rfl).1
      have a1 := (own_int_at hown (i := 1) (x := y) rfl).1
      have a2 := (own_int_at hown (i := 2) (x := z) rfl).1
      have hgw : w.heap.size < g := by
        have := (own_lt hown).1
        omega
      have hg3 : g < w3.heap.size := (own_lt hown).2
      have hgt : g ≠ w3.heap.size := by omega
      have hwt : w.heap.size ≠ w3.heap.size := by omega
      clear hb hown
      go_wp2
      go_region_held3 (fun w' => w'.cell? ⟨g, 0, none⟩ = some (.int .i64 x) ∧ w'.cell? ⟨g, 1, none⟩ = some (.int .i64 y) ∧ w'.cell? ⟨g, 2, none⟩ = some (.int .i64 z))
        (first
          | go_keep
          | exact ⟨a0, a1, a2⟩)
        (fail)
      go_wp2_with fail
      refine (impl_formatText x y z j _ (HP.out.below (by have BX := HB3.out; go_grown))).mono ?_
      rintro e w5 ⟨rfl, hb⟩
      have f0 := (hb.cell (p := ⟨w3.heap.size, 0, none⟩) (by simp)).trans (show _ = some (.int .i64 x) from by simp [go_sem])
      have f1 := (hb.cell (p := ⟨w3.heap.size, 1, none⟩) (by simp)).trans (show _ = some (.int .i64 y) from by simp [go_sem])
      have f2 := (hb.cell (p := ⟨w3.heap.size, 2, none⟩) (by simp)).trans (show _ = some (.int .i64 z) from by simp [go_sem])
      have f3 := (hb.cell (p := ⟨w3.heap.size, 3, none⟩) (by simp)).trans (show _ = some (.int .i64 j) from by simp [go_sem])
      replace r0 := (hb.cell (p := ⟨w.heap.size, 0, none⟩) (by simp; omega)).trans (show _ = some (.int .i64 0) from by simp [go_sem, hz, r0])
      replace x0 := ((bcell hb).2 w.heap.size 0 (by simp; omega)).trans (show _ = false from by simp [go_sem, hz, x0])
      replace r1 := (hb.cell (p := ⟨w.heap.size, 1, none⟩) (by simp; omega)).trans (show _ = some (.int .i64 0) from by simp [go_sem, hz, r1])
      replace x1 := ((bcell hb).2 w.heap.size 1 (by simp; omega)).trans (show _ = false from by simp [go_sem, hz, x1])
      replace r2 := (hb.cell (p := ⟨w.heap.size, 2, none⟩) (by simp; omega)).trans (show _ = some (.int .i64 0) from by simp [go_sem, hz, r2])
      replace x2 := ((bcell hb).2 w.heap.size 2 (by simp; omega)).trans (show _ = false from by simp [go_sem, hz, x2])
      replace r3 := (hb.cell (p := ⟨w.heap.size, 3, none⟩) (by simp; omega)).trans (show _ = some (.int .i64 0) from by simp [go_sem, hz, r3])
      replace x3 := ((bcell hb).2 w.heap.size 3 (by simp; omega)).trans (show _ = false from by simp [go_sem, hz, x3])
      have HB5 := hide (show Below w.heap.size w w5 from by
        refine Below.trans ?_ (hb.mono (by simp; omega))
        have BX := HB3.out
        go_grown)
      have hz5 : w3.heap.size < w5.heap.size := by have := hb.size; simp at this; omega
      replace hz : w.heap.size < w5.heap.size := by omega
      clear hb a0 a1 a2
      by_cases hq : fmtB x y z j = true ∧ fText x y z j = s.data.toList
      · have HN := hide (fmt_iff.2 hq)
        have HT := hide (fmtT_eq hq)
        have hne : (s.toList != s.toList) = false := by simp
        clear hq
        rw [HT.out]
        go_wp2
        refine bodyPost_ret (v := .tuple #[.agg #[.int .i64 x, .int .i64 y, .int .i64 z, .int .i64 j], .bool true]) ?_ rfl (quad_yes HN.out rfl ?_)
        · simp [results, Tryd.results36, go_sem, r0, r1, r2, r3]
        · have BX := HB5.out
          go_grown
      · have HN := hide (fmt_read HN1.out HJ1.out hq)
        have ht := fmtT_ne HNE.out hq
        have hne : ((fmtT x y z j).toList != s.toList) = true := by
          simp only [bne_iff_ne, ne_eq]
          exact fun q => ht (toList_inj' q)
        have hne2 : ((fmtT x y z j).toList == s.toList) = false := by
          rw [beq_eq_false_iff_ne]
          exact fun q => ht (toList_inj' q)
        clear hq ht
        go_wp2
        refine bodyPost_ret (v := .tuple #[.agg #[.int .i64 0, .int .i64 0, .int .i64 0, .int .i64 0], .bool false]) ?_ rfl (quad_no HN.out rfl ?_)
        · simp [results, Tryd.results36, go_sem, r0, r1, r2, r3]
        · have BX := HB5.out
          go_grown
set_option maxRecDepth 100000 in
set_option maxHeartbeats 4000000 in
theorem impl_readMould (s : ByteArray) (w : World) (hs : s.size ≤ 16777216) (hm : MaxLenIs w) (hp : Pow10 w) (hy : ErrSyn w) :
    Calls Tryd.prog 39 #[.string s] w (QuadPost (mldL s.data.toList) w) := by
  have hMz : 3 < w.heap.size := by obtain ⟨m, hm⟩ := hm; exact cell_lt hm
  have HM := hide hm
  have HP := hide hp
  have HY := hide hy
  clear hm hp hy
  obtain ⟨a, b, p, hr⟩ : ∃ a b p, Lib.cut s.data.toList usedL = (a, b, p) := ⟨_, _, _, rfl⟩
  have hla : (ba a).size ≤ 16777216 := by
    have := (cut_len s.data.toList usedL).1
    rw [hr] at this
    rw [ba_size']
    simp at this
    omega
  have hlb : (ba b).size ≤ 16777216 := by
    have := (cut_len s.data.toList usedL).2
    rw [hr] at this
    rw [ba_size']
    simp at this
    omega
  have HR := hide hr
  clear hr
  have HB0 := hide ((Below.refl w.heap.size w).alloc (Nat.le_refl _) (.cells #[.int .i64 0, .int .i64 0, .int .i64 0, .int .i64 0] 40))
  go_enter Tryd.func39, Tryd.ntmps39
  go_wp2_with fail
  refine (cut_is s ⟨#[32, 117, 115, 101, 100, 32]⟩ _ _ HR.out (by omega) (HM.out.below hMz HB0.out)).mono ?_
  rintro e w1 ⟨rfl, hb⟩
  have r0 := (hb.cell (p := ⟨w.heap.size, 0, none⟩) (by simp)).trans (show _ = some (.int .i64 0) from by simp [go_sem])
  have x0 := ((bcell hb).2 w.heap.size 0 (by simp)).trans (show _ = false from by simp [go_sem])
  have r1 := (hb.cell (p := ⟨w.heap.size, 1, none⟩) (by simp)).trans (show _ = some (.int .i64 0) from by simp [go_sem])
  have x1 := ((bcell hb).2 w.heap.size 1 (by simp)).trans (show _ = false from by simp [go_sem])
  have r2 := (hb.cell (p := ⟨w.heap.size, 2, none⟩) (by simp)).trans (show _ = some (.int .i64 0) from by simp [go_sem])
  have x2 := ((bcell hb).2 w.heap.size 2 (by simp)).trans (show _ = false from by simp [go_sem])
  have r3 := (hb.cell (p := ⟨w.heap.size, 3, none⟩) (by simp)).trans (show _ = some (.int .i64 0) from by simp [go_sem])
  have x3 := ((bcell hb).2 w.heap.size 3 (by simp)).trans (show _ = false from by simp [go_sem])
  have hz : w.heap.size < w1.heap.size := by have := hb.size; simp at this; omega
  have hz1 := hz
  have HB1 := hide (HB0.out.trans (hb.mono (by simp)))
  clear hb
  go_wp2_with fail
  refine (impl_readNums (ba a) _ hla (HM.out.below hMz HB1.out) (HP.out.below HB1.out) (HY.out.below HB1.out)).mono ?_
  rintro e w2 ⟨hb, hcase⟩
  rw [ba_data] at hcase
  replace r0 := (hb.cell (p := ⟨w.heap.size, 0, none⟩) hz).trans r0
  replace x0 := ((bcell hb).2 w.heap.size 0 hz).trans x0
  replace r1 := (hb.cell (p := ⟨w.heap.size, 1, none⟩) hz).trans r1
  replace x1 := ((bcell hb).2 w.heap.size 1 hz).trans x1
  replace r2 := (hb.cell (p := ⟨w.heap.size, 2, none⟩) hz).trans r2
  replace x2 := ((bcell hb).2 w.heap.size 2 hz).trans x2
  replace r3 := (hb.cell (p := ⟨w.heap.size, 3, none⟩) hz).trans r3
  replace x3 := ((bcell hb).2 w.heap.size 3 hz).trans x3
  replace hz : w.heap.size < w2.heap.size := Nat.lt_of_lt_of_le hz hb.size
  have HB2 := hide (HB1.out.trans (hb.mono HB1.out.size))
  clear hb
  rcases hcase with ⟨hn, rfl⟩ | ⟨x, y, z, g, c, hn, rfl, ho⟩
  · have HN := hide (mld_cut (l := s.data.toList) (.inl (by rw [HR.out]; exact hn)))
    clear hn
    go_wp2_with fail
    refine (impl_readDec (ba b) _ hlb (HP.out.below HB2.out) (HY.out.below HB2.out)).mono ?_
    rintro e w3 ⟨rfl, hb⟩
    generalize numV (ba b) = v
    generalize numB (ba b) = t
    replace r0 := (hb.cell (p := ⟨w.heap.size, 0, none⟩) hz).trans r0
    replace x0 := ((bcell hb).2 w.heap.size 0 hz).trans x0
    replace r1 := (hb.cell (p := ⟨w.heap.size, 1, none⟩) hz).trans r1
    replace x1 := ((bcell hb).2 w.heap.size 1 hz).trans x1
    replace r2 := (hb.cell (p := ⟨w.heap.size, 2, none⟩) hz).trans r2
    replace x2 := ((bcell hb).2 w.heap.size 2 hz).trans x2
    replace r3 := (hb.cell (p := ⟨w.heap.size, 3, none⟩) hz).trans r3
    replace x3 := ((bcell hb).2 w.heap.size 3 hz).trans x3
    replace hz : w.heap.size < w3.heap.size := Nat.lt_of_lt_of_le hz hb.size
    have HB3 := hide (HB2.out.trans (hb.mono HB2.out.size))
    clear hb
    go_wp2
    refine bodyPost_ret (v := .tuple #[.agg #[.int .i64 0, .int .i64 0, .int .i64 0, .int .i64 0], .bool false]) ?_ rfl (quad_no HN.out rfl ?_)
    · simp [results, Tryd.results39, go_sem, r0, r1, r2, r3]
    · have BX := HB3.out
      go_grown
  · have hlne := mld_ne (l := s.data.toList) (by rw [HR.out]; exact hn)
    cases hj : numL b with
    | none =>
      have HN := hide (mld_cut (l := s.data.toList) (.inr (by rw [HR.out]; exact hj)))
      obtain ⟨v1, v2⟩ := num_no (s := ba b) (by rw [ba_data]; exact hj)
      have HV1 := hide v1
      have HV2 := hide v2
      clear hn hj v1 v2 ho hlne
      go_wp2_with fail
      refine (impl_readDec (ba b) _ hlb (HP.out.below HB2.out) (HY.out.below HB2.out)).mono ?_
      rintro e w3 ⟨rfl, hb⟩
      rw [HV1.out, HV2.out]
      replace r0 := (hb.cell (p := ⟨w.heap.size, 0, none⟩) hz).trans r0
      replace x0 := ((bcell hb).2 w.heap.size 0 hz).trans x0
      replace r1 := (hb.cell (p := ⟨w.heap.size, 1, none⟩) hz).trans r1
      replace x1 := ((bcell hb).2 w.heap.size 1 hz).trans x1
      replace r2 := (hb.cell (p := ⟨w.heap.size, 2, none⟩) hz).trans r2
      replace x2 := ((bcell hb).2 w.heap.size 2 hz).trans x2
      replace r3 := (hb.cell (p := ⟨w.heap.size, 3, none⟩) hz).trans r3
      replace x3 := ((bcell hb).2 w.heap.size 3 hz).trans x3
      replace hz : w.heap.size < w3.heap.size := Nat.lt_of_lt_of_le hz hb.size
      have HB3 := hide (HB2.out.trans (hb.mono HB2.out.size))
      clear hb
      go_wp2
      refine bodyPost_ret (v := .tuple #[.agg #[.int .i64 0, .int .i64 0, .int .i64 0, .int .i64 0], .bool false]) ?_ rfl (quad_no HN.out rfl ?_)
      · simp [results, Tryd.results39, go_sem, r0, r1, r2, r3]
      · have BX := HB3.out
        go_grown
    | some j =>
      obtain ⟨v1, v2⟩ := num_yes (s := ba b) (n := j) (by rw [ba_data]; exact hj)
      have HV1 := hide v1
      have HV2 := hide v2
      have hn' : numsL 120 (Lib.cut s.data.toList usedL).1 = some [x, y, z] := by rw [HR.out]; exact hn
      have hj' : numL (Lib.cut s.data.toList usedL).2.1 = some j := by rw [HR.out]; exact hj
      have HN1 := hide hn'
      have HJ1 := hide hj'
      have HNE := hide hlne
      have HO := hide ho
      clear hn hj v1 v2 ho hlne hn' hj'
      go_wp2_with fail
      refine (impl_readDec (ba b) _ hlb (HP.out.below HB2.out) (HY.out.below HB2.out)).mono ?_
      rintro e w3 ⟨rfl, hb⟩
      rw [HV1.out, HV2.out]
      replace r0 := (hb.cell (p := ⟨w.heap.size, 0, none⟩) hz).trans r0
      replace x0 := ((bcell hb).2 w.heap.size 0 hz).trans x0
      replace r1 := (hb.cell (p := ⟨w.heap.size, 1, none⟩) hz).trans r1
      replace x1 := ((bcell hb).2 w.heap.size 1 hz).trans x1
      replace r2 := (hb.cell (p := ⟨w.heap.size, 2, none⟩) hz).trans r2
      replace x2 := ((bcell hb).2 w.heap.size 2 hz).trans x2
      replace r3 := (hb.cell (p := ⟨w.heap.size, 3, none⟩) hz).trans r3
      replace x3 := ((bcell hb).2 w.heap.size 3 hz).trans x3
      replace hz : w.heap.size < w3.heap.size := Nat.lt_of_lt_of_le hz hb.size
      have HB3 := hide (HB2.out.trans (hb.mono HB2.out.size))
      have hown := (HO.out.below hb).own
      have a0 := (own_int_at hown (i := 0) (x := x) rfl).1
      have a1 := (own_int_at hown (i := 1) (x := y) rfl).1
      have a2 := (own_int_at hown (i := 2) (x := z) rfl).1
      have hgw : w.heap.size < g := by
        have := (own_lt hown).1
        omega
      have hg3 : g < w3.heap.size := (own_lt hown).2
      have hgt : g ≠ w3.heap.size := by omega
      have hwt : w.heap.size ≠ w3.heap.size := by omega
      clear hb hown
      go_wp2
      go_region_held3 (fun w' => w'.cell? ⟨g, 0, none⟩ = some (.int .i64 x) ∧ w'.cell? ⟨g, 1, none⟩ = some (.int .i64 y) ∧ w'.cell? ⟨g, 2, none⟩ = some (.int .i64 z))
        (first
          | go_keep
          | exact ⟨a0, a1, a2⟩)
        (fail)
      go_wp2_with fail
      refine (impl_mouldText x y z j _ (HP.out.below (by have BX := HB3.out; go_grown))).mono ?_
      rintro e w5 ⟨rfl, hb⟩
      have f0 := (hb.cell (p := ⟨w3.heap.size, 0, none⟩) (by simp)).trans (show _ = some (.int .i64 x) from by simp [go_sem])
      have f1 := (hb.cell (p := ⟨w3.heap.size, 1, none⟩) (by simp)).trans (show _ = some (.int .i64 y) from by simp [go_sem])
      have f2 := (hb.cell (p := ⟨w3.heap.size, 2, none⟩) (by simp)).trans (show _ = some (.int .i64 z) from by simp [go_sem])
      have f3 := (hb.cell (p := ⟨w3.heap.size, 3, none⟩) (by simp)).trans (show _ = some (.int .i64 j) from by simp [go_sem])
      replace r0 := (hb.cell (p := ⟨w.heap.size, 0, none⟩) (by simp; omega)).trans (show _ = some (.int .i64 0) from by simp [go_sem, hz, r0])
      replace x0 := ((bcell hb).2 w.heap.size 0 (by simp; omega)).trans (show _ = false from by simp [go_sem, hz, x0])
      replace r1 := (hb.cell (p := ⟨w.heap.size, 1, none⟩) (by simp; omega)).trans (show _ = some (.int .i64 0) from by simp [go_sem, hz, r1])
      replace x1 := ((bcell hb).2 w.heap.size 1 (by simp; omega)).trans (show _ = false from by simp [go_sem, hz, x1])
      replace r2 := (hb.cell (p := ⟨w.heap.size, 2, none⟩) (by simp; omega)).trans (show _ = some (.int .i64 0) from by simp [go_sem, hz, r2])
      replace x2 := ((bcell hb).2 w.heap.size 2 (by simp; omega)).trans (show _ = false from by simp [go_sem, hz, x2])
      replace r3 := (hb.cell (p := ⟨w.heap.size, 3, none⟩) (by simp; omega)).trans (show _ = some (.int .i64 0) from by simp [go_sem, hz, r3])
      replace x3 := ((bcell hb).2 w.heap.size 3 (by simp; omega)).trans (show _ = false from by simp [go_sem, hz, x3])
      have HB5 := hide (show Below w.heap.size w w5 from by
        refine Below.trans ?_ (hb.mono (by simp; omega))
        have BX := HB3.out
        go_grown)
      have hz5 : w3.heap.size < w5.heap.size := by have := hb.size; simp at this; omega
      replace hz : w.heap.size < w5.heap.size := by omega
      clear hb a0 a1 a2
      by_cases hq : mldB x y z j = true ∧ mText x y z j = s.data.toList
      · have HN := hide (mld_iff.2 hq)
        have HT := hide (mldT_eq hq)
        have hne : (s.toList != s.toList) = false := by simp
        clear hq
        rw [HT.out]
        go_wp2
        refine bodyPost_ret (v := .tuple #[.agg #[.int .i64 x, .int .i64 y, .int .i64 z, .int .i64 j], .bool true]) ?_ rfl (quad_yes HN.out rfl ?_)
        · simp [results, Tryd.results39, go_sem, r0, r1, r2, r3]
        · have BX := HB5.out
          go_grown
      · have HN := hide (mld_read HN1.out HJ1.out hq)
        have ht := mldT_ne HNE.out hq
        have hne : ((mldT x y z j).toList != s.toList) = true := by
          simp only [bne_iff_ne, ne_eq]
          exact fun q => ht (toList_inj' q)
        have hne2 : ((mldT x y z j).toList == s.toList) = false := by
          rw [beq_eq_false_iff_ne]
          exact fun q => ht (toList_inj' q)
        clear hq ht
        go_wp2
        refine bodyPost_ret (v := .tuple #[.agg #[.int .i64 0, .int .i64 0, .int .i64 0, .int .i64 0], .bool false]) ?_ rfl (quad_no HN.out rfl ?_)
        · simp [results, Tryd.results39, go_sem, r0, r1, r2, r3]
        · have BX := HB5.out
          go_grown
end Go.Proofs.YtjoepnmmcagggaaDoor
