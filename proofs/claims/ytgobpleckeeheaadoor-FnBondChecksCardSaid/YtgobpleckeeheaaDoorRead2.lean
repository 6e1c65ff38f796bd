/-
  What is proved: a bond read off a text by the program: the bond of its words where the text has no problems, else none. Condition: a length that fits, the library's own variable holds some number.
-/
import Derived.Test.YtgobpleckeeheaaDoorRead
import Derived.Deep.RegionLaw
namespace Go.Proofs.YtgobpleckeeheaaDoor
open Go.RowKit Go.PlainAid
set_option linter.unusedVariables false

theorem impl_courseOf' (s : ByteArray) (l y : ByteArray) (h : courseOfL s.data.toList = ⟨l, y⟩) (w : World) (hs : s.size ≤ 16777216) (hm : MaxLenIs w) :
    Calls Tryd.prog 19 #[.string s] w fun e w' => e = .returned (.agg #[.string l, .string y]) ∧ Below w.heap.size w w' := by
  have := impl_courseOf s w hs hm
  rw [h] at this
  exact this
theorem first_part (n : Nat) (l : List UInt8) : ∃ w ws, Lib.splitK [32] 0 n l = w :: ws := by
  cases n with
  | zero => exact ⟨l, [], rfl⟩
  | succ n =>
    unfold Lib.splitK
    split
    · exact ⟨_, _, rfl⟩
    · exact ⟨_, _, rfl⟩
set_option maxRecDepth 100000 in
set_option maxHeartbeats 4000000 in
theorem impl_readBond (t : ByteArray) (w : World) (hs : t.size ≤ 1048576) (hm : MaxLenIs w) :
    Calls Tryd.prog 9 #[.string t] w (ReadPost t w) := by
  obtain ⟨i0, hi, hz0, hz1, hz2⟩ := info_parts info_Course
  have HI := hide hi
  have HZ0 := hide hz0
  have HZ1 := hide hz1
  have HZ2 := hide hz2
  have hMz : 0 < w.heap.size := by obtain ⟨m, hm⟩ := hm; exact cell_lt hm
  have HM := hide hm
  clear hi hz0 hz1 hz2 hm
  obtain ⟨nm, ws, hw⟩ := first_part 9 t.data.toList
  have hle : ws.length ≤ 9 := by
    have := splitK_le (c := 32) (k := 9) (l := t.data.toList)
    rw [hw, List.length_cons] at this
    omega
  have HW := hide hw
  clear hw
  have HB0 := hide ((Below.refl w.heap.size w).alloc (Nat.le_refl _) (.cells #[.string ⟨#[]⟩, .slice none 0 0] 26))
  go_enter Tryd.func9, Tryd.ntmps9
  go_wp2_with fail
  refine (splitN_is t 9 _ (by omega) (HM.out.below hMz HB0.out) (by omega)).mono ?_
  rintro e w1 ⟨g, c, rfl, hlc, hrow, hb1⟩
  rw [HW.out] at hlc hrow ⊢
  rw [List.map_cons] at hrow
  rw [List.length_cons] at hlc ⊢
  have HR := hide hrow
  have HB1 := hide (HB0.out.trans (hb1.mono (by simp)))
  have r0 := (hb1.cell (p := ⟨w.heap.size, 0, none⟩) (by simp)).trans (show _ = some (.string ⟨#[]⟩) from by simp [go_sem])
  have r1 := (hb1.cell (p := ⟨w.heap.size, 1, none⟩) (by simp)).trans (show _ = some (.slice none 0 0) from by simp [go_sem])
  have x0 := ((bcell hb1).2 w.heap.size 0 (by simp)).trans (show _ = false from by simp [go_sem])
  have x1 := ((bcell hb1).2 w.heap.size 1 (by simp)).trans (show _ = false from by simp [go_sem])
  have hz : w.heap.size < w1.heap.size := by have := hb1.size; simp at this; omega
  have R0 := hide r0
  have R1 := hide r1
  have X0 := hide x0
  have X1 := hide x1
  obtain ⟨b0, off0, e0, hb0, a0⟩ := row_at_1 (i := 0) hrow rfl rfl
  obtain ⟨rfl, rfl⟩ : b0 = g ∧ off0 = 0 := by injection e0 with e0; injection e0 with e1 e2 e3; exact ⟨e1.symm, e2.symm⟩
  rw [Nat.add_zero] at a0
  have hnn : (0 : Int) < ((ws.length + 1 : Nat) : Int) := by omega
  clear hb1 hrow r0 r1 x0 x1 e0
  by_cases hc1 : c = 1
  · have hw0 : ws.length = 0 := by omega
    go_wp2
    clear a0
    go_loopw [17] (fun i wr => ∃ k : Nat, k ≤ ws.length ∧ i = .int .i64 k ∧ Hid (∃ v, Under w1.heap.size (ba nm) 33 ((ws.map courseOfL).take k) wr v) ∧ Hid (Below w1.heap.size w1 wr)) (fun i _ => ws.length - (intOf i).toNat)
    case atStart => exact ⟨0, by omega, rfl, hide ⟨_, by rw [List.take_zero]; exact Under.start rfl _⟩, hide ((Below.refl _ _).alloc (Nat.le_refl _) _)⟩
    case round =>
      obtain ⟨k, hk, rfl, HU, HB⟩ := hrel
      have hz1 := HB.out.size
      by_cases hlt : k < ws.length
      · omega
      · obtain rfl : k = ws.length := by omega
        obtain ⟨v, hu⟩ := HU.out
        rw [List.take_of_length_le (by rw [List.length_map]; exact Nat.le_refl _)] at hu
        obtain ⟨zs, hzs⟩ : ∃ zs, ws.map courseOfL = zs := ⟨_, rfl⟩
        rw [hzs] at hu
        have HZS := hide hzs
        obtain ⟨A, cp, rfl, hrw, hown⟩ := hu.form
        clear hzs
        have HRW := hide hrw
        have HOW := hide hown
        have g0 := hu.c0
        have g1 := hu.c1
        have hgb := hu.lt
        have HBw := hide (HB1.out.trans (HB.out.mono (Nat.le_of_lt hz)))
        clear hu hrw hown
        by_cases he : t.size = 0
        · have hf := empty_not he
          have HF := hide hf
          have ht := empty_of he
          subst ht
          clear hf he
          have r0 := (HB.out.cell (p := ⟨w.heap.size, 0, none⟩) hz).trans R0.out
          have r1 := (HB.out.cell (p := ⟨w.heap.size, 1, none⟩) hz).trans R1.out
          have x0 := (HB.out.frozen (p := ⟨w.heap.size, 0, none⟩) hz).trans X0.out
          have x1 := (HB.out.frozen (p := ⟨w.heap.size, 1, none⟩) hz).trans X1.out
          go_wp2
          refine bodyPost_ret (v := .tuple #[.agg #[.string ⟨#[]⟩, .slice none 0 0], .bool false]) ?_ rfl (readPost_no HF.out rfl ?_)
          · simp [results, Tryd.results9, go_sem, r0, r1]
          · have BX := HBw.out
            go_grown
        · have em := nonempty_of he
          have HE := hide he
          have hnl : zs.length ≤ 16777216 := by rw [← HZS.out, List.length_map]; omega
          have hTx : Texts zs := fun i z hz' => by
            rw [← HZS.out, List.getElem?_map, Option.map_eq_some_iff] at hz'
            obtain ⟨x, hx, rfl⟩ := hz'
            have h1 := word_size (t := t) (n := 9) (i := i + 1) (x := ba x) (by rw [HW.out]; simp [hx])
            have h2 := course_sizes x
            rw [ba_size] at h1
            unfold maxLen
            omega
          have hnm : (ba nm).size ≤ maxLen := by
            have h1 := word_size (t := t) (n := 9) (i := 0) (x := ba nm) (by rw [HW.out]; rfl)
            unfold maxLen
            omega
          have HTx := hide hTx
          clear he hTx
          by_cases hq : textB (ba nm) zs = t
          · have HF := hide (text_yes HZS.out HW.out HE.out hq)
            have hd : (t.toList != t.toList) = false := by simp
            have HQ := hide hq
            clear hq
            go_wp2_with fail
            refine (impl_bondText (ba nm) A _ cp zs _ hnm hnl rfl HRW.out HTx.out).mono ?_
            rintro e w7 ⟨rfl, hb7⟩
            rw [HQ.out]
            have HB7 := hide (HB.out.trans (hb7.mono hz1))
            have HBz := hide (HBw.out.trans (hb7.mono HBw.out.size))
            replace g0 := (hb7.cell (p := ⟨w1.heap.size, 0, none⟩) hgb).trans g0
            replace g1 := (hb7.cell (p := ⟨w1.heap.size, 1, none⟩) hgb).trans g1
            have HOz := hide (HOW.out.below hb7)
            have hz7 : w.heap.size < w7.heap.size := by have := HB7.out.size; omega
            clear hb7
            have r0 := (HB7.out.cell (p := ⟨w.heap.size, 0, none⟩) hz).trans R0.out
            have r1 := (HB7.out.cell (p := ⟨w.heap.size, 1, none⟩) hz).trans R1.out
            have x0 := (HB7.out.frozen (p := ⟨w.heap.size, 0, none⟩) hz).trans X0.out
            have x1 := (HB7.out.frozen (p := ⟨w.heap.size, 1, none⟩) hz).trans X1.out
            go_wp2
            refine bodyPost_ret (v := .tuple #[.agg #[.string (ba nm), .slice A zs.length cp], .bool true]) ?_ rfl (readPost_yes HF.out rfl ⟨rfl, ?_, ?_, ?_⟩ ?_)
            · simp [results, Tryd.results9, go_sem, r0, r1]
            · exact own_low1' (ownsRow_setCell_below (ownsRow_setCell_below HOz.out.own (a := ⟨w.heap.size, 0, none⟩) (by show w.heap.size < w1.heap.size + 1; omega) _) (a := ⟨w.heap.size, 1, none⟩) (by show w.heap.size < w1.heap.size + 1; omega) _) (by omega)
            · intro a ha
              have := HOz.out.up a ha
              have := HOz.out.hi_le
              simp
              omega
            · simp
            · have BX := HBz.out
              go_grown
          · have hf := text_not HZS.out HW.out hq
            have HF := hide hf
            have hd : ((textB (ba nm) zs).toList != t.toList) = true := by
              simp only [bne_iff_ne]
              intro q
              exact hq (text_inj q)
            have hd2 : ((textB (ba nm) zs).toList == t.toList) = false := by
              rw [beq_eq_false_iff_ne]
              intro q
              exact hq (text_inj q)
            clear hf hq
            go_wp2_with fail
            refine (impl_bondText (ba nm) A _ cp zs _ hnm hnl rfl HRW.out HTx.out).mono ?_
            rintro e w7 ⟨rfl, hb7⟩
            have HB7 := hide (HB.out.trans (hb7.mono hz1))
            have HBz := hide (HBw.out.trans (hb7.mono HBw.out.size))
            have hz7 : w.heap.size < w7.heap.size := by have := HB7.out.size; omega
            clear hb7
            have r0 := (HB7.out.cell (p := ⟨w.heap.size, 0, none⟩) hz).trans R0.out
            have r1 := (HB7.out.cell (p := ⟨w.heap.size, 1, none⟩) hz).trans R1.out
            have x0 := (HB7.out.frozen (p := ⟨w.heap.size, 0, none⟩) hz).trans X0.out
            have x1 := (HB7.out.frozen (p := ⟨w.heap.size, 1, none⟩) hz).trans X1.out
            go_wp2
            refine bodyPost_ret (v := .tuple #[.agg #[.string ⟨#[]⟩, .slice none 0 0], .bool false]) ?_ rfl (readPost_no HF.out rfl ?_)
            · simp [results, Tryd.results9, go_sem, r0, r1]
            · have BX := HBz.out
              go_grown
  · go_wp2
    clear a0
    go_loopw [17] (fun i wr => ∃ k : Nat, k ≤ ws.length ∧ i = .int .i64 k ∧ Hid (∃ v, Under w1.heap.size (ba nm) 33 ((ws.map courseOfL).take k) wr v) ∧ Hid (Below w1.heap.size w1 wr)) (fun i _ => ws.length - (intOf i).toNat)
    case atStart => exact ⟨0, by omega, rfl, hide ⟨_, by rw [List.take_zero]; exact Under.start rfl _⟩, hide ((Below.refl _ _).alloc (Nat.le_refl _) _)⟩
    case round =>
      obtain ⟨k, hk, rfl, HU, HB⟩ := hrel
      have hz1 := HB.out.size
      by_cases hlt : k < ws.length
      · obtain ⟨v, hu⟩ := HU.out
        have HUv := hide hu.drew
        have c1 := hu.c1
        have hgb := hu.lt
        obtain ⟨x, hxk⟩ : ∃ x, ws[k]? = some x := ⟨ws[k], List.getElem?_eq_getElem hlt⟩
        have hx' : (ba nm :: ws.map ba)[k + 1]? = some (ba x) := by simp [hxk]
        obtain ⟨b2, off2, e2, hb2', a1⟩ := row_at_1 (HR.out.below HB.out) hx' rfl
        obtain ⟨rfl, rfl⟩ : b2 = b0 ∧ off2 = 0 := by injection e2 with e2; injection e2 with e1 e3 e4; exact ⟨e1.symm, e3.symm⟩
        rw [show 0 + (k + 1) = 1 + k from by omega] at a1
        have hsx : (ba x).size ≤ 16777216 := Nat.le_trans (word_size (t := t) (n := 9) (i := k + 1) (by rw [HW.out]; exact hx')) (by omega)
        obtain ⟨l, y, hc⟩ : ∃ l y, courseOfL (ba x).data.toList = ⟨l, y⟩ := ⟨_, _, rfl⟩
        have HC := hide hc
        have HT := hide (show (ws.map courseOfL).take (k + 1) = (ws.map courseOfL).take k ++ [⟨l, y⟩] from by
          rw [List.take_add_one, List.getElem?_map, hxk, ← HC.out, ba_data]
          rfl)
        have hlen : ((ws.map courseOfL).take k).length ≤ 9 := by rw [List.length_take, List.length_map]; omega
        clear hu hxk hx' e2 hc
        generalize (ws.map courseOfL).take k = cs at *
        have hki : (k : Int) < (ws.length : Int) := by omega
        go_wp2
        go_region_law
          (first
            | (refine step_append_lies _ (by rfl) _ _ _ (by rfl) (w1.heap.size + 1) 33 i0 _ 2 32 Tryd.underlying24 HI.out HZ0.out HZ1.out HZ2.out rfl (by omega) v cs.length (flat Course.enc cs) (by rfl) (HU2.out.own.alloc _) ⟨w2.heap.size, 0, none⟩ 1 1 [Value.string l, .string y] (by rfl) (by rfl) (course_new_at _ _ _ _ _ rfl) course_one (by omega) (by unfold maxLen; omega) (by omega) (by simp; omega) (w2.heap.size + 1) (by simp) ?_
               intro g2 cap2 w5 hown5 hgrow hat hlt2
               have HUx := hide (HU2.out.more hgrow hown5)
               have hne : some w1.heap.size ≠ v.ownBlock := fun q => by
                 have := (HU2.out.own.lt _ q.symm).1
                 omega
               have t1 := (hgrow.cell_far ⟨w1.heap.size, 1, none⟩ (by simp; omega) hne).trans ((World.cell?_alloc_lt _ _ ⟨w1.heap.size, 1, none⟩ hgb2).trans s1)
               have q1 := (hgrow.frozen_far ⟨w1.heap.size, 1, none⟩ (by simp; omega) hne).trans ((World.frozen?_of_block (w := w2) (a := ⟨w1.heap.size, 1, none⟩) (Below.heap_alloc w2 _ w1.heap.size hgb2)).trans HU2.out.f1)
               have HB5 := hide ((HB2.out.alloc HB2.out.size _).grown hgrow (by simp; omega) (fun j hj => by have := (HU2.out.own.lt j hj).1; omega))
               clear hown5 hgrow hat hne)
            | (go_simp
               go_wp2_with
                 (go_at_call 19
                  refine (impl_courseOf' (ba x) l y HC.out _ hsx (HM.out.below hMz (HB1.out.trans ((show Below w1.heap.size w1 wr.drew from HB.out.drew).mono (Nat.le_of_lt hz))))).mono ?_
                  rintro e w2 ⟨rfl, hb2⟩
                  have HU2 := hide (HUv.out.below hb2)
                  have HB2 := hide (HB.out.drew.trans (hb2.mono hz1))
                  have s1 := HU2.out.c1
                  have hgb2 := HU2.out.lt
                  clear hb2)))
        all_goals
          go_wp2
          go_roundw
          case rel => exact ⟨k + 1, by omega, by go_num, hide ⟨_, by rw [HT.out]; exact HUx.out⟩, hide (HB5.out.setCell (Nat.le_refl _) _)⟩
          case measure => simp [intOf]; omega
      · obtain rfl : k = ws.length := by omega
        obtain ⟨v, hu⟩ := HU.out
        rw [List.take_of_length_le (by rw [List.length_map]; exact Nat.le_refl _)] at hu
        obtain ⟨zs, hzs⟩ : ∃ zs, ws.map courseOfL = zs := ⟨_, rfl⟩
        rw [hzs] at hu
        have HZS := hide hzs
        obtain ⟨A, cp, rfl, hrw, hown⟩ := hu.form
        clear hzs
        have HRW := hide hrw
        have HOW := hide hown
        have g0 := hu.c0
        have g1 := hu.c1
        have hgb := hu.lt
        have HBw := hide (HB1.out.trans (HB.out.mono (Nat.le_of_lt hz)))
        clear hu hrw hown
        by_cases he : t.size = 0
        · have hf := empty_not he
          have HF := hide hf
          have ht := empty_of he
          subst ht
          clear hf he
          have r0 := (HB.out.cell (p := ⟨w.heap.size, 0, none⟩) hz).trans R0.out
          have r1 := (HB.out.cell (p := ⟨w.heap.size, 1, none⟩) hz).trans R1.out
          have x0 := (HB.out.frozen (p := ⟨w.heap.size, 0, none⟩) hz).trans X0.out
          have x1 := (HB.out.frozen (p := ⟨w.heap.size, 1, none⟩) hz).trans X1.out
          go_wp2
          refine bodyPost_ret (v := .tuple #[.agg #[.string ⟨#[]⟩, .slice none 0 0], .bool false]) ?_ rfl (readPost_no HF.out rfl ?_)
          · simp [results, Tryd.results9, go_sem, r0, r1]
          · have BX := HBw.out
            go_grown
        · have em := nonempty_of he
          have HE := hide he
          have hnl : zs.length ≤ 16777216 := by rw [← HZS.out, List.length_map]; omega
          have hTx : Texts zs := fun i z hz' => by
            rw [← HZS.out, List.getElem?_map, Option.map_eq_some_iff] at hz'
            obtain ⟨x, hx, rfl⟩ := hz'
            have h1 := word_size (t := t) (n := 9) (i := i + 1) (x := ba x) (by rw [HW.out]; simp [hx])
            have h2 := course_sizes x
            rw [ba_size] at h1
            unfold maxLen
            omega
          have hnm : (ba nm).size ≤ maxLen := by
            have h1 := word_size (t := t) (n := 9) (i := 0) (x := ba nm) (by rw [HW.out]; rfl)
            unfold maxLen
            omega
          have HTx := hide hTx
          clear he hTx
          by_cases hq : textB (ba nm) zs = t
          · have HF := hide (text_yes HZS.out HW.out HE.out hq)
            have hd : (t.toList != t.toList) = false := by simp
            have HQ := hide hq
            clear hq
            go_wp2_with fail
            refine (impl_bondText (ba nm) A _ cp zs _ hnm hnl rfl HRW.out HTx.out).mono ?_
            rintro e w7 ⟨rfl, hb7⟩
            rw [HQ.out]
            have HB7 := hide (HB.out.trans (hb7.mono hz1))
            have HBz := hide (HBw.out.trans (hb7.mono HBw.out.size))
            replace g0 := (hb7.cell (p := ⟨w1.heap.size, 0, none⟩) hgb).trans g0
            replace g1 := (hb7.cell (p := ⟨w1.heap.size, 1, none⟩) hgb).trans g1
            have HOz := hide (HOW.out.below hb7)
            have hz7 : w.heap.size < w7.heap.size := by have := HB7.out.size; omega
            clear hb7
            have r0 := (HB7.out.cell (p := ⟨w.heap.size, 0, none⟩) hz).trans R0.out
            have r1 := (HB7.out.cell (p := ⟨w.heap.size, 1, none⟩) hz).trans R1.out
            have x0 := (HB7.out.frozen (p := ⟨w.heap.size, 0, none⟩) hz).trans X0.out
            have x1 := (HB7.out.frozen (p := ⟨w.heap.size, 1, none⟩) hz).trans X1.out
            go_wp2
            refine bodyPost_ret (v := .tuple #[.agg #[.string (ba nm), .slice A zs.length cp], .bool true]) ?_ rfl (readPost_yes HF.out rfl ⟨rfl, ?_, ?_, ?_⟩ ?_)
            · simp [results, Tryd.results9, go_sem, r0, r1]
            · exact own_low1' (ownsRow_setCell_below (ownsRow_setCell_below HOz.out.own (a := ⟨w.heap.size, 0, none⟩) (by show w.heap.size < w1.heap.size + 1; omega) _) (a := ⟨w.heap.size, 1, none⟩) (by show w.heap.size < w1.heap.size + 1; omega) _) (by omega)
            · intro a ha
              have := HOz.out.up a ha
              have := HOz.out.hi_le
              simp
              omega
            · simp
            · have BX := HBz.out
              go_grown
          · have hf := text_not HZS.out HW.out hq
            have HF := hide hf
            have hd : ((textB (ba nm) zs).toList != t.toList) = true := by
              simp only [bne_iff_ne]
              intro q
              exact hq (text_inj q)
            have hd2 : ((textB (ba nm) zs).toList == t.toList) = false := by
              rw [beq_eq_false_iff_ne]
              intro q
              exact hq (text_inj q)
            clear hf hq
            go_wp2_with fail
            refine (impl_bondText (ba nm) A _ cp zs _ hnm hnl rfl HRW.out HTx.out).mono ?_
            rintro e w7 ⟨rfl, hb7⟩
            have HB7 := hide (HB.out.trans (hb7.mono hz1))
            have HBz := hide (HBw.out.trans (hb7.mono HBw.out.size))
            have hz7 : w.heap.size < w7.heap.size := by have := HB7.out.size; omega
            clear hb7
            have r0 := (HB7.out.cell (p := ⟨w.heap.size, 0, none⟩) hz).trans R0.out
            have r1 := (HB7.out.cell (p := ⟨w.heap.size, 1, none⟩) hz).trans R1.out
            have x0 := (HB7.out.frozen (p := ⟨w.heap.size, 0, none⟩) hz).trans X0.out
            have x1 := (HB7.out.frozen (p := ⟨w.heap.size, 1, none⟩) hz).trans X1.out
            go_wp2
            refine bodyPost_ret (v := .tuple #[.agg #[.string ⟨#[]⟩, .slice none 0 0], .bool false]) ?_ rfl (readPost_no HF.out rfl ?_)
            · simp [results, Tryd.results9, go_sem, r0, r1]
            · have BX := HBz.out
              go_grown
end Go.Proofs.YtgobpleckeeheaaDoor
