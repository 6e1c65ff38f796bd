/-
  What is proved: a text's bond and its problems, of the reference. Condition: a length that fits.
-/
import Derived.Test.YtgobpleckeeheaaDoorWord
import Derived.Test.YtgobpleckeeheaaDoorUnder
import Derived.Deep.DeepCutAuto
namespace Go.Proofs.YtgobpleckeeheaaDoor
open Go.RowKit Go.PlainAid
set_option linter.unusedVariables false

structure Prob where
  wd : Int
  kd : Int
def Prob.enc (p : Prob) : List Value := [.int .i64 p.wd, .int .i64 p.kd]
def badTo (ws : List (List UInt8)) (k : Nat) : List Prob := ((List.range k).filter fun i => badAt ws i != 0).map fun i : Nat => ⟨(i : Int), badAt ws i⟩
def okTo (ws : List (List UInt8)) (k : Nat) : List Course := ((List.range k).filter fun i => i != 0 && badAt ws i == 0).map fun i => courseOfL ((ws[i]?).getD [])
def bads (t : ByteArray) : List Prob := badTo (spl 32 t.data.toList) (spl 32 t.data.toList).length
theorem badTo_yes {ws : List (List UInt8)} {k : Nat} (h : ¬ badAt ws k = 0) : badTo ws (k + 1) = badTo ws k ++ [⟨(k : Int), badAt ws k⟩] := by
  unfold badTo
  rw [List.range_succ, List.filter_append, List.map_append]
  simp [h]
theorem badTo_no {ws : List (List UInt8)} {k : Nat} (h : badAt ws k = 0) : badTo ws (k + 1) = badTo ws k := by
  unfold badTo
  rw [List.range_succ, List.filter_append, List.map_append]
  simp [h]
theorem badTo_len (ws : List (List UInt8)) (k : Nat) : (badTo ws k).length ≤ k := by
  unfold badTo
  rw [List.length_map]
  exact Nat.le_trans (List.length_filter_le _ _) (by rw [List.length_range]; exact Nat.le_refl _)
theorem okTo_yes {ws : List (List UInt8)} {k : Nat} {x : List UInt8} (h0 : ¬ k = 0) (h : badAt ws k = 0) (hx : ws[k]? = some x) : okTo ws (k + 1) = okTo ws k ++ [courseOfL x] := by
  unfold okTo
  rw [List.range_succ, List.filter_append, List.map_append]
  simp [h, h0, hx]
theorem okTo_no {ws : List (List UInt8)} {k : Nat} (h : ¬ badAt ws k = 0) : okTo ws (k + 1) = okTo ws k := by
  unfold okTo
  rw [List.range_succ, List.filter_append, List.map_append]
  simp [h]
theorem okTo_len (ws : List (List UInt8)) (k : Nat) : (okTo ws k).length ≤ k := by
  unfold okTo
  rw [List.length_map]
  exact Nat.le_trans (List.length_filter_le _ _) (by rw [List.length_range]; exact Nat.le_refl _)
theorem badTo_nil {ws : List (List UInt8)} : badTo ws ws.length = [] ↔ noBad ws := by
  unfold badTo noBad
  rw [List.map_eq_nil_iff, List.filter_eq_nil_iff]
  constructor
  · intro h i hi
    have := h i (List.mem_range.2 hi)
    simpa using this
  · intro h i hi
    have := h i (List.mem_range.1 hi)
    simpa using this
theorem okTo_all {ws : List (List UInt8)} (hn : ws ≠ []) (h : noBad ws) : okTo ws ws.length = coursesL ws := by
  obtain ⟨w, vs, rfl⟩ : ∃ w vs, ws = w :: vs := by
    cases ws with
    | nil => exact absurd rfl hn
    | cons w vs => exact ⟨w, vs, rfl⟩
  have key : ∀ k, k ≤ vs.length → okTo (w :: vs) (k + 1) = (vs.take k).map courseOfL := by
    intro k
    induction k with
    | zero =>
      intro _
      unfold okTo
      simp
    | succ k ih =>
      intro hk
      have hx : (w :: vs)[k + 1]? = some vs[k] := by
        rw [List.getElem?_cons_succ]
        exact List.getElem?_eq_getElem (by omega)
      rw [okTo_yes (by omega) (h (k + 1) (by rw [List.length_cons]; omega)) hx, ih (by omega), List.take_succ_eq_append_getElem (by omega), List.map_append]
      rfl
  rw [List.length_cons, key vs.length (Nat.le_refl _), List.take_length]
  rfl
theorem bads_nil {t : ByteArray} : bads t = [] ↔ okT t = true := by
  rw [okT_iff]
  exact badTo_nil
theorem first_word (s : ByteArray) : ∃ w ws, spl 32 s.data.toList = w :: ws := by
  cases hs : spl 32 s.data.toList with
  | nil => exact absurd hs (spl_ne _ _)
  | cons w ws => exact ⟨w, ws, rfl⟩
theorem badAt_zero {w : List UInt8} {ws : List (List UInt8)} : badAt (w :: ws) 0 = if ws.length = 0 then 1 else if nameB (ba w) = true then 0 else 2 := by
  unfold badAt
  rw [if_pos rfl, List.length_cons, List.headD_cons]
  by_cases h : ws.length = 0
  · rw [if_pos (by omega), if_pos h]
  · rw [if_neg (by omega), if_neg h]
theorem badAt_many {ws : List (List UInt8)} {k : Nat} (h : 8 < k) : badAt ws k = 6 := by unfold badAt; rw [if_neg (by omega), if_pos h]
theorem badAt_word {ws : List (List UInt8)} {k : Nat} {x : List UInt8} (h0 : ¬ k = 0) (h : ¬ 8 < k) (hx : ws[k]? = some x) : badAt ws k = kindL x := by unfold badAt; rw [if_neg h0, if_neg h, hx]; rfl
theorem part_size {s : ByteArray} {i : Nat} {x : List UInt8} (h : (spl 32 s.data.toList)[i]? = some x) : x.length ≤ s.size := by
  have e : spl 32 s.data.toList = Lib.splitK [32] 0 s.size s.data.toList := (splitK_all (by have := spl_count 32 s.data.toList; rw [data_size] at this; exact this)).symm
  rw [e] at h
  rw [← data_size s]
  exact split_len (List.mem_of_getElem? h)
theorem info_Prob : (Tryd.prog.info? 40).map (fun i => (i.zero, i.size, i.bytes)) = some (some (.agg #[.int .i64 0, .int .i64 0]), 2, 16) := by kernel_rfl
theorem prob_new_at (w : World) (l y : Int) (t : TypeId) (s : Nat) (hs : w.heap.size = s) : ∀ (j : Nat) (u : Value), [Value.int .i64 l, .int .i64 y][j]? = some u → (w.alloc (.cells #[.int .i64 l, .int .i64 y] t)).cell? ((⟨s, 0, none⟩ : Addr).add j) = some u := by
  subst hs
  intro j u hj
  match j, hj with
  | 0, hj => obtain rfl := Option.some.inj hj; simp [Addr.add, World.cell?_alloc_new]
  | 1, hj => obtain rfl := Option.some.inj hj; simp [Addr.add, World.cell?_alloc_new]
theorem prob_one {l y : Int} : ∀ u ∈ [Value.int .i64 l, .int .i64 y], u.oneCell' = true := fun x hx => by
  simp at hx
  rcases hx with rfl | rfl <;> rfl
theorem own_push_prob {w : World} {base n : Nat} {t : TypeId} {v : Value} {xs ys : List Prob} {l y : Int} (h : w.ownsRow base t 2 v n (flat Prob.enc xs ++ [Value.int .i64 l, .int .i64 y])) (hy : ys = xs ++ [⟨l, y⟩]) : w.ownsRow base t 2 v n (flat Prob.enc ys) := by
  subst hy
  rw [flat_append]
  exact h
theorem word_at (s l y : ByteArray) (k : Int) (hc : wordC s.data.toList = ⟨l, y⟩) (hk : kindL s.data.toList = k) (w : World) (hs : s.size ≤ 1048576) : Calls Tryd.prog 51 #[.string s] w fun e w' => e = .returned (.tuple #[.agg #[.string l, .string y], .int .i64 k]) ∧ Below w.heap.size w w' :=
  (spec_l04Word s w hs).mono fun e w' h => by
    unfold WordPost at h
    rw [hc, hk] at h
    exact h
/-- What the check of a text gives. -/
def CheckPost (t : ByteArray) (w : World) (e : Ending) (w' : World) : Prop := ∃ A' c' B' d', e = .returned (.tuple #[.agg #[.string (readN t), .slice A' (readZ t).length c'], .slice B' (bads t).length d']) ∧ Own 33 2 Course.enc w' w.heap.size w'.heap.size A' (readZ t).length c' (readZ t) ∧ Own 40 2 Prob.enc w' w.heap.size w'.heap.size B' (bads t).length d' (bads t) ∧ Below w.heap.size w w'
set_option maxRecDepth 100000 in
set_option maxHeartbeats 8000000 in
theorem spec_l04Check (t : ByteArray) (w : World) (hs : t.size ≤ 1048576) : Calls Tryd.prog 36 #[.string t] w (CheckPost t w) := by
  obtain ⟨i0, hi, hz0, hz1, hz2⟩ := info_parts info_Course
  obtain ⟨j0, hj, hy0, hy1, hy2⟩ := info_parts info_Prob
  have HI := hide hi
  have HZ0 := hide hz0
  have HZ1 := hide hz1
  have HZ2 := hide hz2
  have HJ := hide hj
  have HY0 := hide hy0
  have HY1 := hide hy1
  have HY2 := hide hy2
  clear hi hz0 hz1 hz2 hj hy0 hy1 hy2
  obtain ⟨nm, ws, hw⟩ := first_word t
  have hle : ws.length ≤ t.size := by
    have := spl_count 32 t.data.toList
    rw [hw, List.length_cons, data_size] at this
    omega
  have hsp : splB 32 t = ba nm :: ws.map ba := by unfold splB; rw [hw]; rfl
  have HW := hide hw
  have HSP := hide hsp
  have HB0 := hide ((Below.refl w.heap.size w).alloc (Nat.le_refl _) (.cells #[.string ⟨#[]⟩, .slice none 0 0] 26))
  have hnz : (ba nm).size ≤ maxLen := by
    have := part_size (s := t) (i := 0) (x := nm) (by rw [hw]; rfl)
    rw [ba_size]
    unfold maxLen
    omega
  clear hw hsp
  go_enter Tryd.func36, Tryd.ntmps36
  go_wp2_with fail
  refine (spec_l01Split t 32 32 _ rfl (by omega)).mono ?_
  rintro e w1 ⟨A, C, rfl, ho, hb1⟩
  have hrow : Row encS 1 w1 A (splB 32 t) := ho.row (fun _ => rfl)
  rw [HSP.out] at hrow ⊢
  rw [List.length_cons, List.length_map]
  have HR := hide hrow
  have HB1 := hide (HB0.out.trans (hb1.mono (by simp)))
  have R0 := hide ((hb1.cell (p := ⟨w.heap.size, 0, none⟩) (by simp)).trans (show _ = some (.string ⟨#[]⟩) from by simp [go_sem]))
  have R1 := hide ((hb1.cell (p := ⟨w.heap.size, 1, none⟩) (by simp)).trans (show _ = some (.slice none 0 0) from by simp [go_sem]))
  have X0 := hide (((bcell hb1).2 w.heap.size 0 (by simp)).trans (show _ = false from by simp [go_sem]))
  have X1 := hide (((bcell hb1).2 w.heap.size 1 (by simp)).trans (show _ = false from by simp [go_sem]))
  have hz : w.heap.size < w1.heap.size := by have := hb1.size; simp at this; omega
  obtain ⟨b0, off0, rfl, hb0, a0⟩ := row_at_1 (i := 0) hrow rfl rfl
  rw [Nat.add_zero] at a0
  clear hb1 hrow ho
  have HU0 := hide (Under.start (gb := w1.heap.size) (nm := ba nm) (t := 33) (w := w1) rfl 26)
  have hbl := (Below.refl w1.heap.size w1).alloc (Nat.le_refl _) (.cells #[.string (ba nm), .slice none 0 0] 26)
  have HE0 := hide (own_empty_here (w1.alloc (.cells #[.string (ba nm), .slice none 0 0] 26)) (w1.heap.size + 1) 2 40 (w1.heap.size + 1) (by simp) (by simp))
  have HU1 := hide (HU0.out.below ((Below.refl _ _).alloc (Nat.le_refl _) (.cells #[] 40)))
  have HBL := hide (hbl.alloc (by simp) (.cells #[] 40))
  have hlen0 : (0 : Int) < ((ws.length + 1 : Nat) : Int) := by omega
  clear hbl
  obtain ⟨tb, htb⟩ : ∃ tb, ((ws.length : Int) + 1 == 1) = tb := ⟨_, rfl⟩
  have HTB := hide htb
  go_upto_if 19 with fail
  clear htb
  go_cut [6] (fun v wx => Hid (∃ u, Under w1.heap.size (ba nm) 33 (okTo (nm :: ws) 1) wx u ∧ u.ownBlock = none) ∧ Hid (wx.ownsRow (w1.heap.size + 1) 40 2 v (badTo (nm :: ws) 1).length (flat Prob.enc (badTo (nm :: ws) 1))) ∧ Hid (Below w1.heap.size w1 wx))
  case first =>
    cases tb with
    | true =>
      have hn : ws.length = 0 := by
        have := eq_of_beq HTB.out
        omega
      have HBT := hide (show badTo (nm :: ws) 1 = [⟨0, 1⟩] from by rw [show (1 : Nat) = 0 + 1 from rfl, badTo_yes (by rw [badAt_zero, if_pos hn]; decide), badAt_zero, if_pos hn]; rfl)
      clear hn
      go_wp2_with (at_builtin; refine wpList_append_lies _ rfl _ _ _ rfl (w1.heap.size + 1) 40 j0 _ 2 16 Tryd.underlying34 HJ.out HY0.out HY1.out HY2.out rfl (by omega) (.slice (some ⟨w1.heap.size + 1, 0, none⟩) 0 0) 0 (flat Prob.enc []) rfl (HE0.out.alloc _) ⟨(w1.heap.size + 1 + 1), 0, none⟩ 1 1 [Value.int .i64 0, .int .i64 1] rfl rfl (prob_new_at _ _ _ _ _ (by simp)) prob_one (by omega) (by unfold maxLen; omega) (by omega) (by simp <;> omega) ((w1.heap.size + 1 + 1) + 1) (by simp) ?_; intro g2 cap2 w5 hown5 hgrow hat hlt2)
      have HV0 := hide (show w5.ownsRow (w1.heap.size + 1) 40 2 (.slice (some ⟨g2, 0, none⟩) (0 + 1) cap2) (badTo (nm :: ws) 1).length (flat Prob.enc (badTo (nm :: ws) 1)) from by
        rw [HBT.out]
        exact own_push_prob hown5 rfl)
      have HUS := hide ((HU1.out.below ((Below.refl _ _).alloc (Nat.le_refl _) (.cells #[.int .i64 0, .int .i64 1] 40))).grown hgrow (by simp [Value.ownBlock]) (fun j hj ho => by simp [Value.ownBlock] at ho))
      have HBS := hide ((HBL.out.alloc HBL.out.size (.cells #[.int .i64 0, .int .i64 1] 40)).grown hgrow (by simp <;> omega) (fun j hj => by simp [Value.ownBlock] at hj; omega))
      clear hown5 hgrow hat
      go_wp2_with fail
      go_meet
      exact ⟨hide ⟨_, HUS.out, rfl⟩, HV0, HBS⟩
    | false =>
      have hn : ¬ ws.length = 0 := fun q => by
        have := HTB.out
        rw [q] at this
        cases this
      by_cases hname : nameB (ba nm) = true
      · have HBT := hide (show badTo (nm :: ws) 1 = [] from by rw [show (1 : Nat) = 0 + 1 from rfl, badTo_no (by rw [badAt_zero, if_neg hn, if_pos hname])]; rfl)
        go_wp2_with fail
        refine (spec_isName (ba nm) _ hnz).mono ?_
        rintro e w9 ⟨rfl, rfl⟩
        rw [hname]
        go_wp2_with fail
        go_meet
        exact ⟨hide ⟨_, HU1.out, rfl⟩, hide (by rw [HBT.out]; exact HE0.out), HBL⟩
      · have hname' : nameB (ba nm) = false := by simpa using hname
        have HBT := hide (show badTo (nm :: ws) 1 = [⟨0, 2⟩] from by rw [show (1 : Nat) = 0 + 1 from rfl, badTo_yes (by rw [badAt_zero, if_neg hn, if_neg hname]; decide), badAt_zero, if_neg hn, if_neg hname]; rfl)
        clear hn hname
        go_wp2_with fail
        refine (spec_isName (ba nm) _ hnz).mono ?_
        rintro e w9 ⟨rfl, rfl⟩
        rw [hname']
        go_wp2_with (at_builtin; refine wpList_append_lies _ rfl _ _ _ rfl (w1.heap.size + 1) 40 j0 _ 2 16 Tryd.underlying34 HJ.out HY0.out HY1.out HY2.out rfl (by omega) (.slice (some ⟨w1.heap.size + 1, 0, none⟩) 0 0) 0 (flat Prob.enc []) rfl (HE0.out.alloc _) ⟨(w1.heap.size + 1 + 1), 0, none⟩ 1 1 [Value.int .i64 0, .int .i64 2] rfl rfl (prob_new_at _ _ _ _ _ (by simp)) prob_one (by omega) (by unfold maxLen; omega) (by omega) (by simp <;> omega) ((w1.heap.size + 1 + 1) + 1) (by simp) ?_; intro g2 cap2 w5 hown5 hgrow hat hlt2)
        have HV0 := hide (show w5.ownsRow (w1.heap.size + 1) 40 2 (.slice (some ⟨g2, 0, none⟩) (0 + 1) cap2) (badTo (nm :: ws) 1).length (flat Prob.enc (badTo (nm :: ws) 1)) from by
          rw [HBT.out]
          exact own_push_prob hown5 rfl)
        have HUS := hide ((HU1.out.below ((Below.refl _ _).alloc (Nat.le_refl _) (.cells #[.int .i64 0, .int .i64 2] 40))).grown hgrow (by simp [Value.ownBlock]) (fun j hj ho => by simp [Value.ownBlock] at ho))
        have HBS := hide ((HBL.out.alloc HBL.out.size (.cells #[.int .i64 0, .int .i64 2] 40)).grown hgrow (by simp <;> omega) (fun j hj => by simp [Value.ownBlock] at hj; omega))
        clear hown5 hgrow hat
        go_wp2_with fail
        go_meet
        exact ⟨hide ⟨_, HUS.out, rfl⟩, HV0, HBS⟩
  case rest =>
    clear HU0 HU1 HE0 HBL HTB
    obtain ⟨HUS, HV0, HBS⟩ := hcut
    go_wp2
    clear a0
    go_loopw [6, 7] (fun u6 i wr => ∃ k : Nat, 1 ≤ k ∧ k ≤ ws.length + 1 ∧ i = .int .i64 k ∧ Hid (∃ u, Under w1.heap.size (ba nm) 33 (okTo (nm :: ws) k) wr u ∧ (∀ j, u6.ownBlock = some j → u.ownBlock = some j → False)) ∧ Hid (wr.ownsRow (w1.heap.size + 1) 40 2 u6 (badTo (nm :: ws) k).length (flat Prob.enc (badTo (nm :: ws) k))) ∧ Hid (Below w1.heap.size w1 wr)) (fun _ i _ => ws.length + 1 - (intOf i).toNat)
    case atStart =>
      obtain ⟨u, hu, hun⟩ := HUS.out
      exact ⟨1, by omega, by omega, rfl, hide ⟨u, hu, fun j h1 h2 => by rw [hun] at h2; cases h2⟩, HV0, HBS⟩
    case round =>
      clear HUS HV0 HBS
      obtain ⟨k, hk1, hk, rfl, HU, HO, HB⟩ := hrel
      have hz1 := HB.out.size
      have hbl := badTo_len (nm :: ws) k
      have hol := okTo_len (nm :: ws) k
      by_cases hlt : k < ws.length + 1
      · obtain ⟨u, hu, hdis⟩ := HU.out
        have HUv := hide hu
        have HD := hide hdis
        have hgb := hu.lt
        obtain ⟨x, hxk⟩ : ∃ x, (nm :: ws)[k]? = some x := ⟨(nm :: ws)[k]'(by rw [List.length_cons]; exact hlt), List.getElem?_eq_getElem _⟩
        have hx' : (ba nm :: ws.map ba)[k]? = some (ba x) := by
          rw [show ba nm :: ws.map ba = (nm :: ws).map ba from rfl, List.getElem?_map, hxk]
          rfl
        obtain ⟨b2, off2, e2, hb2', a1⟩ := row_at_1 (HR.out.below HB.out) hx' rfl
        obtain ⟨rfl, rfl⟩ : b2 = b0 ∧ off2 = off0 := by injection e2 with e2; injection e2 with e1 e3 e4; exact ⟨e1.symm, e3.symm⟩
        have hsx : (ba x).size ≤ 1048576 := by
          have := part_size (s := t) (i := k) (x := x) (by rw [HW.out]; exact hxk)
          rw [ba_size]
          omega
        have HX := hide hxk
        have hdx : (ba x).data.toList = x := ba_data x
        have HDX := hide hdx
        clear hu hdis hxk hx' e2 hdx
        have hki : (k : Int) < ((ws.length + 1 : Nat) : Int) := by omega
        obtain ⟨l, y, hwc⟩ : ∃ l y, wordC (ba x).data.toList = ⟨l, y⟩ := ⟨_, _, rfl⟩
        obtain ⟨kd, hkd⟩ : ∃ kd, kindL (ba x).data.toList = kd := ⟨_, rfl⟩
        have hkx : kindL x = kd := by rw [← HDX.out]; exact hkd
        have HWC := hide hwc
        have HKD := hide hkd
        clear hwc hkd
        obtain ⟨m, hm⟩ : ∃ m, (badTo (nm :: ws) k).length = m := ⟨_, rfl⟩
        rw [hm] at HO hbl
        have HMm := hide hm
        clear hm
        by_cases h8 : 8 < k
        · have hbk := badAt_many (ws := nm :: ws) h8
          have HBT := hide (show badTo (nm :: ws) (k + 1) = badTo (nm :: ws) k ++ [⟨(k : Int), 6⟩] from by rw [badTo_yes (by omega), hbk])
          have HKT := hide (okTo_no (ws := nm :: ws) (k := k) (by omega))
          clear hbk hkx
          go_wp2_with fail
          refine (word_at (ba x) l y kd HWC.out HKD.out _ hsx).mono ?_
          rintro e w2 ⟨rfl, hb2⟩
          have HU2 := hide (HUv.out.below hb2)
          have HO2 := hide (own_below HO.out hb2)
          have HB2 := hide (HB.out.trans (hb2.mono hz1))
          have hgb2 := HU2.out.lt
          clear hb2
          go_wp2_with (at_builtin; refine wpList_append_lies _ rfl _ _ _ rfl (w1.heap.size + 1) 40 j0 _ 2 16 Tryd.underlying34 HJ.out HY0.out HY1.out HY2.out rfl (by omega) u6 m (flat Prob.enc (badTo (nm :: ws) k)) rfl ((HO2.out.alloc _).alloc _) ⟨w2.heap.size + 1, 0, none⟩ 1 1 [Value.int .i64 k, .int .i64 6] rfl rfl (prob_new_at _ _ _ _ _ (by simp)) prob_one (by omega) (by unfold maxLen; omega) (by omega) (by simp; omega) (w2.heap.size + 1 + 1) (by simp) ?_; intro g2 cap2 w5 hown5 hgrow hat hlt2)
          have HV5 := hide (show w5.ownsRow (w1.heap.size + 1) 40 2 (.slice (some ⟨g2, 0, none⟩) (m + 1) cap2) (badTo (nm :: ws) (k + 1)).length (flat Prob.enc (badTo (nm :: ws) (k + 1))) from by
            rw [HBT.out, List.length_append, HMm.out]
            exact own_push_prob hown5 rfl)
          have hfar : some w1.heap.size ≠ u6.ownBlock := fun q => by
            have := (HO.out.lt _ q.symm).1
            omega
          have HU5 := hide (((HU2.out.below ((Below.refl _ _).alloc (Nat.le_refl _) (.cells #[.string l, .string y] 33))).below ((Below.refl _ _).alloc (Nat.le_refl _) (.cells #[.int .i64 k, .int .i64 6] 40))).grown hgrow hfar (fun j h1 h2 => HD.out j h1 h2))
          have HB5 := hide (((HB2.out.alloc HB2.out.size (.cells #[.string l, .string y] 33)).alloc (by simp; omega) (.cells #[.int .i64 k, .int .i64 6] 40)).grown hgrow (by simp; omega) (fun j hj => by have := (HO.out.lt j hj).1; omega))
          have HD5 := hide (show ∀ j, (Value.slice (some ⟨g2, 0, none⟩) (m + 1) cap2).ownBlock = some j → u.ownBlock = some j → False from fun j h1 h2 => by
            simp only [Value.ownBlock] at h1
            obtain rfl := Option.some.inj h1
            rcases hat with hat | hat
            · exact HD.out _ hat h2
            · have := (HU2.out.own.lt _ h2).2
              omega)
          clear hown5 hgrow hat hfar
          go_roundw
          case rel => exact ⟨k + 1, by omega, by omega, by go_num, hide ⟨u, by rw [HKT.out]; exact HU5.out, HD5.out⟩, HV5, HB5⟩
          case measure => simp [intOf]; omega
        by_cases h0 : kd = 0
        case neg =>
          have hbk := (badAt_word (ws := nm :: ws) (by omega) h8 HX.out).trans hkx
          have HBT := hide (show badTo (nm :: ws) (k + 1) = badTo (nm :: ws) k ++ [⟨(k : Int), kd⟩] from by rw [badTo_yes (by omega), hbk])
          have HKT := hide (okTo_no (ws := nm :: ws) (k := k) (by omega))
          have hk0 : (kd != 0) = true := by simpa using h0
          clear hbk hkx h0
          go_wp2_with fail
          refine (word_at (ba x) l y kd HWC.out HKD.out _ hsx).mono ?_
          rintro e w2 ⟨rfl, hb2⟩
          have HU2 := hide (HUv.out.below hb2)
          have HO2 := hide (own_below HO.out hb2)
          have HB2 := hide (HB.out.trans (hb2.mono hz1))
          have hgb2 := HU2.out.lt
          clear hb2
          go_wp2_with (at_builtin; refine wpList_append_lies _ rfl _ _ _ rfl (w1.heap.size + 1) 40 j0 _ 2 16 Tryd.underlying34 HJ.out HY0.out HY1.out HY2.out rfl (by omega) u6 m (flat Prob.enc (badTo (nm :: ws) k)) rfl ((HO2.out.alloc _).alloc _) ⟨w2.heap.size + 1, 0, none⟩ 1 1 [Value.int .i64 k, .int .i64 kd] rfl rfl (prob_new_at _ _ _ _ _ (by simp)) prob_one (by omega) (by unfold maxLen; omega) (by omega) (by simp; omega) (w2.heap.size + 1 + 1) (by simp) ?_; intro g2 cap2 w5 hown5 hgrow hat hlt2)
          have HV5 := hide (show w5.ownsRow (w1.heap.size + 1) 40 2 (.slice (some ⟨g2, 0, none⟩) (m + 1) cap2) (badTo (nm :: ws) (k + 1)).length (flat Prob.enc (badTo (nm :: ws) (k + 1))) from by
            rw [HBT.out, List.length_append, HMm.out]
            exact own_push_prob hown5 rfl)
          have hfar : some w1.heap.size ≠ u6.ownBlock := fun q => by
            have := (HO.out.lt _ q.symm).1
            omega
          have HU5 := hide (((HU2.out.below ((Below.refl _ _).alloc (Nat.le_refl _) (.cells #[.string l, .string y] 33))).below ((Below.refl _ _).alloc (Nat.le_refl _) (.cells #[.int .i64 k, .int .i64 kd] 40))).grown hgrow hfar (fun j h1 h2 => HD.out j h1 h2))
          have HB5 := hide (((HB2.out.alloc HB2.out.size (.cells #[.string l, .string y] 33)).alloc (by simp; omega) (.cells #[.int .i64 k, .int .i64 kd] 40)).grown hgrow (by simp; omega) (fun j hj => by have := (HO.out.lt j hj).1; omega))
          have HD5 := hide (show ∀ j, (Value.slice (some ⟨g2, 0, none⟩) (m + 1) cap2).ownBlock = some j → u.ownBlock = some j → False from fun j h1 h2 => by
            simp only [Value.ownBlock] at h1
            obtain rfl := Option.some.inj h1
            rcases hat with hat | hat
            · exact HD.out _ hat h2
            · have := (HU2.out.own.lt _ h2).2
              omega)
          clear hown5 hgrow hat hfar
          go_roundw
          case rel => exact ⟨k + 1, by omega, by omega, by go_num, hide ⟨u, by rw [HKT.out]; exact HU5.out, HD5.out⟩, HV5, HB5⟩
          case measure => simp [intOf]; omega
        have hbk : badAt (nm :: ws) k = 0 := (badAt_word (ws := nm :: ws) (by omega) h8 HX.out).trans (hkx.trans h0)
        have HBT := hide (badTo_no hbk)
        have HKT := hide (show okTo (nm :: ws) (k + 1) = okTo (nm :: ws) k ++ [⟨l, y⟩] from by
          rw [okTo_yes (by omega) hbk HX.out]
          have h5 := wordC_zero (w := x) (by rw [hkx, h0])
          rw [← h5, ← HDX.out, HWC.out])
        have hk0 : (kd != 0) = false := by simpa using h0
        clear hbk hkx h0
        generalize okTo (nm :: ws) k = cs at *
        go_wp2_with fail
        refine (word_at (ba x) l y kd HWC.out HKD.out _ hsx).mono ?_
        rintro e w2 ⟨rfl, hb2⟩
        have HU2 := hide (HUv.out.below hb2)
        have HO2 := hide (own_below HO.out hb2)
        have HB2 := hide (HB.out.trans (hb2.mono hz1))
        have hgb2 := HU2.out.lt
        clear hb2
        have g1 := (World.cell?_alloc_lt w2 (.cells #[.string l, .string y] 33) ⟨w1.heap.size, 1, none⟩ hgb2).trans HU2.out.c1
        go_wp2_with (at_builtin; refine wpList_append_lies _ rfl _ _ _ rfl (w1.heap.size + 1) 33 i0 _ 2 32 Tryd.underlying24 HI.out HZ0.out HZ1.out HZ2.out rfl (by omega) u cs.length (flat Course.enc cs) rfl ((HU2.out.own.alloc _).alloc _) ⟨w2.heap.size + 1, 0, none⟩ 1 1 [Value.string l, .string y] rfl rfl (course_new_at _ _ _ _ _ (by simp)) course_one (by omega) (by unfold maxLen; omega) (by omega) (by simp; omega) (w2.heap.size + 1 + 1) (by simp) ?_; intro g2 cap2 w5 hown5 hgrow hat hlt2; have hne : some w1.heap.size ≠ u.ownBlock := (fun q => by have := (HU2.out.own.lt _ q.symm).1; omega); have HUx := hide ((HU2.out.below ((Below.refl _ _).alloc (Nat.le_refl _) (.cells #[.string l, .string y] 33))).more hgrow hown5); have t1 := (hgrow.cell_far ⟨w1.heap.size, 1, none⟩ (by simp; omega) hne).trans ((World.cell?_alloc_lt _ _ ⟨w1.heap.size, 1, none⟩ (by simp; omega)).trans ((World.cell?_alloc_lt _ _ ⟨w1.heap.size, 1, none⟩ hgb2).trans HU2.out.c1)); have q1 := (hgrow.frozen_far ⟨w1.heap.size, 1, none⟩ (by simp; omega) hne).trans ((World.frozen?_of_block (w := w2.alloc (.cells #[.string l, .string y] 33)) (a := ⟨w1.heap.size, 1, none⟩) (Below.heap_alloc _ _ w1.heap.size (by simp; omega))).trans ((World.frozen?_of_block (w := w2) (a := ⟨w1.heap.size, 1, none⟩) (Below.heap_alloc w2 _ w1.heap.size hgb2)).trans HU2.out.f1)))
        have HV5 := hide (ownsRow_setCell_below (((HO2.out.alloc (.cells #[.string l, .string y] 33)).alloc (.cells #[.string l, .string y] 33)).kept hgrow (by
          cases ho : u6.ownBlock with
          | none => exact .inl rfl
          | some j => exact .inr (fun e => HD.out j ho e.symm))) (a := ⟨w1.heap.size, 1, none⟩) (Nat.lt_succ_self _) (.slice (some ⟨g2, 0, none⟩) (cs.length + 1) cap2))
        have HB5 := hide (((HB2.out.alloc HB2.out.size (.cells #[.string l, .string y] 33)).alloc (by simp; omega) (.cells #[.string l, .string y] 33)).grown hgrow (by simp; omega) (fun j hj => by have := (HU2.out.own.lt j hj).1; omega))
        have HD5 := hide (show ∀ j, u6.ownBlock = some j → (Value.slice (some ⟨g2, 0, none⟩) (cs.length + 1) cap2).ownBlock = some j → False from fun j h1 h2 => by
          simp only [Value.ownBlock] at h2
          obtain rfl := Option.some.inj h2
          rcases hat with hat | hat
          · exact HD.out _ h1 hat
          · have := (HO2.out.lt _ h1).2
            omega)
        clear hown5 hgrow hat hne
        go_roundw
        case rel => exact ⟨k + 1, by omega, by omega, by go_num, hide ⟨_, by rw [HKT.out]; exact HUx.out, HD5.out⟩, hide (by rw [HBT.out, HMm.out]; exact HV5.out), hide (HB5.out.setCell (Nat.le_refl _) _)⟩
        case measure => simp [intOf]; omega
      · obtain rfl : k = ws.length + 1 := by omega
        obtain ⟨u, hu, hdis⟩ := HU.out
        have e1 : badTo (nm :: ws) (ws.length + 1) = bads t := by unfold bads; rw [HW.out]; rfl
        rw [e1] at HO hbl
        obtain ⟨B, dd, rfl, hbo⟩ := Own.of_row rfl HO.out (by have := hu.lt; omega)
        have HBO := hide hbo
        have HBw := hide (HB1.out.trans (HB.out.mono (Nat.le_of_lt hz)))
        by_cases hnil : okT t = true
        · have hb0 := bads_nil.2 hnil
          have e2 : okTo (nm :: ws) (ws.length + 1) = readZ t := by
            rw [readZ_ok hnil, HW.out]
            exact okTo_all (List.cons_ne_nil _ _) (by rw [← HW.out]; exact okT_iff.1 hnil)
          have e3 : readN t = ba nm := by rw [readN_ok hnil, HW.out]; rfl
          rw [e2, ← e3] at hu
          obtain ⟨A9, c9, rfl, hrw, hown⟩ := hu.form
          have HOW := hide hown
          have g0 := hu.c0
          have g1 := hu.c1
          have hl : (bads t).length = 0 := by rw [hb0]; rfl
          rw [hl] at HBO hbl ⊢
          generalize hN : readN t = rn at *
          generalize hZ : readZ t = rz at *
          have HN := hide hN
          have HZ := hide hZ
          have HL := hide hl
          clear hu hdis e1 e2 e3 hb0 hrw hown hbo hN hZ hl hnil
          have r0 := (HB.out.cell (p := ⟨w.heap.size, 0, none⟩) hz).trans R0.out
          have r1 := (HB.out.cell (p := ⟨w.heap.size, 1, none⟩) hz).trans R1.out
          have x0 := (HB.out.frozen (p := ⟨w.heap.size, 0, none⟩) hz).trans X0.out
          have x1 := (HB.out.frozen (p := ⟨w.heap.size, 1, none⟩) hz).trans X1.out
          go_wp2
          refine bodyPost_ret (v := .tuple #[.agg #[.string rn, .slice A9 rz.length c9], .slice B 0 dd]) ?_ rfl ⟨A9, c9, B, dd, ?_, ?_, ?_, ?_⟩
          · simp [results, Tryd.results36, go_sem, r0, r1]
          · rw [HN.out, HZ.out, HL.out]
          · rw [HZ.out]
            exact ⟨rfl, own_low1' (ownsRow_setCell_below (ownsRow_setCell_below HOW.out.own (a := ⟨w.heap.size, 0, none⟩) (by show w.heap.size < w1.heap.size + 1; omega) _) (a := ⟨w.heap.size, 1, none⟩) (by show w.heap.size < w1.heap.size + 1; omega) _) (by omega), fun a ha => by
              have := HOW.out.up a ha
              have := HOW.out.hi_le
              simp
              omega, by simp⟩
          · rw [HL.out]
            exact ⟨HL.out, own_low1' (ownsRow_setCell_below (ownsRow_setCell_below HBO.out.own (a := ⟨w.heap.size, 0, none⟩) (by show w.heap.size < w1.heap.size + 1; omega) _) (a := ⟨w.heap.size, 1, none⟩) (by show w.heap.size < w1.heap.size + 1; omega) _) (by omega), fun a ha => by
              have := HBO.out.up a ha
              have := HBO.out.hi_le
              simp
              omega, by simp⟩
          · have BX := HBw.out
            go_grown
        · have hnf : okT t = false := by simpa using hnil
          have hl : 0 < (bads t).length := by
            rcases Nat.eq_zero_or_pos (bads t).length with h9 | h9
            · exact absurd (bads_nil.1 (List.eq_nil_of_length_eq_zero h9)) hnil
            · exact h9
          have HF := hide hnf
          generalize hbs : bads t = bs at *
          have HBS := hide hbs
          clear hu hdis e1 hbo hnf hnil hbs
          have r0 := (HB.out.cell (p := ⟨w.heap.size, 0, none⟩) hz).trans R0.out
          have r1 := (HB.out.cell (p := ⟨w.heap.size, 1, none⟩) hz).trans R1.out
          have x0 := (HB.out.frozen (p := ⟨w.heap.size, 0, none⟩) hz).trans X0.out
          have x1 := (HB.out.frozen (p := ⟨w.heap.size, 1, none⟩) hz).trans X1.out
          go_wp2
          refine bodyPost_ret (v := .tuple #[.agg #[.string ⟨#[]⟩, .slice none 0 0], .slice B bs.length dd]) ?_ rfl ⟨none, 0, B, dd, ?_, ?_, ?_, ?_⟩
          · simp [results, Tryd.results36, go_sem, r0, r1]
          · rw [readN_no HF.out, readZ_no HF.out, HBS.out]
            rfl
          · rw [readZ_no HF.out]
            exact Own.nil (Nat.le_refl _)
          · rw [HBS.out]
            exact ⟨rfl, own_low1' (ownsRow_setCell_below (ownsRow_setCell_below HBO.out.own (a := ⟨w.heap.size, 0, none⟩) (by show w.heap.size < w1.heap.size + 1; omega) _) (a := ⟨w.heap.size, 1, none⟩) (by show w.heap.size < w1.heap.size + 1; omega) _) (by omega), fun a ha => by
              have := HBO.out.up a ha
              have := HBO.out.hi_le
              simp
              omega, by simp⟩
          · have BX := HBw.out
            go_grown
end Go.Proofs.YtgobpleckeeheaaDoor
