/-
  What is proved: a text's bond and its problems, of the program. Condition: a length that fits, the library's own variable holds some number.
-/
import Derived.Test.YtgobpleckeeheaaDoorWordI
import Derived.Test.YtgobpleckeeheaaDoorCheck
namespace Go.Proofs.YtgobpleckeeheaaDoor
open Go.RowKit Go.PlainAid
set_option linter.unusedVariables false

/-- The problems that a check hands back: none of a text that is too long. -/
def badsP (t : ByteArray) : List Prob := if 400 < t.size then [] else bads t
/-- What the check of a text gives, of the program and of the reference. -/
def BondPost (t : ByteArray) (w : World) (e : Ending) (w' : World) : Prop := ∃ A' c' B' d', e = .returned (.tuple #[.agg #[.string (readN t), .slice A' (readZ t).length c'], .slice B' (badsP t).length d', .int .i64 (if 400 < t.size then 5 else 0)]) ∧ Own 33 2 Course.enc w' w.heap.size w'.heap.size A' (readZ t).length c' (readZ t) ∧ Own 40 2 Prob.enc w' w.heap.size w'.heap.size B' (badsP t).length d' (badsP t) ∧ Below w.heap.size w w'
theorem bondPost_long {t : ByteArray} {w w' : World} {e : Ending} (h : 400 < t.size) (he : e = .returned (.tuple #[.agg #[.string ⟨#[]⟩, .slice none 0 0], .slice none 0 0, .int .i64 5])) (hb : Below w.heap.size w w') : BondPost t w e w' := by
  have hk := okT_false (fun q => absurd (okT_size (t := t) q) (by omega))
  have hp : badsP t = [] := if_pos h
  refine ⟨none, 0, none, 0, ?_, ?_, ?_, hb⟩
  · rw [readN_no hk, readZ_no hk, hp, if_pos h]
    exact he
  · rw [readZ_no hk]
    exact Own.nil (Nat.le_refl _)
  · rw [hp]
    exact Own.nil (Nat.le_refl _)
/-- What the program's check gives: the two lists lie apart. -/
def BondPostI (t : ByteArray) (w : World) (e : Ending) (w' : World) : Prop := ∃ m A' c' B' d', w.heap.size ≤ m ∧ m ≤ w'.heap.size ∧ e = .returned (.tuple #[.agg #[.string (readN t), .slice A' (readZ t).length c'], .slice B' (badsP t).length d', .int .i64 (if 400 < t.size then 5 else 0)]) ∧ Own 33 2 Course.enc w' w.heap.size m A' (readZ t).length c' (readZ t) ∧ Own 40 2 Prob.enc w' m w'.heap.size B' (badsP t).length d' (badsP t) ∧ Below w.heap.size w w'
theorem bondPostI_long {t : ByteArray} {w w' : World} {e : Ending} (h : 400 < t.size) (he : e = .returned (.tuple #[.agg #[.string ⟨#[]⟩, .slice none 0 0], .slice none 0 0, .int .i64 5])) (hb : Below w.heap.size w w') : BondPostI t w e w' := by
  have hk := okT_false (fun q => absurd (okT_size (t := t) q) (by omega))
  have hp : badsP t = [] := if_pos h
  refine ⟨w.heap.size, none, 0, none, 0, Nat.le_refl _, hb.size, ?_, ?_, ?_, hb⟩
  · rw [readN_no hk, readZ_no hk, hp, if_pos h]
    exact he
  · rw [readZ_no hk]
    exact Own.nil hb.size
  · rw [hp]
    exact Own.nil (Nat.le_refl _)
theorem first_whole {t : ByteArray} {nm : List UInt8} {ws : List (List UInt8)} (hw : spl 32 t.data.toList = nm :: ws) : (ws.length = 0 ∧ ba nm = t) ∨ (¬ ws.length = 0 ∧ ((ba nm).toList == t.toList) = false) := by
  rcases spl_cases 32 t.data.toList with ⟨h1, -⟩ | ⟨a, b, e, ha, -⟩
  · rw [spl_none h1] at hw
    injection hw with h2 h3
    subst h2 h3
    exact .inl ⟨rfl, ba_of t⟩
  · rw [e, spl_cut ha] at hw
    injection hw with h2 h3
    subst h2 h3
    refine .inr ⟨?_, ?_⟩
    · have := List.length_pos_iff.2 (spl_ne 32 b)
      omega
    · rw [beq_eq_false_iff_ne, Lib.toList_data, Lib.toList_data, ba_data, e]
      intro q
      have := congrArg List.length q
      simp at this
theorem below_cells {w w' : World} {B b : Nat} (h : Below B w w') (hb : b < B) : w'.cell? ⟨b, 0, none⟩ = w.cell? ⟨b, 0, none⟩ ∧ w'.cell? ⟨b, 1, none⟩ = w.cell? ⟨b, 1, none⟩ ∧ w'.frozen? ⟨b, 0, none⟩ = w.frozen? ⟨b, 0, none⟩ ∧ w'.frozen? ⟨b, 1, none⟩ = w.frozen? ⟨b, 1, none⟩ := ⟨h.cell hb, h.cell hb, h.frozen hb, h.frozen hb⟩
theorem split_is (s : ByteArray) (w : World) (hs : s.size ≤ 16777216) (hm : MaxLenIs w) :
    Calls Tryd.prog 15 #[.string s, .string ⟨#[32]⟩] w fun e w' => e = .returned (.slice (some ⟨w.heap.size, 0, none⟩) (splB 32 s).length (splB 32 s).length) ∧ w' = w.alloc (.cells ((splB 32 s).map Value.string).toArray 9) := by
  obtain ⟨m, hm⟩ := hm
  refine (Tryd.strings_Split s ⟨#[32]⟩ m w (by omega) hm (by decide)).mono fun e w' ⟨he, hw⟩ => ?_
  have ec : Lib.countB s ⟨#[32]⟩ = s.data.toList.count 32 := Lib.count_one 32 _
  have e1 : Lib.splitB ⟨#[32]⟩ 0 (Lib.countB s ⟨#[32]⟩) s = splB 32 s := by
    unfold splB
    apply map_ba
    rw [Lib.splitB_data, ec]
    exact splitK_all (by rw [spl_length]; exact Nat.le_refl _)
  have e2 : (splB 32 s).length = Lib.countB s ⟨#[32]⟩ + 1 := by rw [ec]; unfold splB; rw [List.length_map, spl_length]
  rw [e1] at hw
  exact ⟨by rw [e2]; exact he, hw⟩
set_option maxRecDepth 100000 in
set_option maxHeartbeats 8000000 in
theorem impl_checkBond (t : ByteArray) (w : World) (hs : t.size ≤ 1048576) (hm : MaxLenIs w) : Calls Tryd.prog 8 #[.string t] w (BondPostI t w) := by
  have hMz : 0 < w.heap.size := by obtain ⟨m, hm⟩ := hm; exact cell_lt hm
  have HM := hide hm
  clear hm
  by_cases h : 400 < t.size
  · have HB0 := hide ((Below.refl w.heap.size w).alloc (Nat.le_refl _) (.cells #[.string ⟨#[]⟩, .slice none 0 0] 26))
    have hd : decide (400 < (t.size : Int)) = true := by simp; omega
    go_enter Tryd.func8, Tryd.ntmps8
    go_wp2
    refine bodyPost_ret (v := .tuple #[.agg #[.string ⟨#[]⟩, .slice none 0 0], .slice none 0 0, .int .i64 5]) ?_ rfl (bondPostI_long h rfl ?_)
    · simp [results, Tryd.results8, go_sem]
    · have BX := HB0.out
      go_grown
  have hd : decide (400 < (t.size : Int)) = false := by simp; omega
  obtain ⟨j0, hj, hy0, hy1, hy2⟩ := info_parts info_Prob
  have HJ := hide hj
  have HY0 := hide hy0
  have HY1 := hide hy1
  have HY2 := hide hy2
  clear hj hy0 hy1 hy2
  obtain ⟨nm, ws, hw⟩ := first_word t
  have hle : ws.length ≤ t.size := by
    have := spl_count 32 t.data.toList
    rw [hw, List.length_cons, data_size] at this
    omega
  have hsp : splB 32 t = ba nm :: ws.map ba := by unfold splB; rw [hw]; rfl
  have HW := hide hw
  have HSP := hide hsp
  have HH := hide h
  have hnz : (ba nm).size ≤ maxLen := by
    have := part_size (s := t) (i := 0) (x := nm) (by rw [hw]; rfl)
    rw [ba_size]
    unfold maxLen
    omega
  clear hw hsp h
  have HB0 := hide ((Below.refl w.heap.size w).alloc (Nat.le_refl _) (.cells #[.string ⟨#[]⟩, .slice none 0 0] 26))
  have HE0 := hide (own_empty_here (w.alloc (.cells #[.string ⟨#[]⟩, .slice none 0 0] 26)) (w.heap.size + 1) 2 40 (w.heap.size + 1) (by simp) (by simp))
  have HB1 := hide (HB0.out.alloc (by simp) (.cells #[] 40))
  go_enter Tryd.func8, Tryd.ntmps8
  go_wp2_with fail
  refine (split_is t _ (by omega) (HM.out.below hMz HB1.out)).mono ?_
  rintro e w1 ⟨rfl, hw1⟩
  rw [HSP.out] at hw1 ⊢
  have HR := hide (show Row encS 1 w1 (some ⟨w.heap.size + 2, 0, none⟩) (ba nm :: ws.map ba) from by rw [hw1]; exact row_built _ _ _ _ (by simp))
  have HE1 := hide (show w1.ownsRow (w.heap.size + 1) 40 2 (.slice (some ⟨w.heap.size + 1, 0, none⟩) 0 0) 0 (flat Prob.enc []) from by rw [hw1]; exact HE0.out.alloc _)
  have HA := hide (show Below (w.heap.size + 1) (w.alloc (.cells #[.string ⟨#[]⟩, .slice none 0 0] 26)) w1 from by
    rw [hw1]
    exact ((Below.refl _ _).alloc (by simp) _).alloc (by simp) _)
  have hz1 : w1.heap.size = w.heap.size + 3 := by rw [hw1]; simp
  have R0 := hide (show (w.alloc (.cells #[.string ⟨#[]⟩, .slice none 0 0] 26)).cell? ⟨w.heap.size, 0, none⟩ = some (.string ⟨#[]⟩) from by simp [go_sem])
  have R1 := hide (show (w.alloc (.cells #[.string ⟨#[]⟩, .slice none 0 0] 26)).cell? ⟨w.heap.size, 1, none⟩ = some (.slice none 0 0) from by simp [go_sem])
  have X0 := hide (show (w.alloc (.cells #[.string ⟨#[]⟩, .slice none 0 0] 26)).frozen? ⟨w.heap.size, 0, none⟩ = false from by simp [go_sem])
  have X1 := hide (show (w.alloc (.cells #[.string ⟨#[]⟩, .slice none 0 0] 26)).frozen? ⟨w.heap.size, 1, none⟩ = false from by simp [go_sem])
  have hbt0 : badTo (nm :: ws) 0 = [] := rfl
  rw [List.length_cons, List.length_map]
  clear hw1 HE0 HB1
  go_wp2
  go_loopw [5, 19] (fun u5 i wr => ∃ k : Nat, k ≤ ws.length + 1 ∧ i = .int .i64 k ∧ Hid (Row encS 1 wr (some ⟨w.heap.size + 2, 0, none⟩) (ba nm :: ws.map ba)) ∧ Hid (∀ j, u5.ownBlock = some j → j ≠ w.heap.size + 2) ∧ Hid (wr.ownsRow (w.heap.size + 1) 40 2 u5 (badTo (nm :: ws) k).length (flat Prob.enc (badTo (nm :: ws) k))) ∧ Hid (Below (w.heap.size + 1) (w.alloc (.cells #[.string ⟨#[]⟩, .slice none 0 0] 26)) wr)) (fun _ i _ => ws.length + 1 - (intOf i).toNat)
  case atStart => exact ⟨0, by omega, rfl, HR, hide (fun j hj => by simp [Value.ownBlock] at hj; omega), HE1, HA⟩
  case round =>
    clear HR HE1 HA
    obtain ⟨k, hk, rfl, HR, HD, HO, HB⟩ := hrel
    have hzr := HB.out.size
    have hgr : w.heap.size + 1 ≤ (w.alloc (.cells #[.string ⟨#[]⟩, .slice none 0 0] 26)).heap.size := by simp
    have hbl := badTo_len (nm :: ws) k
    by_cases hlt : k < ws.length + 1
    · obtain ⟨x, hxk⟩ : ∃ x, (nm :: ws)[k]? = some x := ⟨(nm :: ws)[k]'(by rw [List.length_cons]; exact hlt), List.getElem?_eq_getElem _⟩
      have hx' : (ba nm :: ws.map ba)[k]? = some (ba x) := by
        rw [show ba nm :: ws.map ba = (nm :: ws).map ba from rfl, List.getElem?_map, hxk]
        rfl
      obtain ⟨b2, off2, e2, hb2', a1⟩ := row_at_1 HR.out hx' rfl
      obtain ⟨rfl, rfl⟩ : b2 = w.heap.size + 2 ∧ off2 = 0 := by injection e2 with e2; injection e2 with e1 e3 e4; exact ⟨e1.symm, e3.symm⟩
      rw [Nat.zero_add] at a1
      have hsx : (ba x).size ≤ 1048576 := by
        have := part_size (s := t) (i := k) (x := x) (by rw [HW.out]; exact hxk)
        rw [ba_size]
        omega
      have hki : (k : Int) < ((ws.length + 1 : Nat) : Int) := by omega
      obtain ⟨m, hm⟩ : ∃ m, (badTo (nm :: ws) k).length = m := ⟨_, rfl⟩
      rw [hm] at HO hbl
      have HMm := hide hm
      clear hm e2
      have HBr := hide (HB0.out.trans (HB.out.mono (Nat.le_succ _)))
      by_cases hk0 : k = 0
      · have hi0 : ((k : Int) == 0) = true := by simp; omega
        have hi8 : decide (8 < (k : Int)) = false := by simp; omega
        have hi1 : ¬ 0 < k := by omega
        obtain rfl : x = nm := by
          rw [hk0, List.getElem?_cons_zero] at hxk
          exact (Option.some.inj hxk).symm
        clear hxk hx'
        rcases first_whole HW.out with ⟨hn, hq⟩ | ⟨hn, hq⟩
        · have HBT := hide (show badTo (x :: ws) (k + 1) = badTo (x :: ws) k ++ [⟨(k : Int), 1⟩] from by subst hk0; rw [badTo_yes (by rw [badAt_zero, if_pos hn]; decide), badAt_zero, if_pos hn])
          have hws : ((ba x).toList == t.toList) = true := by rw [hq]; exact beq_self_eq_true _
          clear hk0 hn hq
          go_wp2_with (at_builtin; refine wpList_append_lies _ rfl _ _ _ rfl (w.heap.size + 1) 40 j0 _ 2 16 Tryd.underlying34 HJ.out HY0.out HY1.out HY2.out rfl (by omega) u5 m (flat Prob.enc (badTo (x :: ws) k)) rfl (HO.out.alloc _) ⟨wr.heap.size, 0, none⟩ 1 1 [Value.int .i64 k, .int .i64 1] rfl rfl (prob_new_at _ _ _ _ _ rfl) prob_one (by omega) (by unfold maxLen; omega) (by omega) (by simp <;> omega) (wr.heap.size + 1) (by simp) ?_; intro g2 cap2 w5 hown5 hgrow hat hlt2)
          have HV5 := hide (show w5.ownsRow (w.heap.size + 1) 40 2 (.slice (some ⟨g2, 0, none⟩) (m + 1) cap2) (badTo (x :: ws) (k + 1)).length (flat Prob.enc (badTo (x :: ws) (k + 1))) from by
            rw [HBT.out, List.length_append, HMm.out]
            exact own_push_prob hown5 rfl)
          have HR5 := hide ((HR.out.below ((Below.refl _ _).alloc (Nat.le_refl _) (.cells #[.int .i64 k, .int .i64 1] 40))).grown hgrow (fun a b h1 h2 h3 => by
            obtain rfl := Option.some.inj h1
            exact HD.out b h2 h3.symm))
          have HB5 := hide ((HB.out.alloc (Nat.le_trans hgr HB.out.size) (.cells #[.int .i64 k, .int .i64 1] 40)).grown hgrow (by have := HB.out.size; simp at this ⊢; omega) (fun j hj => (HO.out.lt j hj).1))
          have HD5 := hide (show ∀ j, (Value.slice (some ⟨g2, 0, none⟩) (m + 1) cap2).ownBlock = some j → j ≠ w.heap.size + 2 from fun j h1 => by
            simp only [Value.ownBlock] at h1
            obtain rfl := Option.some.inj h1
            rcases hat with hat | hat
            · exact HD.out _ hat
            · have := HB.out.size
              simp at this hb2'
              omega)
          clear hown5 hgrow hat
          go_roundw
          case rel => exact ⟨k + 1, by omega, by go_num, HR5, HD5, HV5, HB5⟩
          case measure => simp [intOf]; omega
        · by_cases hname : nameB (ba x) = true
          · have HBT := hide (show badTo (x :: ws) (k + 1) = badTo (x :: ws) k from by subst hk0; exact badTo_no (by rw [badAt_zero, if_neg hn, if_pos hname]))
            clear hk0 hn
            go_wp2_with fail
            refine (impl_isName (ba x) _ hnz).mono ?_
            rintro e w9 ⟨rfl, rfl⟩
            rw [hname]
            go_wp2
            go_roundw
            case rel => exact ⟨k + 1, by omega, by go_num, HR, HD, hide (by rw [HBT.out, HMm.out]; exact HO.out), HB⟩
            case measure => simp [intOf]; omega
          · have hname' : nameB (ba x) = false := by simpa using hname
            have HBT := hide (show badTo (x :: ws) (k + 1) = badTo (x :: ws) k ++ [⟨(k : Int), 2⟩] from by subst hk0; rw [badTo_yes (by rw [badAt_zero, if_neg hn, if_neg hname]; decide), badAt_zero, if_neg hn, if_neg hname])
            clear hk0 hn hname
            go_wp2_with fail
            refine (impl_isName (ba x) _ hnz).mono ?_
            rintro e w9 ⟨rfl, rfl⟩
            rw [hname']
            go_wp2_with (at_builtin; refine wpList_append_lies _ rfl _ _ _ rfl (w.heap.size + 1) 40 j0 _ 2 16 Tryd.underlying34 HJ.out HY0.out HY1.out HY2.out rfl (by omega) u5 m (flat Prob.enc (badTo (x :: ws) k)) rfl (HO.out.alloc _) ⟨wr.heap.size, 0, none⟩ 1 1 [Value.int .i64 k, .int .i64 2] rfl rfl (prob_new_at _ _ _ _ _ rfl) prob_one (by omega) (by unfold maxLen; omega) (by omega) (by simp <;> omega) (wr.heap.size + 1) (by simp) ?_; intro g2 cap2 w5 hown5 hgrow hat hlt2)
            have HV5 := hide (show w5.ownsRow (w.heap.size + 1) 40 2 (.slice (some ⟨g2, 0, none⟩) (m + 1) cap2) (badTo (x :: ws) (k + 1)).length (flat Prob.enc (badTo (x :: ws) (k + 1))) from by
              rw [HBT.out, List.length_append, HMm.out]
              exact own_push_prob hown5 rfl)
            have HR5 := hide ((HR.out.below ((Below.refl _ _).alloc (Nat.le_refl _) (.cells #[.int .i64 k, .int .i64 2] 40))).grown hgrow (fun a b h1 h2 h3 => by
              obtain rfl := Option.some.inj h1
              exact HD.out b h2 h3.symm))
            have HB5 := hide ((HB.out.alloc (Nat.le_trans hgr HB.out.size) (.cells #[.int .i64 k, .int .i64 2] 40)).grown hgrow (by have := HB.out.size; simp at this ⊢; omega) (fun j hj => (HO.out.lt j hj).1))
            have HD5 := hide (show ∀ j, (Value.slice (some ⟨g2, 0, none⟩) (m + 1) cap2).ownBlock = some j → j ≠ w.heap.size + 2 from fun j h1 => by
              simp only [Value.ownBlock] at h1
              obtain rfl := Option.some.inj h1
              rcases hat with hat | hat
              · exact HD.out _ hat
              · have := HB.out.size
                simp at this hb2'
                omega)
            clear hown5 hgrow hat
            go_roundw
            case rel => exact ⟨k + 1, by omega, by go_num, HR5, HD5, HV5, HB5⟩
            case measure => simp [intOf]; omega
      have hi0 : ((k : Int) == 0) = false := by rw [beq_eq_false_iff_ne]; omega
      by_cases h8 : 8 < k
      · have hi8 : decide (8 < (k : Int)) = true := by simp; omega
        have HBT := hide (show badTo (nm :: ws) (k + 1) = badTo (nm :: ws) k ++ [⟨(k : Int), 6⟩] from by rw [badTo_yes (by rw [badAt_many h8]; decide), badAt_many h8])
        clear hxk hx' hk0
        go_wp2_with (at_builtin; refine wpList_append_lies _ rfl _ _ _ rfl (w.heap.size + 1) 40 j0 _ 2 16 Tryd.underlying34 HJ.out HY0.out HY1.out HY2.out rfl (by omega) u5 m (flat Prob.enc (badTo (nm :: ws) k)) rfl (HO.out.alloc _) ⟨wr.heap.size, 0, none⟩ 1 1 [Value.int .i64 k, .int .i64 6] rfl rfl (prob_new_at _ _ _ _ _ rfl) prob_one (by omega) (by unfold maxLen; omega) (by omega) (by simp <;> omega) (wr.heap.size + 1) (by simp) ?_; intro g2 cap2 w5 hown5 hgrow hat hlt2)
        have HV5 := hide (show w5.ownsRow (w.heap.size + 1) 40 2 (.slice (some ⟨g2, 0, none⟩) (m + 1) cap2) (badTo (nm :: ws) (k + 1)).length (flat Prob.enc (badTo (nm :: ws) (k + 1))) from by
          rw [HBT.out, List.length_append, HMm.out]
          exact own_push_prob hown5 rfl)
        have HR5 := hide ((HR.out.below ((Below.refl _ _).alloc (Nat.le_refl _) (.cells #[.int .i64 k, .int .i64 6] 40))).grown hgrow (fun a b h1 h2 h3 => by
          obtain rfl := Option.some.inj h1
          exact HD.out b h2 h3.symm))
        have HB5 := hide ((HB.out.alloc (Nat.le_trans hgr HB.out.size) (.cells #[.int .i64 k, .int .i64 6] 40)).grown hgrow (by have := HB.out.size; simp at this ⊢; omega) (fun j hj => (HO.out.lt j hj).1))
        have HD5 := hide (show ∀ j, (Value.slice (some ⟨g2, 0, none⟩) (m + 1) cap2).ownBlock = some j → j ≠ w.heap.size + 2 from fun j h1 => by
          simp only [Value.ownBlock] at h1
          obtain rfl := Option.some.inj h1
          rcases hat with hat | hat
          · exact HD.out _ hat
          · have := HB.out.size
            simp at this hb2'
            omega)
        clear hown5 hgrow hat
        go_roundw
        case rel => exact ⟨k + 1, by omega, by go_num, HR5, HD5, HV5, HB5⟩
        case measure => simp [intOf]; omega
      have hi8 : decide (8 < (k : Int)) = false := by simp; omega
      have hi1 : 0 < k := by omega
      obtain ⟨kd, hkd⟩ : ∃ kd, kindL (ba x).data.toList = kd := ⟨_, rfl⟩
      have hbk : badAt (nm :: ws) k = kd := by rw [badAt_word hk0 h8 hxk, ← hkd, ba_data]
      have HKD := hide hkd
      clear hxk hx' hkd
      by_cases h0 : kd = 0
      · have HBT := hide (show badTo (nm :: ws) (k + 1) = badTo (nm :: ws) k from badTo_no (hbk.trans h0))
        clear hbk hk0
        have hk9 : (kd != 0) = false := by simpa using h0
        clear h0
        go_wp2_with fail
        refine (impl_wordProblem (ba x) _ hsx (HM.out.below hMz HBr.out)).mono ?_
        rintro e w2 ⟨rfl, hb2⟩
        rw [HKD.out]
        have HO2 := hide (own_below HO.out hb2)
        have HR2 := hide (HR.out.below hb2)
        have HB2 := hide (HB.out.trans (hb2.mono (Nat.le_trans hgr hzr)))
        clear hb2
        go_wp2
        go_roundw
        case rel => exact ⟨k + 1, by omega, by go_num, HR2, HD, hide (by rw [HBT.out, HMm.out]; exact HO2.out), HB2⟩
        case measure => simp [intOf]; omega
      · have HBT := hide (show badTo (nm :: ws) (k + 1) = badTo (nm :: ws) k ++ [⟨(k : Int), kd⟩] from by rw [badTo_yes (by rw [hbk]; exact h0), hbk])
        clear hbk hk0
        have hk9 : (kd != 0) = true := by simpa using h0
        clear h0
        go_wp2_with fail
        refine (impl_wordProblem (ba x) _ hsx (HM.out.below hMz HBr.out)).mono ?_
        rintro e w2 ⟨rfl, hb2⟩
        rw [HKD.out]
        have HO2 := hide (own_below HO.out hb2)
        have HR2 := hide (HR.out.below hb2)
        have HB2 := hide (HB.out.trans (hb2.mono (Nat.le_trans hgr hzr)))
        have hzw : wr.heap.size ≤ w2.heap.size := hb2.size
        clear hb2
        go_wp2_with (at_builtin; refine wpList_append_lies _ rfl _ _ _ rfl (w.heap.size + 1) 40 j0 _ 2 16 Tryd.underlying34 HJ.out HY0.out HY1.out HY2.out rfl (by omega) u5 m (flat Prob.enc (badTo (nm :: ws) k)) rfl (HO2.out.alloc _) ⟨w2.heap.size, 0, none⟩ 1 1 [Value.int .i64 k, .int .i64 kd] rfl rfl (prob_new_at _ _ _ _ _ rfl) prob_one (by omega) (by unfold maxLen; omega) (by omega) (by simp <;> omega) (w2.heap.size + 1) (by simp) ?_; intro g2 cap2 w5 hown5 hgrow hat hlt2)
        have HV5 := hide (show w5.ownsRow (w.heap.size + 1) 40 2 (.slice (some ⟨g2, 0, none⟩) (m + 1) cap2) (badTo (nm :: ws) (k + 1)).length (flat Prob.enc (badTo (nm :: ws) (k + 1))) from by
          rw [HBT.out, List.length_append, HMm.out]
          exact own_push_prob hown5 rfl)
        have HR5 := hide ((HR2.out.below ((Below.refl _ _).alloc (Nat.le_refl _) (.cells #[.int .i64 k, .int .i64 kd] 40))).grown hgrow (fun a b h1 h2 h3 => by
          obtain rfl := Option.some.inj h1
          exact HD.out b h2 h3.symm))
        have HB5 := hide ((HB2.out.alloc (Nat.le_trans hgr HB2.out.size) (.cells #[.int .i64 k, .int .i64 kd] 40)).grown hgrow (by have := HB2.out.size; simp at this ⊢; omega) (fun j hj => (HO2.out.lt j hj).1))
        have HD5 := hide (show ∀ j, (Value.slice (some ⟨g2, 0, none⟩) (m + 1) cap2).ownBlock = some j → j ≠ w.heap.size + 2 from fun j h1 => by
          simp only [Value.ownBlock] at h1
          obtain rfl := Option.some.inj h1
          rcases hat with hat | hat
          · exact HD.out _ hat
          · have := HB2.out.size
            simp at this hb2'
            omega)
        clear hown5 hgrow hat
        go_roundw
        case rel => exact ⟨k + 1, by omega, by go_num, HR5, HD5, HV5, HB5⟩
        case measure => simp [intOf]; omega
    · obtain rfl : k = ws.length + 1 := by omega
      have hbe : badTo (nm :: ws) (ws.length + 1) = bads t := by unfold bads; rw [HW.out]; rfl
      rw [hbe] at HO hbl
      have hbp : badsP t = bads t := if_neg HH.out
      have hzz : w.heap.size < wr.heap.size := by simp at hzr; omega
      obtain ⟨B, dd, rfl, hbo⟩ := Own.of_row rfl HO.out (by omega)
      have HBO := hide hbo
      have HBr := hide (HB0.out.trans (HB.out.mono (Nat.le_succ _)))
      have r0 := (HB.out.cell (p := ⟨w.heap.size, 0, none⟩) (Nat.lt_succ_self _)).trans R0.out
      have r1 := (HB.out.cell (p := ⟨w.heap.size, 1, none⟩) (Nat.lt_succ_self _)).trans R1.out
      have x0 := (HB.out.frozen (p := ⟨w.heap.size, 0, none⟩) (Nat.lt_succ_self _)).trans X0.out
      have x1 := (HB.out.frozen (p := ⟨w.heap.size, 1, none⟩) (Nat.lt_succ_self _)).trans X1.out
      clear hbo hbe
      by_cases hnil : okT t = true
      · have hb0 := bads_nil.2 hnil
        have hl : (bads t).length = 0 := by rw [hb0]; rfl
        rw [hl] at HO hbl ⊢
        have HL := hide (show badsP t = [] from hbp.trans hb0)
        have HK := hide hnil
        clear hb0 hl hnil hbp
        go_wp2_with fail
        refine (impl_readBond t _ hs (HM.out.below hMz HBr.out)).mono ?_
        rintro e w2 ⟨A9, c9, rfl, ho, hb2⟩
        replace r0 := (hb2.cell (p := ⟨w.heap.size, 0, none⟩) hzz).trans r0
        replace r1 := (hb2.cell (p := ⟨w.heap.size, 1, none⟩) hzz).trans r1
        replace x0 := (hb2.frozen (p := ⟨w.heap.size, 0, none⟩) hzz).trans x0
        replace x1 := (hb2.frozen (p := ⟨w.heap.size, 1, none⟩) hzz).trans x1
        have hz2 : w.heap.size < w2.heap.size := Nat.lt_of_lt_of_le hzz hb2.size
        have hz3 : wr.heap.size ≤ w2.heap.size := hb2.size
        have HB2 := hide (HBr.out.trans (hb2.mono HBr.out.size))
        have HOW := hide ho
        clear hb2 ho
        generalize hN : readN t = rn at *
        generalize hZ : readZ t = rz at *
        have HN := hide hN
        have HZ := hide hZ
        clear hN hZ
        go_wp2
        refine bodyPost_ret (v := .tuple #[.agg #[.string rn, .slice A9 rz.length c9], .slice none 0 0, .int .i64 0]) ?_ rfl ⟨_, A9, c9, none, 0, ?_, Nat.le_refl _, ?_, ?_, ?_, ?_⟩
        · have e0 := (World.cell?_alloc_lt ((w2.setCell ⟨w.heap.size, 0, none⟩ (.string rn)).setCell ⟨w.heap.size, 1, none⟩ (.slice A9 rz.length c9)) (.cells #[.string rn, .slice A9 rz.length c9] 26) ⟨w.heap.size, 0, none⟩ (by simp; omega))
          have e1 := (World.cell?_alloc_lt ((w2.setCell ⟨w.heap.size, 0, none⟩ (.string rn)).setCell ⟨w.heap.size, 1, none⟩ (.slice A9 rz.length c9)) (.cells #[.string rn, .slice A9 rz.length c9] 26) ⟨w.heap.size, 1, none⟩ (by simp; omega))
          simp [results, Tryd.results8, go_sem, e0, e1, r0, r1]
        · simp
          omega
        · rw [HN.out, HZ.out, HL.out, if_neg HH.out]
          rfl
        · rw [HZ.out]
          refine ⟨rfl, own_low1' ((ownsRow_setCell_below (ownsRow_setCell_below HOW.out.own (a := ⟨w.heap.size, 0, none⟩) hzz _) (a := ⟨w.heap.size, 1, none⟩) hzz _).alloc _) (by omega), fun a ha => ?_, by simp⟩
          have := HOW.out.up a ha
          simp
          omega
        · rw [HL.out]
          exact Own.nil (Nat.le_refl _)
        · have BX := HB2.out
          go_grown
      · have hnf : okT t = false := by simpa using hnil
        have hl : 0 < (bads t).length := by
          rcases Nat.eq_zero_or_pos (bads t).length with h9 | h9
          · exact absurd (bads_nil.1 (List.eq_nil_of_length_eq_zero h9)) hnil
          · exact h9
        have HF := hide hnf
        rw [← hbp] at HBO hl HO ⊢
        obtain ⟨bs, hbs⟩ : ∃ bs, badsP t = bs := ⟨_, rfl⟩
        obtain ⟨nb, hnb⟩ : ∃ nb, bs.length = nb := ⟨_, rfl⟩
        rw [hbs, hnb] at HBO hl HO ⊢
        have HBS := hide hbs
        have HNB := hide hnb
        clear hnf hnil hbs hbp hnb hbl
        go_wp2
        refine bodyPost_ret (v := .tuple #[.agg #[.string ⟨#[]⟩, .slice none 0 0], .slice B nb dd, .int .i64 0]) ?_ rfl ⟨w.heap.size, none, 0, B, dd, Nat.le_refl _, ?_, ?_, ?_, ?_, ?_⟩
        · simp [results, Tryd.results8, go_sem, r0, r1]
        · simp
          omega
        · rw [readN_no HF.out, readZ_no HF.out, HBS.out, HNB.out, if_neg HH.out]
          rfl
        · rw [readZ_no HF.out]
          exact Own.nil (by simp; omega)
        · rw [HBS.out, HNB.out]
          exact ⟨HNB.out, own_low1' (ownsRow_setCell_below (ownsRow_setCell_below HBO.out.own (a := ⟨w.heap.size, 0, none⟩) (Nat.lt_succ_self _) _) (a := ⟨w.heap.size, 1, none⟩) (Nat.lt_succ_self _) _) (Nat.le_succ _), fun a ha => by
            have := HBO.out.up a ha
            simp
            omega, by simp⟩
        · have BX := HBr.out
          go_grown
end Go.Proofs.YtgobpleckeeheaaDoor
