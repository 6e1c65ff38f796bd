/-
  What is proved: the reference's own cut of a text at a byte. Condition: a length that fits.
-/
import Derived.Test.YtgobpleckeeheaaDoorSplit
import Derived.Test.YtgobpleckeeheaaDoorStrS
import Derived.Laws.AppendOwn
import Derived.OwnWalk
import Derived.PlainAid
namespace Go.Proofs.YtgobpleckeeheaaDoor
open Go.RowKit Go.PlainAid
set_option linter.unusedVariables false

theorem bt_list {s : ByteArray} {k : Nat} (h : k < s.size) : bt s k = ((s.data.toList[k]'(by simpa using h)).toNat : Int) := by
  unfold bt
  rw [dif_pos h]
  rfl
theorem bt_byte {s : ByteArray} {k : Nat} {c : UInt8} (h : k < s.size) : bt s k = (c.toNat : Int) ↔ s.data.toList[k]'(by simpa using h) = c := by
  rw [bt_list h]
  constructor
  · intro e
    apply UInt8.toNat_inj.1
    omega
  · intro e
    rw [e]
theorem drop_cut {l : List UInt8} {f k : Nat} (hf : f ≤ k) (hk : k < l.length) : l.drop f = (l.take k).drop f ++ l[k] :: l.drop (k + 1) := by
  have h1 : l = l.take k ++ l[k] :: l.drop (k + 1) := by simp
  have h2 : l.drop f = (l.take k ++ l[k] :: l.drop (k + 1)).drop f := by rw [← h1]
  rw [h2, List.drop_append_of_le_length (by rw [List.length_take]; omega)]
theorem mem_part {l : List UInt8} {f k : Nat} {c : UInt8} (h : ∀ j (hj : j < l.length), f ≤ j → j < k → l[j] ≠ c) : c ∉ (l.take k).drop f := by
  intro hm
  obtain ⟨i, hi, e⟩ := List.getElem_of_mem hm
  rw [List.length_drop, List.length_take] at hi
  rw [List.getElem_drop, List.getElem_take] at e
  exact h (f + i) (by omega) (by omega) (by omega) e
theorem part_data (s : ByteArray) (f k : Nat) : (s.extract f k).data.toList = (s.data.toList.take k).drop f := by
  rw [Lib.extract_data, List.drop_take]
theorem split_more {c : UInt8} {s : ByteArray} {L : List ByteArray} {f k : Nat} (hs : spl c s.data.toList = L.map (·.data.toList) ++ spl c (s.data.toList.drop f)) (hn : ∀ j, f ≤ j → j < k → bt s j ≠ (c.toNat : Int)) (hf : f ≤ k) (hk : k < s.size) (hc : bt s k = (c.toNat : Int)) :
    spl c s.data.toList = (L ++ [s.extract f k]).map (·.data.toList) ++ spl c (s.data.toList.drop (k + 1)) := by
  have hk' : k < s.data.toList.length := by simpa using hk
  have hb := (bt_byte hk).1 hc
  rw [hs, drop_cut hf hk', hb, spl_cut (mem_part (fun j hj h1 h2 e => hn j h1 h2 ((bt_byte (by simpa using hj)).2 e)))]
  rw [List.map_append, List.append_assoc]
  simp [List.drop_take]
theorem split_end {c : UInt8} {s : ByteArray} {L : List ByteArray} {f : Nat} (hs : spl c s.data.toList = L.map (·.data.toList) ++ spl c (s.data.toList.drop f)) (hn : ∀ j, f ≤ j → j < s.size → bt s j ≠ (c.toNat : Int)) (hf : f ≤ s.size) :
    splB c s = L ++ [s.extract f s.size] := by
  have hm : c ∉ s.data.toList.drop f := by
    have h := mem_part (l := s.data.toList) (f := f) (k := s.size) (c := c) (fun j hj h1 h2 e => hn j h1 h2 ((bt_byte (by simpa using hj)).2 e))
    rwa [List.take_of_length_le (by simp)] at h
  rw [spl_none hm] at hs
  unfold splB
  rw [hs]
  symm
  apply map_ba
  rw [List.map_append]
  congr 1
  simp [List.take_of_length_le]
theorem splB_length_le (c : UInt8) (s : ByteArray) : (splB c s).length ≤ s.size + 1 := by
  unfold splB
  rw [List.length_map]
  have := spl_count c s.data.toList
  simpa using this
set_option maxRecDepth 100000 in
set_option maxHeartbeats 2000000 in
theorem spec_l01Split (s : ByteArray) (c : UInt8) (ci : Int) (w : World) (hci : ci = (c.toNat : Int)) (hs : s.size ≤ 16777216) :
    Calls Tryd.prog 50 #[.string s, .int .u8 ci] w fun e w' => ∃ A' c', e = .returned (.slice A' (splB c s).length c') ∧ Own 9 1 encS w' w.heap.size w'.heap.size A' (splB c s).length c' (splB c s) ∧ Below w.heap.size w w' := by
  obtain ⟨i0, hi, hz0, hz1, hz2⟩ := info_parts info_Str
  have HI := hide hi
  have HZ0 := hide hz0
  have HZ1 := hide hz1
  have HZ2 := hide hz2
  have HC := hide hci
  clear hi hz0 hz1 hz2 hci
  go_enter Tryd.func50, Tryd.ntmps50
  go_wp2
  go_loopw [5, 6, 7] (fun v fr i wr => ∃ (k f : Nat) (L : List ByteArray), k ≤ s.size ∧ f ≤ k ∧ L.length ≤ k ∧ i = .int .i64 k ∧ fr = .int .i64 f ∧ Hid (spl c s.data.toList = L.map (·.data.toList) ++ spl c (s.data.toList.drop f)) ∧ Hid (∀ j, f ≤ j → j < k → bt s j ≠ (c.toNat : Int)) ∧ Hid (wr.ownsRow w.heap.size 9 1 v L.length (flat encS L)) ∧ Hid (Below w.heap.size w wr)) (fun _ _ i _ => s.size - (intOf i).toNat)
  case atStart => exact ⟨0, 0, [], by omega, by omega, by simp, rfl, rfl, hide rfl, hide (fun j h1 h2 => absurd h2 (by omega)), hide (own_empty w _ _ _ (Nat.le_refl _)), hide ((Below.refl _ _).alloc (Nat.le_refl _) _)⟩
  case round =>
    obtain ⟨k, f, L, hk, hf, hL, rfl, rfl, HS, HN, HO, HB⟩ := hrel
    have hz := HB.out.size
    by_cases hlt : k < s.size
    · have hb := get_bt s k
      have hki : (k : Int) < (s.size : Int) := by omega
      by_cases he : bt s k = ci
      · have hd : (bt s k == ci) = true := by simp [he]
        have HM := hide (split_more HS.out HN.out hf hlt (by rw [he]; exact HC.out))
        clear he
        go_wp2_with (at_builtin; refine wpList_append_own _ rfl _ _ 30 rfl w.heap.size 9 i0 (.string ⟨#[]⟩) 1 16 Tryd.underlying30 HI.out HZ0.out HZ1.out HZ2.out rfl (by decide) _ _ _ rfl (HO.out.alloc _) ⟨wr.heap.size, 0, none⟩ 1 1 [.string (s.extract f k)] rfl rfl (cell_one_new _ _ _) (fun x hx => by simp at hx; subst hx; rfl) (by unfold maxLen; omega) (by omega) (by simp; omega) ?_; intro v' w2 hown' hgrow hnil)
        have HO' := hide (own_pushS hown' (ys := L ++ [s.extract f k]) rfl)
        have HB' := hide (below_push2 HB.out (Nat.le_refl _) HO.out hgrow)
        clear hown' hgrow hnil
        go_roundw
        case rel => exact ⟨k + 1, k + 1, L ++ [s.extract f k], by omega, by omega, by rw [List.length_append]; simp; omega, by go_num, by go_num, HM, hide (fun j h1 h2 => absurd h2 (by omega)), HO', HB'⟩
        case measure => simp [intOf]; omega
      · have hd : (bt s k == ci) = false := by simp [he]
        have HM := hide (show ∀ j, f ≤ j → j < k + 1 → bt s j ≠ (c.toNat : Int) from fun j h1 h2 => by
          rcases Nat.lt_or_ge j k with h3 | h3
          · exact HN.out j h1 h3
          · obtain rfl : j = k := by omega
            rw [← HC.out]
            exact he)
        clear he
        go_wp2
        go_roundw
        case rel => exact ⟨k + 1, f, L, by omega, by omega, by omega, by go_num, rfl, HS, HM, HO, HB⟩
        case measure => simp [intOf]; omega
    · obtain rfl : k = s.size := by omega
      have HE := hide (split_end HS.out HN.out hf)
      go_wp2_with (at_builtin; refine wpList_append_own _ rfl _ _ 30 rfl w.heap.size 9 i0 (.string ⟨#[]⟩) 1 16 Tryd.underlying30 HI.out HZ0.out HZ1.out HZ2.out rfl (by decide) _ _ _ rfl (HO.out.alloc _) ⟨wr.heap.size, 0, none⟩ 1 1 [.string (s.extract f s.size)] rfl rfl (cell_one_new _ _ _) (fun x hx => by simp at hx; subst hx; rfl) (by unfold maxLen; omega) (by omega) (by simp; omega) ?_; intro v' w2 hown' hgrow hnil)
      have HO' := hide (own_pushS hown' (ys := splB c s) HE.out)
      have HB' := hide (below_push2 HB.out (Nat.le_refl _) HO.out hgrow)
      clear hown' hgrow hnil
      obtain ⟨A', c', rfl, ho⟩ := Own.of_row rfl HO'.out HB'.out.size
      have HO2 := hide ho
      clear ho
      go_wp2
      go_ret
      exact ⟨A', c', rfl, HO2.out, HB'.out⟩
end Go.Proofs.YtgobpleckeeheaaDoor
