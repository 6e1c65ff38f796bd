/-
  What is proved: the words of a text (the parts between blanks that are not empty), of the program and of the reference. Condition: a length that fits; the library's own variable holds some number.
-/
import Derived.Test.YtjoepnmmcagggaaDoorLibN
import Derived.Lib.OwnBridge
import Derived.PlainAid
namespace Go.Proofs.YtjoepnmmcagggaaDoor
open Go.RowKit Go.PlainAid
set_option linter.unusedVariables false

theorem flatS_map (xs : List ByteArray) : flat encS xs = xs.map Value.string := by
  induction xs with
  | nil => rfl
  | cons x xs ih => simp only [flat, List.flatMap_cons, List.map_cons] at ih ⊢; rw [ih]; rfl
theorem own_builtS (w : World) (xs : List ByteArray) (t : TypeId) (n : Nat) (hn : xs.length = n) (hm : n ≤ maxLen) :
    (w.alloc (.cells (xs.map Value.string).toArray t)).ownsRow w.heap.size t 1 (.slice (some ⟨w.heap.size, 0, none⟩) n n) n (xs.map Value.string) :=
  ⟨by rw [List.length_map]; omega, .inr ⟨w.heap.size, n, (xs.map Value.string).toArray, rfl, Nat.le_refl _, (show (w.heap.push _)[w.heap.size]? = _ from Array.getElem?_push_size), Nat.le_refl _, hm, by simp; omega, by simp [List.take_of_length_le, hn]⟩⟩
def wordsB (s : ByteArray) : List ByteArray := (splB 32 s).filter fun x => !x.toList.isEmpty
theorem wordsB_le (s : ByteArray) : (wordsB s).length ≤ s.size + 1 := Nat.le_trans (List.length_filter_le _ _) (splB_length_le 32 s)
theorem split_at (c : UInt8) (s : ByteArray) (w : World) (hs : s.size ≤ 16777216) (hm : MaxLenIs w) :
    Calls Tryd.prog 63 #[.string s, .string ⟨#[c]⟩] w fun e w' => e = .returned (.slice (some ⟨w.heap.size, 0, none⟩) (splB c s).length (splB c s).length) ∧ w' = w.alloc (.cells ((splB c s).map Value.string).toArray 9) := by
  obtain ⟨m, hm⟩ := hm
  refine (Tryd.strings_Split s ⟨#[c]⟩ m w (by omega) hm (by show 1 ≤ 1; omega)).mono fun e w' ⟨he, hw⟩ => ?_
  have ec : Lib.countB s ⟨#[c]⟩ = s.data.toList.count c := Lib.count_one c _
  have e1 : Lib.splitB ⟨#[c]⟩ 0 (Lib.countB s ⟨#[c]⟩) s = splB c s := by
    unfold splB
    apply map_ba
    rw [Lib.splitB_data, ec]
    exact splitK_all (by rw [spl_length]; exact Nat.le_refl _)
  have e2 : (splB c s).length = Lib.countB s ⟨#[c]⟩ + 1 := by rw [ec]; unfold splB; rw [List.length_map, spl_length]
  rw [e1] at hw
  exact ⟨by rw [e2]; exact he, hw⟩
theorem gives_empty (x : ByteArray) (W : World) : FnGives Tryd.prog 64 #[] #[.string x] (.bool x.toList.isEmpty) W := by
  show Calls Tryd.prog 64 #[.string x] W _
  go_enter Tryd.func64, Tryd.ntmps64
  go_wp2
  go_ret
  exact ⟨rfl, 0, rfl⟩
theorem delete_is (xs : List ByteArray) (n : Nat) (w : World) (hn : xs.length = n) (hm : n ≤ 16777217) :
    Calls Tryd.prog 62 #[.slice (some ⟨w.heap.size, 0, none⟩) n n, .func (.func 64) #[] #[]] (w.alloc (.cells (xs.map Value.string).toArray 9)) fun e w' =>
      ∃ A' c', e = .returned (.slice A' (xs.filter fun x => !x.toList.isEmpty).length c') ∧ Own 9 1 encS w' w.heap.size w'.heap.size A' (xs.filter fun x => !x.toList.isEmpty).length c' (xs.filter fun x => !x.toList.isEmpty) ∧ Below w.heap.size w w' := by
  have eg : ∀ args w, (callFunc 64 args).run Tryd.prog w = .ok (.enter 64 args) w := enters_of Tryd.func64 (by kernel_rfl) rfl
  have hown := own_builtS w xs 9 n hn (by unfold maxLen; omega)
  have hcon := Tryd.slices_DeleteFunc Value.string (fun _ => rfl) (fun x => x.toList.isEmpty) 64 #[] eg ⟨#[]⟩ Tryd.zeroValue9 w.heap.size 0 n xs.toArray (w.alloc (.cells (xs.map Value.string).toArray 9))
    (fun W x _ => gives_empty x W) (fun _ _ _ x _ => gives_empty x _)
    (by
      obtain ⟨g, cap, e0, _, _, _, _, _, hH⟩ := Lib.holds_of_ownsRow hown (by intro q; injection q with q; cases q)
      injection e0 with e0
      injection e0 with e0
      injection e0 with e0
      subst e0
      exact hH)
    (by simp; omega) (by simp; omega)
  have hsz : xs.toArray.size = n := by simpa using hn
  have htl : xs.toArray.toList = xs := by simp
  rw [hsz, htl] at hcon
  refine hcon.mono fun e w' ⟨he, q, hw⟩ => ?_
  generalize hF : (xs.filter fun x => !x.toList.isEmpty) = F at *
  have hFl : F.length ≤ n := by rw [← hF, ← hn]; exact List.length_filter_le _ _
  have hup := Lib.ownsRow_putRow (q := q) (k := F.length) (ys := F ++ List.replicate (n - F.length) ⟨#[]⟩) hown (by simp; omega) hFl
  rw [← hw, List.take_left, ← flatS_map] at hup
  have hbel : Below w.heap.size w w' := by
    rw [hw]
    exact Lib.below_putRow ((Below.refl _ _).alloc (Nat.le_refl _) _) (Nat.le_refl _)
  refine ⟨_, _, he, ⟨rfl, hup, fun a ha => ?_, Nat.le_refl _⟩, hbel⟩
  obtain rfl := Option.some.inj ha
  have : w'.heap.size = w.heap.size + 1 := by rw [hw]; simp [Sort.ahead]
  show w.heap.size < w'.heap.size
  omega
theorem impl_splitWords (s : ByteArray) (w : World) (hs : s.size ≤ 16777216) (hm : MaxLenIs w) :
    Calls Tryd.prog 26 #[.string s] w fun e w' => ∃ A' c', e = .returned (.slice A' (wordsB s).length c') ∧ Own 9 1 encS w' w.heap.size w'.heap.size A' (wordsB s).length c' (wordsB s) ∧ Below w.heap.size w w' := by
  have HM := hide hm
  have hl := splB_length_le 32 s
  clear hm
  go_enter Tryd.func26, Tryd.ntmps26
  go_wp2_with fail
  refine (split_at 32 s _ hs HM.out).mono ?_
  rintro e w1 ⟨rfl, rfl⟩
  go_wp2_with fail
  refine (delete_is (splB 32 s) _ w rfl (by omega)).mono ?_
  rintro e w2 ⟨A', c', rfl, ho, hb⟩
  have HO := hide ho
  have HB := hide hb
  clear ho hb
  go_wp2
  go_ret
  exact ⟨A', c', rfl, HO.out, HB.out⟩
theorem filter_more {xs : List ByteArray} {k : Nat} {x : ByteArray} (h : xs[k]? = some x) (hx : x.toList.isEmpty = false) : ((xs.take (k + 1)).filter fun x => !x.toList.isEmpty) = ((xs.take k).filter fun x => !x.toList.isEmpty) ++ [x] := by
  rw [List.take_add_one, h, List.filter_append]
  simp [List.filter, hx]
theorem filter_same {xs : List ByteArray} {k : Nat} {x : ByteArray} (h : xs[k]? = some x) (hx : x.toList.isEmpty = true) : ((xs.take (k + 1)).filter fun x => !x.toList.isEmpty) = ((xs.take k).filter fun x => !x.toList.isEmpty) := by
  rw [List.take_add_one, h, List.filter_append]
  simp [List.filter, hx]
set_option maxRecDepth 100000 in
set_option maxHeartbeats 2000000 in
theorem spec_splitWords (s : ByteArray) (w : World) (hs : s.size ≤ 1048576) :
    Calls Tryd.prog 25 #[.string s] w fun e w' => ∃ A' c', e = .returned (.slice A' (wordsB s).length c') ∧ Own 9 1 encS w' w.heap.size w'.heap.size A' (wordsB s).length c' (wordsB s) ∧ Below w.heap.size w w' := by
  obtain ⟨i0, hi, hz0, hz1, hz2⟩ := info_parts info_Str
  have HI := hide hi
  have HZ0 := hide hz0
  have HZ1 := hide hz1
  have HZ2 := hide hz2
  have hl := splB_length_le 32 s
  obtain ⟨xs, hxs⟩ : ∃ xs, splB 32 s = xs := ⟨_, rfl⟩
  have hW : wordsB s = xs.filter fun x => !x.toList.isEmpty := by unfold wordsB; rw [hxs]
  have HX := hide hxs
  rw [hxs] at hl
  obtain ⟨fl, hfl⟩ : ∃ fl, (xs.filter fun x => !x.toList.isEmpty) = fl := ⟨_, rfl⟩
  rw [hW, hfl]
  have HFL := hide hfl
  clear hi hz0 hz1 hz2 hxs hW hfl
  go_enter Tryd.func25, Tryd.ntmps25
  go_wp2_with fail
  refine (spec_l01Split s 32 32 _ rfl (by omega)).mono ?_
  rintro e w1 ⟨A1, c1, rfl, ho, hb1⟩
  rw [HX.out] at ho ⊢
  have HR := hide (ho.row (k := 1) (enc := encS) (fun _ => rfl))
  have HB1 := hide hb1
  have hz1 := hb1.size
  obtain ⟨n, hn⟩ : ∃ n, xs.length = n := ⟨_, rfl⟩
  have HN := hide hn
  rw [hn] at hl
  rw [hn]
  clear ho hb1 hn
  go_wp2
  go_loopw [4, 5] (fun v i wr => ∃ (k : Nat) (F : List ByteArray), k ≤ n ∧ i = .int .i64 k ∧ F.length ≤ k ∧ Hid (((xs.take k).filter fun x => !x.toList.isEmpty) = F) ∧ Hid (wr.ownsRow w1.heap.size 9 1 v F.length (flat encS F)) ∧ Hid (Below w1.heap.size w1 wr)) (fun _ i _ => n - (intOf i).toNat)
  case atStart => exact ⟨0, [], by omega, rfl, by simp, hide rfl, hide (own_empty w1 _ _ _ (Nat.le_refl _)), hide ((Below.refl _ _).alloc (Nat.le_refl _) _)⟩
  case round =>
    obtain ⟨k, F, hk, rfl, hFk, HF, HO, HA⟩ := hrel
    have hz := HA.out.size
    by_cases hlt : k < n
    · obtain ⟨x, hzk⟩ : ∃ z, xs[k]? = some z := ⟨xs[k]'(by have := HN.out; omega), List.getElem?_eq_getElem _⟩
      obtain ⟨b, off, e0, hb, a0⟩ := row_at_1 (HR.out.below HA.out) hzk rfl
      subst e0
      have hki : (k : Int) < (n : Int) := by omega
      cases hx : x.toList.isEmpty with
      | true =>
        have HS := hide (show ((xs.take (k + 1)).filter fun x => !x.toList.isEmpty) = F from by rw [filter_same hzk hx]; exact HF.out)
        clear hzk
        go_wp2
        go_roundw
        case rel => exact ⟨k + 1, F, by omega, by go_num, by omega, HS, HO, HA⟩
        case measure => simp [intOf]; omega
      | false =>
        have HS := hide (show ((xs.take (k + 1)).filter fun x => !x.toList.isEmpty) = F ++ [x] from by rw [filter_more hzk hx]; rw [HF.out])
        clear hzk
        go_wp2_with (at_builtin; refine wpList_append_own _ rfl _ _ 43 rfl w1.heap.size 9 i0 (.string ⟨#[]⟩) 1 16 Tryd.underlying43 HI.out HZ0.out HZ1.out HZ2.out rfl (by decide) _ _ _ rfl (HO.out.alloc _) ⟨wr.heap.size, 0, none⟩ 1 1 [.string x] rfl rfl (cell_one_new _ _ _) (fun x hx => by simp at hx; subst hx; rfl) (by unfold maxLen; omega) (by omega) (by simp; omega) ?_; intro v' w3 hown' hgrow hnil)
        have HO' := hide (own_pushS hown' (ys := F ++ [x]) rfl)
        have HA' := hide (below_push2 HA.out (Nat.le_refl _) HO.out hgrow)
        clear hown' hgrow hnil
        go_roundw
        case rel => exact ⟨k + 1, F ++ [x], by omega, by go_num, by simp; omega, HS, HO', HA'⟩
        case measure => simp [intOf]; omega
    · obtain rfl : k = n := by omega
      have hF := HF.out
      rw [List.take_of_length_le (by rw [HN.out]; exact Nat.le_refl _), HFL.out] at hF
      subst hF
      obtain ⟨A', c', rfl, ho⟩ := Own.of_row rfl HO.out HA.out.size
      have HO2 := hide ho
      clear ho
      go_wp2
      go_ret
      exact ⟨A', c', rfl, ⟨HO2.out.len, own_lowS HO2.out.own hz1, HO2.out.up, HO2.out.hi_le⟩, HB1.out.trans (HA.out.mono hz1)⟩
end Go.Proofs.YtjoepnmmcagggaaDoor
