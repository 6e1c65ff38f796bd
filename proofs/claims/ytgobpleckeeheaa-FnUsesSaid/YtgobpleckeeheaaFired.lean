/-
  What is proved: the sizes of a mould and its fired sizes as lists, of the program and of the reference. Conditions: sizes in a small range.
-/
import Derived.Test.YtgobpleckeeheaaMouldOk
import Derived.Test.YtgobpleckeeheaaIntS
import Derived.Laws.AppendOwn
import Derived.OwnWalk
import Derived.Maps.AppendAt
namespace Go.Proofs.Ytgobpleckeeheaa
open Go.RowKit
set_option linter.unusedVariables false

theorem own_weak {w : World} {base base' size n : Nat} {t : TypeId} {v : Value} {xs : List Value} (h : w.ownsRow base t size v n xs) (hb : base' ≤ base) : w.ownsRow base' t size v n xs :=
  ⟨h.1, h.2.imp id (fun ⟨g, a, b, h1, h2, h3⟩ => ⟨g, a, b, h1, Nat.le_trans hb h2, h3⟩)⟩
theorem own_three (w : World) (base : Nat) (t : TypeId) (a b c : Int) (hb : base ≤ w.heap.size) : (w.alloc (.cells #[.int .i64 a, .int .i64 b, .int .i64 c] t)).ownsRow base t 1 (.slice (some ⟨w.heap.size, 0, none⟩) 3 3) 3 (flat encI [a, b, c]) :=
  ⟨rfl, .inr ⟨w.heap.size, 3, _, rfl, hb, (show (w.heap.push _)[w.heap.size]? = _ from Array.getElem?_push_size), Nat.le_refl _, by unfold maxLen; omega, rfl, rfl⟩⟩
theorem impl_sizes (a b c d : Int) (w : World) :
    Calls Try.prog 110 #[.agg #[.int .i64 a, .int .i64 b, .int .i64 c, .int .i64 d]] w fun e w' => ∃ g, e = .returned (.slice (some ⟨g, 0, none⟩) 3 3) ∧ w'.ownsRow w.heap.size 2 1 (.slice (some ⟨g, 0, none⟩) 3 3) 3 (flat encI [a, b, c]) ∧ Below w.heap.size w w' := by
  go_enter Try.func110, Try.ntmps110
  go_wp2
  go_ret
  exact ⟨w.heap.size + 1, rfl, by
    have h := own_three (w.alloc (.cells #[.int .i64 a, .int .i64 b, .int .i64 c, .int .i64 d] 68)) w.heap.size 2 a b c (by simp)
    simpa using h, by go_grown⟩
theorem impl_fsizes (a b c d : Int) (w : World) :
    Calls Try.prog 79 #[.agg #[.int .i64 a, .int .i64 b, .int .i64 c, .int .i64 d]] w fun e w' => ∃ g, e = .returned (.slice (some ⟨g, 0, none⟩) 3 3) ∧ w'.ownsRow w.heap.size 2 1 (.slice (some ⟨g, 0, none⟩) 3 3) 3 (flat encI [a, b, c]) ∧ Below w.heap.size w w' := by
  go_enter Try.func79, Try.ntmps79
  go_wp2
  go_ret
  exact ⟨w.heap.size + 1, rfl, by
    have h := own_three (w.alloc (.cells #[.int .i64 a, .int .i64 b, .int .i64 c, .int .i64 d] 55)) w.heap.size 2 a b c (by simp)
    simpa using h, by go_grown⟩
set_option maxRecDepth 100000 in
theorem spec_l05Sizes (a b c d : Int) (g off : Nat) (w : World) (hc0 : w.cell? ⟨g, off, none⟩ = some (.int .i64 a)) (hc1 : w.cell? ⟨g, off + 1, none⟩ = some (.int .i64 b)) (hc2 : w.cell? ⟨g, off + 2, none⟩ = some (.int .i64 c)) (hc3 : w.cell? ⟨g, off + 3, none⟩ = some (.int .i64 d)) :
    Calls Try.prog 123 #[.pointer (some ⟨g, off, none⟩)] w fun e w' => ∃ g, e = .returned (.slice (some ⟨g, 0, none⟩) 3 3) ∧ w'.ownsRow w.heap.size 2 1 (.slice (some ⟨g, 0, none⟩) 3 3) 3 (flat encI [a, b, c]) ∧ Below w.heap.size w w' := by
  go_enter Try.func123, Try.ntmps123
  go_wp2
  refine wp_region_still_tail 12 (by kernel_rfl) (by kernel_rfl) ?_
  simp only [List.take_succ_cons, List.take_zero, List.drop_succ_cons, List.drop_zero]
  repeat still_step
  refine wpStill_nil ?_
  change wpList _ _ _ _ _ w.drew
  go_wp2
  go_ret
  exact ⟨w.heap.size, rfl, own_three w.drew w.heap.size 2 a b c (Nat.le_refl _), (Below.refl _ _).drew.alloc (Nat.le_refl _) _⟩
theorem impl_firedSizes (a b c d s : Int) (w : World) (ha : 0 ≤ a ∧ a ≤ 100000) (hb : 0 ≤ b ∧ b ≤ 100000) (hc : 0 ≤ c ∧ c ≤ 100000) (hs : 0 ≤ s ∧ s ≤ 1000) :
    Calls Try.prog 80 #[.agg #[.int .i64 a, .int .i64 b, .int .i64 c, .int .i64 d], .int .i64 s] w fun e w' => ∃ g, e = .returned (.slice (some ⟨g, 0, none⟩) 3 3) ∧ w'.ownsRow w.heap.size 2 1 (.slice (some ⟨g, 0, none⟩) 3 3) 3 (flat encI [firedI a s, firedI b s, firedI c s]) ∧ Below w.heap.size w w' := by
  go_enter Try.func80, Try.ntmps80
  go_wp2_with fail
  refine (impl_sizes _ _ _ _ _).mono ?_
  rintro e w1 ⟨g, rfl, hown, hb1⟩
  have HB1 := hide (((Below.refl w.heap.size w).alloc (Nat.le_refl _) (.cells #[.int .i64 a, .int .i64 b, .int .i64 c, .int .i64 d] 68)).trans (hb1.mono (by simp)))
  have hown := own_weak (base' := w.heap.size) hown (by simp)
  have HO1 := hide hown
  have hg := own_lt hown
  obtain ⟨c0, f0⟩ := own_int_at (i := 0) hown rfl
  obtain ⟨c1, f1⟩ := own_int_at (i := 1) hown rfl
  obtain ⟨c2, f2⟩ := own_int_at (i := 2) hown rfl
  clear hown hb1
  go_wp2
  refine wp_loop_rounds 4 ?_
  rw [rounds_succ]
  go_wp2_with fail
  refine (impl_fired _ _ _ ha.1 ha.2 hs.1 hs.2).mono ?_
  rintro e v1 ⟨rfl, rfl⟩
  go_wp2
  rw [rounds_succ]
  go_wp2_with fail
  refine (impl_fired _ _ _ hb.1 hb.2 hs.1 hs.2).mono ?_
  rintro e v2 ⟨rfl, rfl⟩
  go_wp2
  rw [rounds_succ]
  go_wp2_with fail
  refine (impl_fired _ _ _ hc.1 hc.2 hs.1 hs.2).mono ?_
  rintro e v3 ⟨rfl, rfl⟩
  go_wp2
  rw [rounds_succ]
  go_wp2
  go_ret
  have s1 := own_int_set (i := 0) (firedI a s) HO1.out (by omega)
  have s2 := own_int_set (i := 1) (firedI b s) s1.1 (by omega)
  have s3 := own_int_set (i := 2) (firedI c s) s2.1 (by omega)
  exact ⟨g, rfl, s3.1, HB1.out.trans (grown_below (grown_trans (grown_trans s1.2 s2.2) s3.2) hg.1 HB1.out.size)⟩
theorem impl_firedOwn (a b c d s : Int) (w : World) (ha : 0 ≤ a ∧ a ≤ 100000) (hb : 0 ≤ b ∧ b ≤ 100000) (hc : 0 ≤ c ∧ c ≤ 100000) (hs : 0 ≤ s ∧ s ≤ 1000) :
    Calls Try.prog 80 #[.agg #[.int .i64 a, .int .i64 b, .int .i64 c, .int .i64 d], .int .i64 s] w fun e w' => ∃ A' c', e = .returned (.slice A' 3 c') ∧ Own 2 1 encI w' w.heap.size w'.heap.size A' 3 c' [firedI a s, firedI b s, firedI c s] ∧ Below w.heap.size w w' :=
  (impl_firedSizes a b c d s w ha hb hc hs).mono fun e w' ⟨g, he, ho, hb⟩ => ⟨_, _, he, ⟨rfl, ho, fun a ha => by
    obtain rfl := Option.some.inj ha
    exact (own_lt ho).2, Nat.le_refl _⟩, hb⟩
set_option maxHeartbeats 1000000 in
theorem spec_l05All (a b c d s : Int) (p off : Nat) (w : World) (hc0 : w.cell? ⟨p, off, none⟩ = some (.int .i64 a)) (hc1 : w.cell? ⟨p, off + 1, none⟩ = some (.int .i64 b)) (hc2 : w.cell? ⟨p, off + 2, none⟩ = some (.int .i64 c)) (hc3 : w.cell? ⟨p, off + 3, none⟩ = some (.int .i64 d)) (hp : p < w.heap.size) (ha : 0 ≤ a ∧ a ≤ 100000) (hb : 0 ≤ b ∧ b ≤ 100000) (hc : 0 ≤ c ∧ c ≤ 100000) (hs : 0 ≤ s ∧ s ≤ 1000) :
    Calls Try.prog 112 #[.pointer (some ⟨p, off, none⟩), .int .i64 s] w fun e w' => ∃ A' c', e = .returned (.slice A' 3 c') ∧ Own 2 1 encI w' w.heap.size w'.heap.size A' 3 c' [firedI a s, firedI b s, firedI c s] ∧ Below w.heap.size w w' := by
  obtain ⟨i0, hi, hz0, hz1, hz2⟩ := info_parts (show (Try.prog.info? 2).map (fun i => (i.zero, i.size, i.bytes)) = some (some (.int .i64 0), 1, 8) from by kernel_rfl)
  have HI := hide hi
  have HZ0 := hide hz0
  have HZ1 := hide hz1
  have HZ2 := hide hz2
  clear hi hz0 hz1 hz2
  go_enter Try.func112, Try.ntmps112
  go_wp2_with fail
  refine (spec_l05Sizes a b c d _ _ _ ((World.cell?_alloc_lt _ _ _ hp).trans hc0) ((World.cell?_alloc_lt _ _ _ hp).trans hc1) ((World.cell?_alloc_lt _ _ _ hp).trans hc2) ((World.cell?_alloc_lt _ _ _ hp).trans hc3)).mono ?_
  rintro e w1 ⟨g, rfl, hown, hb1⟩
  have HB1 := hide (((Below.refl w.heap.size w).alloc (Nat.le_refl _) (.cells #[] 2)).trans (hb1.mono (by simp)))
  have hs1 := hb1.size
  have hg := own_lt hown
  have HO0 := hide (own_below (own_empty w w.heap.size 1 2 (Nat.le_refl _)) hb1)
  have HL := hide hown
  clear hown hb1 hc0 hc1 hc2 hc3
  simp at hs1 hg
  go_wp2
  go_loopw [5, 7] (fun v i wr => ∃ k : Nat, k ≤ 3 ∧ i = .int .i64 k ∧ Hid (wr.ownsRow w.heap.size 2 1 v k (flat encI ([firedI a s, firedI b s, firedI c s].take k))) ∧ Hid (v.ownBlock ≠ some g) ∧ Hid (wr.ownsRow w.heap.size 2 1 (.slice (some ⟨g, 0, none⟩) 3 3) 3 (flat encI [a, b, c])) ∧ Hid (Below w.heap.size w wr)) (fun _ i _ => 3 - (intOf i).toNat)
  case atStart => exact ⟨0, by omega, rfl, HO0, hide (fun h => by have h1 : w.heap.size = g := Option.some.inj h; omega), hide (own_weak HL.out (by simp)), HB1⟩
  case round =>
    clear HL HO0 HB1
    obtain ⟨k, hk, rfl, HO, HN, HL, HB⟩ := hrel
    by_cases hlt : k < 3
    · obtain ⟨x, hx, hxr, hF⟩ : ∃ x, [a, b, c][k]? = some x ∧ (0 ≤ x ∧ x ≤ 100000) ∧ [firedI a s, firedI b s, firedI c s].take (k + 1) = [firedI a s, firedI b s, firedI c s].take k ++ [firedI x s] := by
        rcases (by omega : k = 0 ∨ k = 1 ∨ k = 2) with rfl | rfl | rfl
        · exact ⟨a, rfl, ha, rfl⟩
        · exact ⟨b, rfl, hb, rfl⟩
        · exact ⟨c, rfl, hc, rfl⟩
      have c0 := (own_int_at HL.out hx).1
      have hgl := (own_lt HL.out).2
      have HF := hide hF
      have hki : (k : Int) < 3 := by omega
      clear hx hF
      go_wp2_with fail
      refine (spec_l05Fired x s _ hxr.1 hxr.2 hs.1 hs.2).mono ?_
      rintro e w2 ⟨rfl, rfl⟩
      go_wp2_with (first
        | (at_builtin
           refine wpList_append_own_at _ rfl _ _ 29 rfl w.heap.size 2 i0 (.int .i64 0) 1 8 Try.underlying29 HI.out HZ0.out HZ1.out HZ2.out rfl (by decide) _ _ _ rfl (HO.out.alloc _) ⟨wr.heap.size, 0, none⟩ 1 1 [.int .i64 (firedI x s)] rfl rfl (cell_one_new _ _ _) (fun x hx => by simp at hx; subst hx; rfl) (by unfold maxLen; omega) (by omega) (by have := HB.out.size; simp; omega) ?_
           intro v' w2 hown' hgrow hnil hloc
           have HO' := hide hown'
           have HG := hide hgrow
           have HLoc := hide hloc
           clear hown' hgrow hnil hloc))
      go_roundw
      case rel =>
        refine ⟨k + 1, by omega, by go_num, hide ?_, hide ?_, hide ((HL.out.alloc _).kept HG.out (Or.inr ?_)), hide (below_push HB.out HO.out HG.out)⟩
        · rw [HF.out, flat_append]; exact HO'.out
        · rcases HLoc.out with h | h
          · rw [h]; exact HN.out
          · rw [h]; intro q; injection q with q; simp at q; omega
        · exact fun q => HN.out q.symm
      case measure => simp [intOf]; omega
    · obtain rfl : k = 3 := by omega
      obtain ⟨A', c', rfl, ho⟩ := Own.of_row (xs := [firedI a s, firedI b s, firedI c s]) rfl HO.out HB.out.size
      have HO' := hide ho
      clear ho
      go_wp2
      go_ret
      exact ⟨A', c', rfl, HO'.out, HB.out⟩
end Go.Proofs.Ytgobpleckeeheaa
