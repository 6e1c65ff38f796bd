/-
  What is proved: what the reference draws for SameMoulds: two lists. Conditions: as for the source.
-/
import Derived.Test.YtgobpleckeeheaaDrawM2
import Derived.Deep.RegionWith
namespace Go.Proofs.Ytgobpleckeeheaa
open Go.RowKit
set_option linter.unusedVariables false

/-- Two lists of moulds. -/
def MPostS (w : World) (e : Ending) (w' : World) : Prop :=
  ∃ (zs ys : List Mould) (g d g' d' : Nat), zs.length ≤ 6 ∧ ys.length ≤ 7 ∧ e = .returned (.tuple #[.slice (some ⟨g, 0, none⟩) zs.length d, .slice (some ⟨g', 0, none⟩) ys.length d']) ∧ Row Mould.enc 4 w' (some ⟨g, 0, none⟩) zs ∧ Row Mould.enc 4 w' (some ⟨g', 0, none⟩) ys ∧ Below w.heap.size w w'
theorem Row.alloc' {α : Type} {enc : α → List Value} {k : Nat} {w : World} {A : Option Addr} {xs : List α} (h : Row enc k w A xs) (o : Obj) : Row enc k (w.alloc o) A xs := h.below ((Below.refl _ _).alloc (Nat.le_refl _) o)
set_option maxRecDepth 100000 in
set_option maxHeartbeats 4000000 in
theorem src_DrawSameMoulds (w : World) (A : Option Addr) (n c : Nat) (z : List Int) (ha : ArgInts .u8 w A n c z) :
    Calls Try.prog 32 #[.slice A n c] w (MPostS w) := by
  obtain ⟨i0, hi, hy0, hy1, hy2⟩ := info_parts info_Mould
  have HI := hide hi
  have HY0 := hide hy0
  have HY1 := hide hy1
  have HY2 := hide hy2
  have HA := hide ha
  clear ha hi hy0 hy1 hy2
  go_enter Try.func32, Try.ntmps32
  go_wp2_with fail
  refine (src_from _ _ _ _).mono ?_
  rintro e w1 ⟨rfl, hw1⟩
  obtain ⟨hs, hb1⟩ := src_start _ _ _ _ _ hw1
  have HS := hide hs
  have HB := hide hb1
  have hz1 := hs.lt
  clear hs hb1 hw1
  go_wp2_with fail
  refine (src_l05Draw w _ w.heap.size A n c 0 z (by omega) HA.out HS.out).mono ?_
  rintro e w2 ⟨zs, g, d, k2, hl2, rfl, hw2, hk2, hs2, ho2⟩
  obtain ⟨nz, hnz⟩ : ∃ r, zs.length = r := ⟨_, rfl⟩
  rw [hnz] at hw2 hl2 ⊢
  have HNZ := hide hnz
  have HS2 := hide hs2
  have HR2 := hide (show Row Mould.enc 4 w2 (some ⟨g, 0, none⟩) zs from hw2.row (fun _ => rfl))
  have HO2 := hide ho2
  have hz2 := ho2.size
  have hgl := own_lt hw2.own
  have HF := hide (show (flat Mould.enc zs).length = nz * 4 from by rw [flat_length (enc := Mould.enc) (k := 4) (fun _ => rfl), hnz])
  have HE := hide (own_empty w2 w2.heap.size 4 68 (Nat.le_refl _))
  clear hs2 ho2 hw2 hnz HS
  by_cases hp : 0 < nz
  case neg =>
    obtain rfl : nz = 0 := by omega
    go_wp2_with (first
      | (at_builtin
         refine wpList_append_own _ rfl _ _ 50 rfl w2.heap.size 68 i0 _ 4 32 Try.underlying50 HI.out HY0.out HY1.out HY2.out rfl (by decide) _ _ _ rfl (own_empty w2 w2.heap.size 4 68 (Nat.le_refl _)) ⟨g, 0, none⟩ 0 d (flat Mould.enc zs) rfl HF.out (row_news (fun _ => rfl) (by omega) (HR2.out.alloc' _)) enc_oneCell (by unfold maxLen; omega) (by omega) (by simp) ?_
         intro v' w3 hown' hgrow hnil
         have hown2 := hown'
         rw [Nat.zero_add, List.nil_append] at hown2
         obtain ⟨g2, c2, rfl, hg2⟩ : ∃ g2 c2, v' = .slice (some ⟨g2, 0, none⟩) 0 c2 ∧ w2.heap.size ≤ g2 := by
           rcases hown2.2 with ⟨hv, h0⟩ | ⟨g2, cap, cur, hv, hb, -⟩
           · have := (hnil.1 hv).1
             injection this with h1 h2 h3
             cases h1
           · exact ⟨g2, cap, hv, hb⟩))
    have HW3 := hide hown2
    have HR3 := hide ((HR2.out.alloc' _).grown hgrow (fun a j h1 h2 => by injection h1 with h1; subst h1; have := (HE.out.lt j h2).1; show g ≠ j; omega))
    have HS3 := hide (src_grown (HS2.out.alloc _) hgrow (fun q => by have := (HE.out.lt _ q.symm).1; omega) (fun j hj => by have := (HE.out.lt j hj).1; omega))
    have HO3 := hide (only_grown (HO2.out.alloc _) hgrow (fun j hj => by have := (HE.out.lt j hj).1; omega))
    have hz3 := HO3.out.size
    clear hown' hown2 hgrow hnil HS2 HR2 HO2 HF
    refine (src_one w _ w.heap.size A n c _ z 5 (by omega) (by omega) (by omega) HA.out HS3.out).mono ?_
    rintro e t1 ⟨yes, m1, rfl, hm1, ts1, to1⟩
    have TS1 := hide ts1
    have TO1 := hide (HO3.out.trans to1)
    have TW1 := hide (owns_only HW3.out to1 (by omega))
    have TR1 := hide (row_only HR3.out to1 (fun a h => by injection h with h; subst h; show g ≠ w.heap.size; omega))
    have tz1 := TO1.out.size
    have tz2 := own_lt TW1.out
    clear ts1 to1
    cases yes
    · go_wp2
      go_ret2
      refine ⟨zs, zs, g, d, g2, _, by rw [HNZ.out]; exact hl2, by rw [HNZ.out]; omega, by first | (rw [HNZ.out, HNZ.out]; rfl) | (rw [HNZ.out]; rfl), TR1.out, Row.of_own (fun _ => rfl) HNZ.out TW1.out, HB.out.trans (TO1.out.below (Nat.le_refl _) (by omega))⟩
    · go_wp2_with (at_builtin; go_loud (refine wpList_append_lies _ rfl _ _ _ rfl w2.heap.size 68 i0 _ 4 32 Try.underlying50 HI.out HY0.out HY1.out HY2.out rfl (by omega) _ 0 (flat Mould.enc (zs)) rfl (TW1.out.alloc _) ⟨t1.heap.size, 0, none⟩ 1 1 [.int .i64 0, .int .i64 0, .int .i64 0, .int .i64 0] rfl rfl (mould_new_at _ _ _ _ _ _ _ rfl) mould_one (by omega) (by unfold maxLen; omega) (by omega) (by simp; omega) (t1.heap.size + 1) (by simp) ?_; intro g3 cap3 t2 hown8 hgrow hat hlt2))
      rw [show flat Mould.enc (zs) ++ [Value.int .i64 0, .int .i64 0, .int .i64 0, .int .i64 0] = flat Mould.enc ((zs) ++ [⟨0, 0, 0, 0⟩]) from flat_push (zs) ⟨0, 0, 0, 0⟩] at hown8
      have hls : ((zs) ++ [(⟨0, 0, 0, 0⟩ : Mould)]).length = 0 + 1 := by rw [List.length_append, HNZ.out]; rfl
      have TR2 := hide ((TR1.out.alloc' _).grown hgrow (fun a j h1 h2 => by injection h1 with h1; subst h1; have := (TW1.out.lt j h2).1; show g ≠ j; omega))
      have TO2 := hide (only_grown (TO1.out.alloc _) hgrow (fun j hj => by have := (TW1.out.lt j hj).1; omega))
      have TW2 := hide hown8
      have HLS := hide hls
      clear hown8 hgrow hat hls
      go_wp2
      go_ret2
      refine ⟨zs, (zs) ++ [⟨0, 0, 0, 0⟩], g, d, g3, _, by rw [HNZ.out]; exact hl2, by rw [HLS.out]; omega, by rw [HNZ.out, HLS.out]; rfl, TR2.out, Row.of_own (fun _ => rfl) HLS.out TW2.out, HB.out.trans (TO2.out.below (Nat.le_refl _) (by omega))⟩
  go_wp2_with (first
    | (at_builtin
       refine wpList_append_own _ rfl _ _ 50 rfl w2.heap.size 68 i0 _ 4 32 Try.underlying50 HI.out HY0.out HY1.out HY2.out rfl (by decide) _ _ _ rfl (own_empty w2 w2.heap.size 4 68 (Nat.le_refl _)) ⟨g, 0, none⟩ nz d (flat Mould.enc zs) rfl HF.out (row_news (fun _ => rfl) (by omega) (HR2.out.alloc' _)) enc_oneCell (by unfold maxLen; omega) (by omega) (by simp) ?_
       intro v' w3 hown' hgrow hnil
       have hown2 := hown'
       rw [Nat.zero_add, List.nil_append] at hown2
       obtain ⟨g2, c2, rfl, hg2⟩ : ∃ g2 c2, v' = .slice (some ⟨g2, 0, none⟩) nz c2 ∧ w2.heap.size ≤ g2 := by
         rcases hown2.2 with ⟨hv, h0⟩ | ⟨g2, cap, cur, hv, hb, -⟩
         · have := (hnil.1 hv).1
           injection this with h1 h2 h3
           cases h1
         · exact ⟨g2, cap, hv, hb⟩))
  have HW3 := hide hown2
  have HR3 := hide ((HR2.out.alloc' _).grown hgrow (fun a j h1 h2 => by injection h1 with h1; subst h1; have := (HE.out.lt j h2).1; show g ≠ j; omega))
  have HS3 := hide (src_grown (HS2.out.alloc _) hgrow (fun q => by have := (HE.out.lt _ q.symm).1; omega) (fun j hj => by have := (HE.out.lt j hj).1; omega))
  have HO3 := hide (only_grown (HO2.out.alloc _) hgrow (fun j hj => by have := (HE.out.lt j hj).1; omega))
  have hz3 := HO3.out.size
  clear hown' hown2 hgrow hnil HS2 HR2 HO2 HF
  refine (src_one w _ w.heap.size A n c _ z 2 (by omega) (by omega) (by omega) HA.out HS3.out).mono ?_
  rintro e w4 ⟨yes, k4, rfl, hk4, hs4, ho4⟩
  have HS4 := hide hs4
  have HO4 := hide (HO3.out.trans ho4)
  have HW4 := hide (owns_only HW3.out ho4 (by omega))
  have HR4 := hide (row_only HR3.out ho4 (fun a h => by injection h with h; subst h; show g ≠ w.heap.size; omega))
  have hz4 := HO4.out.size
  clear hs4 ho4
  cases yes
  · go_wp2_with fail
    refine (src_one w _ w.heap.size A n c _ z 5 (by omega) (by omega) (by omega) HA.out HS4.out).mono ?_
    rintro e t1 ⟨yes, m1, rfl, hm1, ts1, to1⟩
    have TS1 := hide ts1
    have TO1 := hide (HO4.out.trans to1)
    have TW1 := hide (owns_only HW4.out to1 (by omega))
    have TR1 := hide (row_only HR4.out to1 (fun a h => by injection h with h; subst h; show g ≠ w.heap.size; omega))
    have tz1 := TO1.out.size
    have tz2 := own_lt TW1.out
    clear ts1 to1
    cases yes
    · go_wp2
      go_ret2
      refine ⟨zs, zs, g, d, g2, _, by rw [HNZ.out]; exact hl2, by rw [HNZ.out]; omega, by first | (rw [HNZ.out, HNZ.out]; rfl) | (rw [HNZ.out]; rfl), TR1.out, Row.of_own (fun _ => rfl) HNZ.out TW1.out, HB.out.trans (TO1.out.below (Nat.le_refl _) (by omega))⟩
    · go_wp2_with (at_builtin; go_loud (refine wpList_append_lies _ rfl _ _ _ rfl w2.heap.size 68 i0 _ 4 32 Try.underlying50 HI.out HY0.out HY1.out HY2.out rfl (by omega) _ nz (flat Mould.enc (zs)) rfl (TW1.out.alloc _) ⟨t1.heap.size, 0, none⟩ 1 1 [.int .i64 0, .int .i64 0, .int .i64 0, .int .i64 0] rfl rfl (mould_new_at _ _ _ _ _ _ _ rfl) mould_one (by omega) (by unfold maxLen; omega) (by omega) (by simp; omega) (t1.heap.size + 1) (by simp) ?_; intro g3 cap3 t2 hown8 hgrow hat hlt2))
      rw [show flat Mould.enc (zs) ++ [Value.int .i64 0, .int .i64 0, .int .i64 0, .int .i64 0] = flat Mould.enc ((zs) ++ [⟨0, 0, 0, 0⟩]) from flat_push (zs) ⟨0, 0, 0, 0⟩] at hown8
      have hls : ((zs) ++ [(⟨0, 0, 0, 0⟩ : Mould)]).length = nz + 1 := by rw [List.length_append, HNZ.out]; rfl
      have TR2 := hide ((TR1.out.alloc' _).grown hgrow (fun a j h1 h2 => by injection h1 with h1; subst h1; have := (TW1.out.lt j h2).1; show g ≠ j; omega))
      have TO2 := hide (only_grown (TO1.out.alloc _) hgrow (fun j hj => by have := (TW1.out.lt j hj).1; omega))
      have TW2 := hide hown8
      have HLS := hide hls
      clear hown8 hgrow hat hls
      go_wp2
      go_ret2
      refine ⟨zs, (zs) ++ [⟨0, 0, 0, 0⟩], g, d, g3, _, by rw [HNZ.out]; exact hl2, by rw [HLS.out]; omega, by rw [HNZ.out, HLS.out]; rfl, TR2.out, Row.of_own (fun _ => rfl) HLS.out TW2.out, HB.out.trans (TO2.out.below (Nat.le_refl _) (by omega))⟩
  · obtain ⟨⟨x0, x1, x2, x3⟩, hx⟩ : ∃ x, zs[0]? = some x := ⟨zs[0]'(by have := HNZ.out; omega), List.getElem?_eq_getElem (by have := HNZ.out; omega)⟩
    obtain ⟨c0, c1, c2', c3, f0, f1, f2, f3⟩ := own_mould_at HW4.out hx
    have hg4 := (own_lt HW4.out).2
    have hgb : g2 ≠ w.heap.size := by omega
    rw [show 0 * 4 + 3 = 3 from rfl] at c3 f3
    clear c0 c1 c2' f0 f1 f2 hx
    go_wp2
    go_region_with (go_at_call 61; refine (src_pick w _ w.heap.size A n c k4 z _ (by omega) (by omega) (by omega) HA.out (by first | exact HS4.out | exact HS4.out.keep ((Below.refl _ _).drew))).mono ?_; rintro e w5 ⟨v5, k5, hv5, hv5', rfl, hk5, hs5, ho5⟩; have e5 := ((ocell ho5).1 _ 3 hg4 hgb).trans c3; have f5 := ((ocell ho5).2 _ 3 hg4 hgb).trans f3; have HS5 := hide hs5; have HO5 := hide (HO4.out.drew.trans (by first | exact ho5 | exact ((Only.refl _ _).drew).trans ho5)); have HW5 := hide (owns_only (show w4.drew.ownsRow w2.heap.size 68 4 (.slice (some ⟨g2, 0, none⟩) nz c2) nz (flat Mould.enc zs) from HW4.out) ho5 (by omega)); have HR5 := hide (row_only (show Row Mould.enc 4 w4.drew (some ⟨g, 0, none⟩) zs from HR4.out) ho5 (fun a h => by injection h with h; subst h; show g ≠ w.heap.size; omega)); have hz5 := HO5.out.size; clear hs5 ho5)
    all_goals
      clear c3 f3 e5 f5
      obtain ⟨y, hW6, hG6⟩ := own_field_mould (i := 0) (j := 3) (wrap64 (x3 + v5)) HW5.out HNZ.out hp (by omega)
      rw [show 0 * 4 + 3 = 3 from rfl] at hW6 hG6
      have HS6 := hide (HS5.out.set_ (p := ⟨g2, 3, none⟩) hgb (by show w.heap.size ≤ g2; omega) (.int .i64 (wrap64 (x3 + v5))))
      have HO6 := hide (HO5.out.set_ (p := ⟨g2, 3, none⟩) (.inr (by show w1.heap.size ≤ g2; omega)) (.int .i64 (wrap64 (x3 + v5))))
      have HR6 := hide (HR5.out.grown hG6 (fun a j h1 h2 => by injection h1 with h1; subst h1; injection h2 with h2; show g ≠ j; omega))
      have HW6 := hide hW6
      have HLS0 := hide (show (zs.set 0 y).length = nz from by rw [List.length_set]; exact HNZ.out)
      clear hW6 hG6
      go_wp2_with fail
      refine (src_one w _ w.heap.size A n c _ z 5 (by omega) (by omega) (by omega) HA.out HS6.out).mono ?_
      rintro e t1 ⟨yes, m1, rfl, hm1, ts1, to1⟩
      have TS1 := hide ts1
      have TO1 := hide (HO6.out.trans to1)
      have TW1 := hide (owns_only HW6.out to1 (by omega))
      have TR1 := hide (row_only HR6.out to1 (fun a h => by injection h with h; subst h; show g ≠ w.heap.size; omega))
      have tz1 := TO1.out.size
      have tz2 := own_lt TW1.out
      clear ts1 to1
      cases yes
      · go_wp2
        go_ret2
        refine ⟨zs, zs.set 0 y, g, d, g2, _, by rw [HNZ.out]; exact hl2, by rw [HLS0.out]; omega, by first | (rw [HNZ.out, HLS0.out]; rfl) | (rw [HNZ.out]; rfl), TR1.out, Row.of_own (fun _ => rfl) HLS0.out TW1.out, HB.out.trans (TO1.out.below (Nat.le_refl _) (by omega))⟩
      · go_wp2_with (at_builtin; go_loud (refine wpList_append_lies _ rfl _ _ _ rfl w2.heap.size 68 i0 _ 4 32 Try.underlying50 HI.out HY0.out HY1.out HY2.out rfl (by omega) _ nz (flat Mould.enc (zs.set 0 y)) rfl (TW1.out.alloc _) ⟨t1.heap.size, 0, none⟩ 1 1 [.int .i64 0, .int .i64 0, .int .i64 0, .int .i64 0] rfl rfl (mould_new_at _ _ _ _ _ _ _ rfl) mould_one (by omega) (by unfold maxLen; omega) (by omega) (by simp; omega) (t1.heap.size + 1) (by simp) ?_; intro g3 cap3 t2 hown8 hgrow hat hlt2))
        rw [show flat Mould.enc (zs.set 0 y) ++ [Value.int .i64 0, .int .i64 0, .int .i64 0, .int .i64 0] = flat Mould.enc ((zs.set 0 y) ++ [⟨0, 0, 0, 0⟩]) from flat_push (zs.set 0 y) ⟨0, 0, 0, 0⟩] at hown8
        have hls : ((zs.set 0 y) ++ [(⟨0, 0, 0, 0⟩ : Mould)]).length = nz + 1 := by rw [List.length_append, HLS0.out]; rfl
        have TR2 := hide ((TR1.out.alloc' _).grown hgrow (fun a j h1 h2 => by injection h1 with h1; subst h1; have := (TW1.out.lt j h2).1; show g ≠ j; omega))
        have TO2 := hide (only_grown (TO1.out.alloc _) hgrow (fun j hj => by have := (TW1.out.lt j hj).1; omega))
        have TW2 := hide hown8
        have HLS := hide hls
        clear hown8 hgrow hat hls
        go_wp2
        go_ret2
        refine ⟨zs, (zs.set 0 y) ++ [⟨0, 0, 0, 0⟩], g, d, g3, _, by rw [HNZ.out]; exact hl2, by rw [HLS.out]; omega, by rw [HNZ.out, HLS.out]; rfl, TR2.out, Row.of_own (fun _ => rfl) HLS.out TW2.out, HB.out.trans (TO2.out.below (Nat.le_refl _) (by omega))⟩
end Go.Proofs.Ytgobpleckeeheaa
