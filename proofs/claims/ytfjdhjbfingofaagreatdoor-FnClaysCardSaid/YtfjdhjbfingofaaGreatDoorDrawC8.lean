/-
  What is proved: what the reference draws for SameClays and AddClay. Conditions: as for the source.
-/
import Derived.Test.YtfjdhjbfingofaaGreatDoorDrawC7
import Derived.Deep.RegionWith
namespace Go.Proofs.YtfjdhjbfingofaaGreatDoor
open Go.RowKit
set_option linter.unusedVariables false

theorem clays_one {xs : List Clay} : ∀ u ∈ flat Clay.enc xs, u.oneCell' = true := by
  intro u hu
  obtain ⟨x, hx, hu⟩ := List.mem_flatMap.1 hu
  simp [Clay.enc] at hu
  rcases hu with rfl | rfl | rfl | rfl | rfl <;> rfl
/-- Two lists of clays. -/
def CPostS (w : World) (e : Ending) (w' : World) : Prop :=
  ∃ (zs ys : List Clay) (g d g' d' : Nat), zs.length ≤ 6 ∧ ys.length ≤ 7 ∧ e = .returned (.tuple #[.slice (some ⟨g, 0, none⟩) zs.length d, .slice (some ⟨g', 0, none⟩) ys.length d']) ∧ Row Clay.enc 5 w' (some ⟨g, 0, none⟩) zs ∧ Row Clay.enc 5 w' (some ⟨g', 0, none⟩) ys ∧ Below w.heap.size w w'
theorem ow_ne {w : World} {lo k n g c : Nat} {t : TypeId} {L : List Value} {p : Addr} (h : w.ownsRow lo t k (.slice (some ⟨g, 0, none⟩) n c) n L) (hne : g ≠ p.block) (x : Value) : (w.setCell p x).ownsRow lo t k (.slice (some ⟨g, 0, none⟩) n c) n L := by
  refine ⟨h.1, ?_⟩
  rcases h.2 with ⟨hv, _⟩ | ⟨g', cap, cur, hv, hb, hg, rest⟩
  · injection hv with h1; cases h1
  · refine .inr ⟨g', cap, cur, hv, hb, ?_, rest⟩
    have hgg : g' = g := by injection hv with h1; injection h1 with h1; injection h1 with h1; exact h1.symm
    exact (Below.heap_setCell w p x g' (by omega)).trans hg
set_option maxRecDepth 100000 in
set_option maxHeartbeats 4000000 in
theorem src_DrawSameClays (w : World) (A : Option Addr) (n c : Nat) (z : List Int) (ha : ArgInts .u8 w A n c z) :
    Calls Tryz.prog 22 #[.slice A n c] w (CPostS w) := by
  obtain ⟨i0, hi, hy0, hy1, hy2⟩ := info_parts info_Clay
  have HI := hide hi
  have HY0 := hide hy0
  have HY1 := hide hy1
  have HY2 := hide hy2
  have HA := hide ha
  clear ha hi hy0 hy1 hy2
  go_enter Tryz.func22, Tryz.ntmps22
  go_wp2_with fail
  refine (src_from _ _ _ _).mono ?_
  rintro e w1 ⟨rfl, hw1⟩
  obtain ⟨hs, hb1⟩ := src_start _ _ _ _ _ hw1
  have HS := hide hs
  have HB := hide hb1
  have hz1 := hs.lt
  clear hs hb1 hw1
  go_wp2_with fail
  refine (src_l03Draw 4 (by omega) w _ w.heap.size A n c 0 z (by omega) HA.out HS.out).mono ?_
  rintro e w2 ⟨zs, g, d, k2, hl2, hnm, rfl, hw2, hk2, hs2, ho2⟩
  obtain ⟨nz, hnz⟩ : ∃ r, zs.length = r := ⟨_, rfl⟩
  rw [hnz] at hw2 hl2 ⊢
  have HNZ := hide hnz
  have HS2 := hide hs2
  have HR2 := hide (show Row Clay.enc 5 w2 (some ⟨g, 0, none⟩) zs from hw2.row (fun _ => rfl))
  have HO2 := hide ho2
  have HNM := hide hnm
  clear hnm
  have hz2 := ho2.size
  have hgl := own_lt hw2.own
  have HF := hide (show (flat Clay.enc zs).length = nz * 5 from by rw [flat_length (enc := Clay.enc) (k := 5) (fun _ => rfl), hnz])
  have HE := hide (own_empty w2 w2.heap.size 5 35 (Nat.le_refl _))
  clear hs2 ho2 hw2 hnz HS
  by_cases hp : 0 < nz
  case neg =>
    obtain rfl : nz = 0 := by omega
    go_wp2_with (first
      | (at_builtin
         refine wpList_append_own _ rfl _ _ 24 rfl w2.heap.size 35 i0 _ 5 48 Tryz.underlying24 HI.out HY0.out HY1.out HY2.out rfl (by decide) _ _ _ rfl (own_empty w2 w2.heap.size 5 35 (Nat.le_refl _)) ⟨g, 0, none⟩ 0 d (flat Clay.enc zs) rfl HF.out (row_news (fun _ => rfl) (by omega) (HR2.out.alc _)) clays_one (by unfold maxLen; omega) (by omega) (by simp) ?_
         intro v' w3 hown' hgrow hnil
         have hown2 := hown'
         rw [Nat.zero_add, List.nil_append] at hown2
         obtain ⟨g2, c2, rfl, hg2⟩ : ∃ g2 c2, v' = .slice (some ⟨g2, 0, none⟩) 0 c2 ∧ w2.heap.size ≤ g2 := by
           rcases hown2.2 with ⟨hv, h0⟩ | ⟨g2, cap, cur, hv, hb, -⟩
           · have := (hnil.1 hv).1
             injection this with h1 h2 h3
             cases h1
           · exact ⟨g2, cap, hv, hb⟩))
    have HW3 := hide hown2
    have HR3 := hide ((HR2.out.alc _).grown hgrow (fun a j h1 h2 => by injection h1 with h1; subst h1; have := (HE.out.lt j h2).1; show g ≠ j; omega))
    have HS3 := hide (Src.grw (HS2.out.alloc _) hgrow (fun q => by have := (HE.out.lt _ q.symm).1; omega) (fun j hj => by have := (HE.out.lt j hj).1; omega))
    have HO3 := hide (Only.grw (HO2.out.alloc _) hgrow (fun j hj => by have := (HE.out.lt j hj).1; omega))
    have hz3 := HO3.out.size
    clear hown' hown2 hgrow hnil HS2 HR2 HO2 HF
    refine (src_one w _ w.heap.size A n c _ z 5 (by omega) (by omega) (by omega) HA.out HS3.out).mono ?_
    rintro e t1 ⟨yes, m1, rfl, hm1, ts1, to1⟩
    have TS1 := hide ts1
    have TO1 := hide (HO3.out.trans to1)
    have TW1 := hide (ow_only HW3.out to1 (by omega))
    have TR1 := hide (row_only HR3.out to1 (fun a h => by injection h with h; subst h; show g ≠ w.heap.size; omega))
    have tz1 := TO1.out.size
    have tz2 := own_lt TW1.out
    clear ts1 to1
    cases yes
    · go_wp2
      go_ret2
      refine ⟨zs, zs, g, d, g2, _, by rw [HNZ.out]; omega, by rw [HNZ.out]; omega, by first | (rw [HNZ.out, HNZ.out]; rfl) | (rw [HNZ.out]; rfl), TR1.out, Row.of_own (fun _ => rfl) HNZ.out TW1.out, HB.out.trans (TO1.out.below (Nat.le_refl _) (by omega))⟩
    · go_wp2_with (at_builtin; go_loud (refine wpList_append_lies _ rfl _ _ _ rfl w2.heap.size 35 i0 _ 5 48 Tryz.underlying24 HI.out HY0.out HY1.out HY2.out rfl (by omega) _ 0 (flat Clay.enc (zs)) rfl (TW1.out.alloc _) ⟨t1.heap.size, 0, none⟩ 1 1 [.string ⟨#[]⟩, .int .i64 0, .int .i64 0, .int .i64 0, .int .i64 0] rfl rfl (clayN_at _ _ _ _ _ _ _ _ rfl) clayN_one (by omega) (by unfold maxLen; omega) (by omega) (by simp; omega) (t1.heap.size + 1) (by simp) ?_; intro g3 cap3 t2 hown8 hgrow hat hlt2))
      rw [show flat Clay.enc (zs) ++ [Value.string ⟨#[]⟩, .int .i64 0, .int .i64 0, .int .i64 0, .int .i64 0] = flat Clay.enc ((zs) ++ [⟨⟨#[]⟩, 0, 0, 0, 0⟩]) from flat_snoc (zs) ⟨⟨#[]⟩, 0, 0, 0, 0⟩] at hown8
      have hls : ((zs) ++ [(⟨⟨#[]⟩, 0, 0, 0, 0⟩ : Clay)]).length = 0 + 1 := by rw [List.length_append, HNZ.out]; rfl
      have TR2 := hide ((TR1.out.alc _).grown hgrow (fun a j h1 h2 => by injection h1 with h1; subst h1; have := (TW1.out.lt j h2).1; show g ≠ j; omega))
      have TO2 := hide (Only.grw (TO1.out.alloc _) hgrow (fun j hj => by have := (TW1.out.lt j hj).1; omega))
      have TW2 := hide hown8
      have HLS := hide hls
      clear hown8 hgrow hat hls
      go_wp2
      go_ret2
      refine ⟨zs, (zs) ++ [⟨⟨#[]⟩, 0, 0, 0, 0⟩], g, d, g3, _, by rw [HNZ.out]; omega, by rw [HLS.out]; omega, by rw [HNZ.out, HLS.out]; rfl, TR2.out, Row.of_own (fun _ => rfl) HLS.out TW2.out, HB.out.trans (TO2.out.below (Nat.le_refl _) (by omega))⟩
  go_wp2_with (first
    | (at_builtin
       refine wpList_append_own _ rfl _ _ 24 rfl w2.heap.size 35 i0 _ 5 48 Tryz.underlying24 HI.out HY0.out HY1.out HY2.out rfl (by decide) _ _ _ rfl (own_empty w2 w2.heap.size 5 35 (Nat.le_refl _)) ⟨g, 0, none⟩ nz d (flat Clay.enc zs) rfl HF.out (row_news (fun _ => rfl) (by omega) (HR2.out.alc _)) clays_one (by unfold maxLen; omega) (by omega) (by simp) ?_
       intro v' w3 hown' hgrow hnil
       have hown2 := hown'
       rw [Nat.zero_add, List.nil_append] at hown2
       obtain ⟨g2, c2, rfl, hg2⟩ : ∃ g2 c2, v' = .slice (some ⟨g2, 0, none⟩) nz c2 ∧ w2.heap.size ≤ g2 := by
         rcases hown2.2 with ⟨hv, h0⟩ | ⟨g2, cap, cur, hv, hb, -⟩
         · have := (hnil.1 hv).1
           injection this with h1 h2 h3
           cases h1
         · exact ⟨g2, cap, hv, hb⟩))
  have HW3 := hide hown2
  have HR3 := hide ((HR2.out.alc _).grown hgrow (fun a j h1 h2 => by injection h1 with h1; subst h1; have := (HE.out.lt j h2).1; show g ≠ j; omega))
  have HS3 := hide (Src.grw (HS2.out.alloc _) hgrow (fun q => by have := (HE.out.lt _ q.symm).1; omega) (fun j hj => by have := (HE.out.lt j hj).1; omega))
  have HO3 := hide (Only.grw (HO2.out.alloc _) hgrow (fun j hj => by have := (HE.out.lt j hj).1; omega))
  have hz3 := HO3.out.size
  clear hown' hown2 hgrow hnil HS2 HR2 HO2 HF
  refine (src_one w _ w.heap.size A n c _ z 2 (by omega) (by omega) (by omega) HA.out HS3.out).mono ?_
  rintro e w4 ⟨yes, k4, rfl, hk4, hs4, ho4⟩
  have HS4 := hide hs4
  have HO4 := hide (HO3.out.trans ho4)
  have HW4 := hide (ow_only HW3.out ho4 (by omega))
  have HR4 := hide (row_only HR3.out ho4 (fun a h => by injection h with h; subst h; show g ≠ w.heap.size; omega))
  have hz4 := HO4.out.size
  clear hs4 ho4
  cases yes
  · go_wp2_with fail
    refine (src_one w _ w.heap.size A n c _ z 5 (by omega) (by omega) (by omega) HA.out HS4.out).mono ?_
    rintro e t1 ⟨yes, m1, rfl, hm1, ts1, to1⟩
    have TS1 := hide ts1
    have TO1 := hide (HO4.out.trans to1)
    have TW1 := hide (ow_only HW4.out to1 (by omega))
    have TR1 := hide (row_only HR4.out to1 (fun a h => by injection h with h; subst h; show g ≠ w.heap.size; omega))
    have tz1 := TO1.out.size
    have tz2 := own_lt TW1.out
    clear ts1 to1
    cases yes
    · go_wp2
      go_ret2
      refine ⟨zs, zs, g, d, g2, _, by rw [HNZ.out]; omega, by rw [HNZ.out]; omega, by first | (rw [HNZ.out, HNZ.out]; rfl) | (rw [HNZ.out]; rfl), TR1.out, Row.of_own (fun _ => rfl) HNZ.out TW1.out, HB.out.trans (TO1.out.below (Nat.le_refl _) (by omega))⟩
    · go_wp2_with (at_builtin; go_loud (refine wpList_append_lies _ rfl _ _ _ rfl w2.heap.size 35 i0 _ 5 48 Tryz.underlying24 HI.out HY0.out HY1.out HY2.out rfl (by omega) _ nz (flat Clay.enc (zs)) rfl (TW1.out.alloc _) ⟨t1.heap.size, 0, none⟩ 1 1 [.string ⟨#[]⟩, .int .i64 0, .int .i64 0, .int .i64 0, .int .i64 0] rfl rfl (clayN_at _ _ _ _ _ _ _ _ rfl) clayN_one (by omega) (by unfold maxLen; omega) (by omega) (by simp; omega) (t1.heap.size + 1) (by simp) ?_; intro g3 cap3 t2 hown8 hgrow hat hlt2))
      rw [show flat Clay.enc (zs) ++ [Value.string ⟨#[]⟩, .int .i64 0, .int .i64 0, .int .i64 0, .int .i64 0] = flat Clay.enc ((zs) ++ [⟨⟨#[]⟩, 0, 0, 0, 0⟩]) from flat_snoc (zs) ⟨⟨#[]⟩, 0, 0, 0, 0⟩] at hown8
      have hls : ((zs) ++ [(⟨⟨#[]⟩, 0, 0, 0, 0⟩ : Clay)]).length = nz + 1 := by rw [List.length_append, HNZ.out]; rfl
      have TR2 := hide ((TR1.out.alc _).grown hgrow (fun a j h1 h2 => by injection h1 with h1; subst h1; have := (TW1.out.lt j h2).1; show g ≠ j; omega))
      have TO2 := hide (Only.grw (TO1.out.alloc _) hgrow (fun j hj => by have := (TW1.out.lt j hj).1; omega))
      have TW2 := hide hown8
      have HLS := hide hls
      clear hown8 hgrow hat hls
      go_wp2
      go_ret2
      refine ⟨zs, (zs) ++ [⟨⟨#[]⟩, 0, 0, 0, 0⟩], g, d, g3, _, by rw [HNZ.out]; omega, by rw [HLS.out]; omega, by rw [HNZ.out, HLS.out]; rfl, TR2.out, Row.of_own (fun _ => rfl) HLS.out TW2.out, HB.out.trans (TO2.out.below (Nat.le_refl _) (by omega))⟩
  · obtain ⟨⟨x0, x1, x2, x3, x4⟩, hx⟩ : ∃ x, zs[0]? = some x := ⟨zs[0]'(by have := HNZ.out; omega), List.getElem?_eq_getElem (by have := HNZ.out; omega)⟩
    obtain ⟨bq, oq, hqe, hbq, c0, c1, c2', c3, c4⟩ := row_at_5 (show Row Clay.enc 5 w4 (some ⟨g2, 0, none⟩) zs from Row.of_own (fun _ => rfl) HNZ.out HW4.out) hx rfl
    obtain ⟨rfl, rfl⟩ : g2 = bq ∧ 0 = oq := by injection hqe with h1; injection h1 with h1 h2; exact ⟨h1, h2⟩
    have f3 : w4.frozen? ⟨g2, 3, none⟩ = false := HW4.out.frozenAt _
    have hg4 := (own_lt HW4.out).2
    have hgb : g2 ≠ w.heap.size := by omega
    rw [show 0 + 0 * 5 + 3 = 3 from rfl] at c3
    clear c0 c1 c2' c4 hx hqe
    go_wp2
    go_region_with (go_at_call 58; refine (src_pick w _ w.heap.size A n c k4 z _ (by omega) (by omega) (by omega) HA.out (by first | exact HS4.out | exact HS4.out.keep ((Below.refl _ _).drew))).mono ?_; rintro e w5 ⟨v5, k5, hv5, hv5', rfl, hk5, hs5, ho5⟩; have e5 := ((ocell ho5).1 _ 3 hg4 hgb).trans c3; have f5 := ((ocell ho5).2 _ 3 hg4 hgb).trans f3; have HS5 := hide hs5; have HO5 := hide (HO4.out.drew.trans (by first | exact ho5 | exact ((Only.refl _ _).drew).trans ho5)); have HW5 := hide (ow_only (show w4.drew.ownsRow w2.heap.size 35 5 (.slice (some ⟨g2, 0, none⟩) nz c2) nz (flat Clay.enc zs) from HW4.out) ho5 (by omega)); have HR5 := hide (row_only (show Row Clay.enc 5 w4.drew (some ⟨g, 0, none⟩) zs from HR4.out) ho5 (fun a h => by injection h with h; subst h; show g ≠ w.heap.size; omega)); have hz5 := HO5.out.size; clear hs5 ho5)
    all_goals
      clear c3 f3 e5 f5
      obtain ⟨y, -, hW6, hG6⟩ := own_field_clay (i := 0) (j := 3) (u := .int .i64 (wrap64 (x3 + v5))) (.inr ⟨by omega, by omega, _, rfl⟩) HW5.out HNZ.out hp HNM.out
      rw [show 0 * 5 + 3 = 3 from rfl] at hW6 hG6
      have HS6 := hide (HS5.out.set_ (p := ⟨g2, 3, none⟩) hgb (by show w.heap.size ≤ g2; omega) (.int .i64 (wrap64 (x3 + v5))))
      have HO6 := hide (HO5.out.set_ (p := ⟨g2, 3, none⟩) (.inr (by show w1.heap.size ≤ g2; omega)) (.int .i64 (wrap64 (x3 + v5))))
      have HR6 := hide (HR5.out.grown hG6 (fun a j h1 h2 => by injection h1 with h1; subst h1; injection h2 with h2; show g ≠ j; omega))
      have HW6 := hide hW6
      have HLS0 := hide (show (zs.set 0 y).length = nz from by rw [List.length_set]; exact HNZ.out)
      clear hW6 hG6
      go_wp2_with fail
      refine (src_one w _ w.heap.size A n c _ z 5 (by omega) (by omega) (by omega) HA.out HS6.out).mono ?_
      rintro e t1 ⟨yes, m1, rfl, hm1, ts1, to1⟩
      have TS1 := hide ts1
      have TO1 := hide (HO6.out.trans to1)
      have TW1 := hide (ow_only HW6.out to1 (by omega))
      have TR1 := hide (row_only HR6.out to1 (fun a h => by injection h with h; subst h; show g ≠ w.heap.size; omega))
      have tz1 := TO1.out.size
      have tz2 := own_lt TW1.out
      clear ts1 to1
      cases yes
      · go_wp2
        go_ret2
        refine ⟨zs, zs.set 0 y, g, d, g2, _, by rw [HNZ.out]; omega, by rw [HLS0.out]; omega, by first | (rw [HNZ.out, HLS0.out]; rfl) | (rw [HNZ.out]; rfl), TR1.out, Row.of_own (fun _ => rfl) HLS0.out TW1.out, HB.out.trans (TO1.out.below (Nat.le_refl _) (by omega))⟩
      · go_wp2_with (at_builtin; go_loud (refine wpList_append_lies _ rfl _ _ _ rfl w2.heap.size 35 i0 _ 5 48 Tryz.underlying24 HI.out HY0.out HY1.out HY2.out rfl (by omega) _ nz (flat Clay.enc (zs.set 0 y)) rfl (TW1.out.alloc _) ⟨t1.heap.size, 0, none⟩ 1 1 [.string ⟨#[]⟩, .int .i64 0, .int .i64 0, .int .i64 0, .int .i64 0] rfl rfl (clayN_at _ _ _ _ _ _ _ _ rfl) clayN_one (by omega) (by unfold maxLen; omega) (by omega) (by simp; omega) (t1.heap.size + 1) (by simp) ?_; intro g3 cap3 t2 hown8 hgrow hat hlt2))
        rw [show flat Clay.enc (zs.set 0 y) ++ [Value.string ⟨#[]⟩, .int .i64 0, .int .i64 0, .int .i64 0, .int .i64 0] = flat Clay.enc ((zs.set 0 y) ++ [⟨⟨#[]⟩, 0, 0, 0, 0⟩]) from flat_snoc (zs.set 0 y) ⟨⟨#[]⟩, 0, 0, 0, 0⟩] at hown8
        have hls : ((zs.set 0 y) ++ [(⟨⟨#[]⟩, 0, 0, 0, 0⟩ : Clay)]).length = nz + 1 := by rw [List.length_append, HLS0.out]; rfl
        have TR2 := hide ((TR1.out.alc _).grown hgrow (fun a j h1 h2 => by injection h1 with h1; subst h1; have := (TW1.out.lt j h2).1; show g ≠ j; omega))
        have TO2 := hide (Only.grw (TO1.out.alloc _) hgrow (fun j hj => by have := (TW1.out.lt j hj).1; omega))
        have TW2 := hide hown8
        have HLS := hide hls
        clear hown8 hgrow hat hls
        go_wp2
        go_ret2
        refine ⟨zs, (zs.set 0 y) ++ [⟨⟨#[]⟩, 0, 0, 0, 0⟩], g, d, g3, _, by rw [HNZ.out]; omega, by rw [HLS.out]; omega, by rw [HNZ.out, HLS.out]; rfl, TR2.out, Row.of_own (fun _ => rfl) HLS.out TW2.out, HB.out.trans (TO2.out.below (Nat.le_refl _) (by omega))⟩
set_option maxRecDepth 100000 in
set_option maxHeartbeats 4000000 in
theorem src_DrawAddClay (w : World) (A : Option Addr) (n c : Nat) (z : List Int) (ha : ArgInts .u8 w A n c z) :
    Calls Tryz.prog 14 #[.slice A n c] w (CPostA w) := by
  obtain ⟨w0, hw0⟩ : ∃ u, w.alloc (.cells #[.string ⟨#[]⟩, .int .i64 0, .int .i64 0, .int .i64 0, .int .i64 0] 35) = u := ⟨_, rfl⟩
  have hb0 : Below w.heap.size w w0 := by rw [← hw0]; exact (Below.refl _ _).alloc (Nat.le_refl _) _
  have hz0 : w0.heap.size = w.heap.size + 1 := by rw [← hw0]; simp
  have hr0 : Blk w0 w.heap.size 35 #[.string ⟨#[]⟩, .int .i64 0, .int .i64 0, .int .i64 0, .int .i64 0] := by rw [← hw0]; exact Blk.new _ _ _
  have HA := hide (ha.below hb0)
  have HB0 := hide hb0
  have HR0 := hide hr0
  have HW0 := hide hw0
  clear ha hb0 hr0 hw0
  go_enter Tryz.func14, Tryz.ntmps14
  go_wp2_with fail
  rw [HW0.out]
  refine (src_from _ _ _ _).mono ?_
  rintro e w1 ⟨rfl, hw1⟩
  obtain ⟨hs, hb1⟩ := src_start _ _ _ _ _ hw1
  have HS := hide hs
  have HB := hide hb1
  have hz1 := hs.lt
  have HR1 := hide (HR0.out.below hb1 (by omega))
  obtain ⟨b, hb⟩ : ∃ b, w0.heap.size = b := ⟨_, rfl⟩
  rw [hb] at HS HB hz0 hz1
  have HBB := hide hb
  have hn0 : w.heap.size ≠ b := by omega
  have hwb : w.heap.size < b := by omega
  have HZ0 := hide hz0
  rw [hb]
  clear hs hb1 hw1 hb HR0 hz0
  go_wp2_with fail
  refine (src_l03Bent 4 (by omega) w0 _ b A n c 0 z (by omega) HA.out HS.out).mono ?_
  rintro e w2 ⟨zs, g, d, k2, hl2, hnm, rfl, hw2, hk2, hs2, ho2⟩
  obtain ⟨nz, hnz⟩ : ∃ r, zs.length = r := ⟨_, rfl⟩
  rw [hnz] at hw2 hl2 ⊢
  have HNZ := hide hnz
  have HN := hide hnm
  have HS2 := hide hs2
  have HW2 := hide hw2.own
  have HO2 := hide ho2
  have HR2 := hide (ho2.blk HR1.out hn0)
  clear hs2 ho2 hw2 hnz hnm HS HR1
  go_wp2_with fail
  refine (src_txtL [⟨#[114, 101, 100]⟩, ⟨#[98, 108, 117, 101]⟩, ⟨#[110, 101, 119]⟩, ⟨#[103, 114, 101, 121]⟩] _ _ rfl w0 _ b A n c k2 z 4 rfl (by omega) (by omega) (by omega) HA.out HS2.out _ _ rfl).mono ?_
  rintro e w3 ⟨x, k3, hx, rfl, hk3, hs3, ho3⟩
  have hx16 : x.size ≤ 16 := by simp at hx; rcases hx with rfl | rfl | rfl | rfl <;> decide
  have HS3 := hide hs3
  have HO3 := hide (HO2.out.trans ho3)
  have HW3 := hide (ow_only HW2.out ho3 hz1)
  have HR3 := hide (ho3.blk HR2.out hn0)
  clear hs3 ho3 hx
  go_wp2_with fail
  refine (src_l03New x w0 _ b A n c k3 z (by omega) HA.out HS3.out).mono ?_
  rintro e wc ⟨v1, v2, v3, v4, kc, hv, rfl, hkc, hsc, hoc⟩
  obtain ⟨wA, hwA⟩ : ∃ u, wc.alloc (.cells #[.string x, .int .i64 (40 + 5 * v1), .int .i64 (10 * v2), .int .i64 (20 * v3), .int .i64 (10 * v4)] 35) = u := ⟨_, rfl⟩
  have hzc := hoc.size
  have hgl3 := (own_lt HW3.out).2
  have CSA := hide (show Src w0 wA b A n c kc from by rw [← hwA]; exact hsc.alloc _)
  have COA := hide (show Only b w1 wA from by rw [← hwA]; exact (HO3.out.trans hoc).alloc _)
  have CRA := hide (show Blk wA w.heap.size 35 #[.string ⟨#[]⟩, .int .i64 0, .int .i64 0, .int .i64 0, .int .i64 0] from by rw [← hwA]; exact (hoc.blk HR3.out hn0).alloc _)
  have CFA := hide (show Blk wA wc.heap.size 35 #[.string x, .int .i64 (40 + 5 * v1), .int .i64 (10 * v2), .int .i64 (20 * v3), .int .i64 (10 * v4)] from by rw [← hwA]; exact Blk.new _ _ _)
  have CWA := hide (show wA.ownsRow w1.heap.size 35 5 (.slice (some ⟨g, 0, none⟩) nz d) nz (flat Clay.enc zs) from by rw [← hwA]; exact (ow_only HW3.out hoc hz1).alloc _)
  have hzA : wc.heap.size < wA.heap.size := by rw [← hwA]; simp
  have hw1c : w1.heap.size ≤ wc.heap.size := by have := (HO3.out.trans hoc).size; exact this
  have hnc : wc.heap.size ≠ b := by omega
  have CWE := hide hwA
  clear hsc hoc hv hwA
  go_wp2_with fail
  rw [CWE.out]
  refine (src_one w0 _ b A n c kc z 6 (by omega) (by omega) (by omega) HA.out CSA.out).mono ?_
  rintro e wd ⟨yes, kd, rfl, hkd, hsd, hod⟩
  have CS2 := hide hsd
  have CO2 := hide (COA.out.trans hod)
  have CR2 := hide (hod.blk CRA.out hn0)
  have CF2 := hide (hod.blk CFA.out hnc)
  have CW2 := hide (ow_only CWA.out hod hz1)
  clear hsd hod
  cases yes
  · obtain ⟨x0, x1, x2, x3, x4, hx0, hxe⟩ : ∃ (x0 : ByteArray) (x1 x2 x3 x4 : Int), x0.size ≤ 16 ∧ Blk wd wc.heap.size 35 #[.string x0, .int .i64 x1, .int .i64 x2, .int .i64 x3, .int .i64 x4] := ⟨_, _, _, _, _, hx16, CF2.out⟩
    have CF3 := hide hxe
    clear hxe
    obtain ⟨p0, p1, p2, p3, p4, fp0, fp1, fp2, fp3, fp4⟩ := five_cells (CF3.out)
    obtain ⟨r0, r1, r2, r3, r4, fr0, fr1, fr2, fr3, fr4⟩ := five_cells (CR2.out)
    clear fp0 fp1 fp2 fp3 fp4
    have hz9 : w.heap.size < wd.heap.size := CR2.out.lt
    have hd5 : w.heap.size ≠ wc.heap.size := by omega
    go_wp2
    go_region_with (fail)
    all_goals
      go_wp2
      refine bodyPost_ret (v := .tuple #[.slice (some ⟨g, 0, none⟩) nz d, .agg #[.string x0, .int .i64 x1, .int .i64 x2, .int .i64 x3, .int .i64 x4]]) ?_ rfl ?_
      · simp [results, Tryz.results14, go_sem, r0, r1, r2, r3, r4]
      · refine ⟨zs, g, d, x0, x1, x2, x3, x4, by rw [HNZ.out]; exact hl2, HN.out, hx0, by rw [HNZ.out], ?_, ?_⟩
        · rw [HNZ.out]
          exact own_entire HNZ.out (owns_low (far_five (show World.ownsRow (World.drew wd) w1.heap.size 35 5 (.slice (some ⟨g, 0, none⟩) nz d) nz (flat Clay.enc zs) from CW2.out) (by omega) _ _ _ _ _) (by omega))
        · have B2 : Below w.heap.size w wd := (HB0.out.trans (HB.out.mono (by omega))).trans (CO2.out.below (by omega) (by omega))
          go_grown
  · obtain ⟨p0, p1, p2, p3, p4, fp0, fp1, fp2, fp3, fp4⟩ := five_cells (CF2.out)
    have CELLS := hide (And.intro (And.intro p0 (And.intro p1 (And.intro p2 (And.intro p3 p4)))) (And.intro fp0 (And.intro fp1 (And.intro fp2 (And.intro fp3 fp4)))))
    have hgl := CF2.out.lt
    clear p0 p1 p2 p3 p4 fp0 fp1 fp2 fp3 fp4
    go_wp2_with fail
    refine (src_l03Spoil w0 _ b A n c kd z wc.heap.size 0 _ _ _ _ _ hgl hnc CELLS.out.1.1 CELLS.out.1.2.1 CELLS.out.1.2.2.1 CELLS.out.1.2.2.2.1 CELLS.out.1.2.2.2.2 CELLS.out.2.1 CELLS.out.2.2.1 CELLS.out.2.2.2.1 CELLS.out.2.2.2.2.1 CELLS.out.2.2.2.2.2 (by omega) HA.out CS2.out).mono ?_
    rintro e t3 ⟨j, u, m3, t4, hj, rfl, hm3, ts4, to4, rfl⟩
    obtain ⟨x0, x1, x2, x3, x4, hx0, hG5⟩ := blk_spoil (to4.blk CF2.out hnc) hj hx16
    obtain ⟨we, hwe⟩ : ∃ v, t4.setCell ⟨wc.heap.size, j, none⟩ u = v := ⟨_, rfl⟩
    have CF3 := hide (show Blk we wc.heap.size 35 #[.string x0, .int .i64 x1, .int .i64 x2, .int .i64 x3, .int .i64 x4] from by rw [← hwe]; exact hG5)
    have CR3 := hide (show Blk we w.heap.size 35 #[.string ⟨#[]⟩, .int .i64 0, .int .i64 0, .int .i64 0, .int .i64 0] from by rw [← hwe]; exact (to4.blk CR2.out hn0).far (p := ⟨wc.heap.size, j, none⟩) (by show w.heap.size ≠ wc.heap.size; omega) u)
    have CO3 := hide (show Only b w1 we from by rw [← hwe]; exact (CO2.out.trans to4).set_ (p := ⟨wc.heap.size, j, none⟩) (.inr (by show w1.heap.size ≤ wc.heap.size; omega)) u)
    have CW3 := hide (show we.ownsRow w1.heap.size 35 5 (.slice (some ⟨g, 0, none⟩) nz d) nz (flat Clay.enc zs) from by rw [← hwe]; exact ow_ne (ow_only CW2.out to4 hz1) (p := ⟨wc.heap.size, j, none⟩) (by show g ≠ wc.heap.size; omega) u)
    rw [show (t4.setCell ⟨wc.heap.size, 0 + j, none⟩ u) = we from by rw [Nat.zero_add]; exact hwe]
    clear hG5 ts4 to4 hj hwe
    obtain ⟨p0, p1, p2, p3, p4, fp0, fp1, fp2, fp3, fp4⟩ := five_cells (CF3.out)
    obtain ⟨r0, r1, r2, r3, r4, fr0, fr1, fr2, fr3, fr4⟩ := five_cells (CR3.out)
    clear fp0 fp1 fp2 fp3 fp4
    have hz9 : w.heap.size < we.heap.size := CR3.out.lt
    have hd5 : w.heap.size ≠ wc.heap.size := by omega
    go_wp2
    go_region_with (fail)
    all_goals
      go_wp2
      refine bodyPost_ret (v := .tuple #[.slice (some ⟨g, 0, none⟩) nz d, .agg #[.string x0, .int .i64 x1, .int .i64 x2, .int .i64 x3, .int .i64 x4]]) ?_ rfl ?_
      · simp [results, Tryz.results14, go_sem, r0, r1, r2, r3, r4]
      · refine ⟨zs, g, d, x0, x1, x2, x3, x4, by rw [HNZ.out]; exact hl2, HN.out, hx0, by rw [HNZ.out], ?_, ?_⟩
        · rw [HNZ.out]
          exact own_entire HNZ.out (owns_low (far_five (show World.ownsRow (World.drew we) w1.heap.size 35 5 (.slice (some ⟨g, 0, none⟩) nz d) nz (flat Clay.enc zs) from CW3.out) (by omega) _ _ _ _ _) (by omega))
        · have B2 : Below w.heap.size w we := (HB0.out.trans (HB.out.mono (by omega))).trans (CO3.out.below (by omega) (by omega))
          go_grown
end Go.Proofs.YtfjdhjbfingofaaGreatDoor
