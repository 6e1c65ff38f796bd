/-
  What is proved: what the reference draws for BestMould and SameMoulds. Conditions: as for the source.
-/
import Derived.Test.YtgobpleckeeheaaDrawM3
import Derived.Deep.RegionWith
namespace Go.Proofs.Ytgobpleckeeheaa
open Go.RowKit
set_option linter.unusedVariables false

/-- Some list of moulds in memory of its own, some format, some number. -/
def MPostB (w : World) (e : Ending) (w' : World) : Prop :=
  ∃ (zs : List Mould) (g d : Nat) (l wd h j v : Int), zs.length ≤ 21 ∧ e = .returned (.tuple #[.slice (some ⟨g, 0, none⟩) zs.length d, .agg #[.int .i64 l, .int .i64 wd, .int .i64 h, .int .i64 j], .int .i64 v]) ∧ Own 68 4 Mould.enc w' w.heap.size w'.heap.size (some ⟨g, 0, none⟩) zs.length d zs ∧ Below w.heap.size w w'
theorem own_far {w : World} {lo k n : Nat} {t : TypeId} {v : Value} {L : List Value} {p : Addr} (h : w.ownsRow lo t k v n L) (hp : p.block < lo) (x : Value) : (w.setCell p x).ownsRow lo t k v n L :=
  h.kept (row := some p.block) ⟨rfl, rfl, rfl, by simp, fun i hi hne => Below.heap_setCell _ _ _ _ (fun e => hne (by rw [e]))⟩ (by
    cases hv : v.ownBlock with
    | none => exact .inl rfl
    | some j => exact .inr (fun e => by have := (h.lt j hv).1; injection e with e; omega))
set_option maxRecDepth 100000 in
set_option maxHeartbeats 4000000 in
theorem src_DrawBestMould (w : World) (A : Option Addr) (n c : Nat) (z : List Int) (ha : ArgInts .u8 w A n c z) :
    Calls Try.prog 23 #[.slice A n c] w (MPostB w) := by
  obtain ⟨w0, hw0⟩ : ∃ u, w.alloc (.cells #[.int .i64 0, .int .i64 0, .int .i64 0, .int .i64 0] 55) = u := ⟨_, rfl⟩
  have hb0 : Below w.heap.size w w0 := by rw [← hw0]; exact (Below.refl _ _).alloc (Nat.le_refl _) _
  have hz0 : w0.heap.size = w.heap.size + 1 := by rw [← hw0]; simp
  have hr0 : Blk w0 w.heap.size 55 #[.int .i64 0, .int .i64 0, .int .i64 0, .int .i64 0] := by rw [← hw0]; exact Blk.new _ _ _
  have HA := hide (ha.below hb0)
  have HB0 := hide hb0
  have HR0 := hide hr0
  have HW0 := hide hw0
  clear ha hb0 hr0 hw0
  go_enter Try.func23, Try.ntmps23
  go_wp2_with fail
  rw [HW0.out]
  refine (src_from _ _ _ _).mono ?_
  rintro e w1 ⟨rfl, hw1⟩
  obtain ⟨hs, hb1⟩ := src_start _ _ _ _ _ hw1
  have HS := hide hs
  have HB := hide hb1
  have hz1 := hs.lt
  have HR1 := hide (HR0.out.below hb1 (by omega))
  obtain ⟨b, hb⟩ : ∃ b, w0.heap.size = b := ⟨_, rfl⟩
  rw [hb] at HS HB hz0 hz1
  have HBB := hide hb
  have hn0 : w.heap.size ≠ b := by omega
  have hwb : w.heap.size < b := by omega
  have HZ0 := hide hz0
  rw [hb]
  clear hs hb1 hw1 hb HR0 hz0
  go_wp2_with fail
  refine (src_l05Bent w0 _ b A n c 0 z (by omega) HA.out HS.out).mono ?_
  rintro e w2 ⟨zs, g, d, k2, hl2, rfl, hw2, hk2, hs2, ho2⟩
  obtain ⟨nz, hnz⟩ : ∃ r, zs.length = r := ⟨_, rfl⟩
  rw [hnz] at hw2 hl2 ⊢
  have HNZ := hide hnz
  have HS2 := hide hs2
  have HW2 := hide hw2.own
  have HO2 := hide ho2
  have HR2 := hide (ho2.blk HR1.out hn0)
  have hz2 := ho2.size
  clear hs2 ho2 hw2 hnz HS HR1
  by_cases hp : 1 < nz
  case neg =>
    have dp : decide (1 < (nz : Int)) = false := by simp; omega
    go_wp2_with fail
    refine (src_l02Bent w0 _ b A n c k2 z (by omega) HA.out HS2.out).mono ?_
    rintro e t1 ⟨l, wd, h, j, m1, rfl, hm1, ts1, to1⟩
    have TO1 := hide ((HO2.out.trans to1).alloc (.cells #[.int .i64 l, .int .i64 wd, .int .i64 h, .int .i64 j] 55))
    have TS1 := hide (ts1.alloc (.cells #[.int .i64 l, .int .i64 wd, .int .i64 h, .int .i64 j] 55))
    have TW1 := hide ((owns_only HW2.out to1 (by omega)).alloc (.cells #[.int .i64 l, .int .i64 wd, .int .i64 h, .int .i64 j] 55))
    have TR1 := hide ((to1.blk HR2.out hn0).alloc (.cells #[.int .i64 l, .int .i64 wd, .int .i64 h, .int .i64 j] 55))
    have TF1 := hide (Blk.new t1 55 #[.int .i64 l, .int .i64 wd, .int .i64 h, .int .i64 j])
    have tz1 : b < t1.heap.size := by have := HO2.out.size; have := to1.size; omega
    have tzw : w.heap.size < t1.heap.size := by omega
    have tn1 : t1.heap.size ≠ b := by omega
    obtain ⟨t2, ht2⟩ : ∃ u, t1.alloc (.cells #[.int .i64 l, .int .i64 wd, .int .i64 h, .int .i64 j] 55) = u := ⟨_, rfl⟩
    have tz2 : t1.heap.size < t2.heap.size := by rw [← ht2]; simp
    rw [ht2] at TO1 TS1 TW1 TR1 TF1
    obtain ⟨a0, a1, a2, a3, g0, g1, g2, g3⟩ := four_cells TF1.out
    have HT2 := hide ht2
    have TR2 := hide (show Blk t2.drew w.heap.size 55 #[.int .i64 0, .int .i64 0, .int .i64 0, .int .i64 0] from TR1.out)
    have TW2 := hide (show t2.drew.ownsRow w1.heap.size 68 4 (.slice (some ⟨g, 0, none⟩) nz d) nz (flat Mould.enc (zs)) from TW1.out)
    clear ts1 to1 ht2
    go_wp2
    rw [HT2.out]
    go_region_with (go_at_call 76; refine (src_l05Shrink w0 _ b A n c m1 z (by omega) HA.out (by first | exact TS1.out | exact TS1.out.keep ((Below.refl _ _).drew))).mono ?_; rintro e t3 ⟨v, m3, rfl, hm3, ts3, to3⟩; have TO3 := hide (TO1.out.drew.trans (by first | exact to3 | exact ((Only.refl _ _).drew).trans to3)); have e0 := ((ocell to3).1 _ 0 tz2 tn1).trans a0; have e1 := ((ocell to3).1 _ 1 tz2 tn1).trans a1; have e2 := ((ocell to3).1 _ 2 tz2 tn1).trans a2; have e3 := ((ocell to3).1 _ 3 tz2 tn1).trans a3; have TR3 := hide (to3.blk TR2.out hn0); have TW3 := hide (owns_only TW2.out to3 hz1); have tz3 : t1.heap.size < t3.heap.size := Nat.lt_of_lt_of_le tz2 to3.size; have tz4 : w.heap.size < t3.heap.size := Nat.lt_trans tzw tz3; obtain ⟨r0, r1, r2, r3, q0, q1, q2, q3⟩ := four_cells TR3.out; clear ts3 to3)
    all_goals
      go_wp2
      refine bodyPost_ret (v := .tuple #[.slice (some ⟨g, 0, none⟩) nz d, .agg #[.int .i64 l, .int .i64 wd, .int .i64 h, .int .i64 j], .int .i64 v]) ?_ rfl ?_
      · simp [results, Try.results23, go_sem, r0, r1, r2, r3]
      · refine ⟨zs, g, d, l, wd, h, j, v, by rw [HNZ.out]; exact hl2, by rw [HNZ.out], ?_, ?_⟩
        · rw [HNZ.out]
          exact own_whole HNZ.out (owns_low (own_far (own_far (own_far (own_far TW3.out (p := ⟨w.heap.size, 0, none⟩) (by show w.heap.size < w1.heap.size; omega) _) (p := ⟨w.heap.size, 1, none⟩) (by show w.heap.size < w1.heap.size; omega) _) (p := ⟨w.heap.size, 2, none⟩) (by show w.heap.size < w1.heap.size; omega) _) (p := ⟨w.heap.size, 3, none⟩) (by show w.heap.size < w1.heap.size; omega) _) (by omega))
        · have B2 : Below w.heap.size w t3 := (HB0.out.trans (HB.out.mono (by omega))).trans (TO3.out.below (by omega) (by omega))
          go_grown
  have dp : decide (1 < (nz : Int)) = true := by simp; omega
  go_wp2_with fail
  refine (src_one w0 _ b A n c k2 z 3 (by omega) (by omega) (by omega) HA.out HS2.out).mono ?_
  rintro e w3 ⟨yes, k3, rfl, hk3, hs3, ho3⟩
  have HS3 := hide hs3
  have HO3 := hide (HO2.out.trans ho3)
  have HW3 := hide (owns_only HW2.out ho3 hz1)
  have HR3 := hide (ho3.blk HR2.out hn0)
  clear hs3 ho3
  cases yes
  · go_wp2_with fail
    refine (src_l02Bent w0 _ b A n c k3 z (by omega) HA.out HS3.out).mono ?_
    rintro e t1 ⟨l, wd, h, j, m1, rfl, hm1, ts1, to1⟩
    have TO1 := hide ((HO3.out.trans to1).alloc (.cells #[.int .i64 l, .int .i64 wd, .int .i64 h, .int .i64 j] 55))
    have TS1 := hide (ts1.alloc (.cells #[.int .i64 l, .int .i64 wd, .int .i64 h, .int .i64 j] 55))
    have TW1 := hide ((owns_only HW3.out to1 (by omega)).alloc (.cells #[.int .i64 l, .int .i64 wd, .int .i64 h, .int .i64 j] 55))
    have TR1 := hide ((to1.blk HR3.out hn0).alloc (.cells #[.int .i64 l, .int .i64 wd, .int .i64 h, .int .i64 j] 55))
    have TF1 := hide (Blk.new t1 55 #[.int .i64 l, .int .i64 wd, .int .i64 h, .int .i64 j])
    have tz1 : b < t1.heap.size := by have := HO3.out.size; have := to1.size; omega
    have tzw : w.heap.size < t1.heap.size := by omega
    have tn1 : t1.heap.size ≠ b := by omega
    obtain ⟨t2, ht2⟩ : ∃ u, t1.alloc (.cells #[.int .i64 l, .int .i64 wd, .int .i64 h, .int .i64 j] 55) = u := ⟨_, rfl⟩
    have tz2 : t1.heap.size < t2.heap.size := by rw [← ht2]; simp
    rw [ht2] at TO1 TS1 TW1 TR1 TF1
    obtain ⟨a0, a1, a2, a3, g0, g1, g2, g3⟩ := four_cells TF1.out
    have HT2 := hide ht2
    have TR2 := hide (show Blk t2.drew w.heap.size 55 #[.int .i64 0, .int .i64 0, .int .i64 0, .int .i64 0] from TR1.out)
    have TW2 := hide (show t2.drew.ownsRow w1.heap.size 68 4 (.slice (some ⟨g, 0, none⟩) nz d) nz (flat Mould.enc (zs)) from TW1.out)
    clear ts1 to1 ht2
    go_wp2
    rw [HT2.out]
    go_region_with (go_at_call 76; refine (src_l05Shrink w0 _ b A n c m1 z (by omega) HA.out (by first | exact TS1.out | exact TS1.out.keep ((Below.refl _ _).drew))).mono ?_; rintro e t3 ⟨v, m3, rfl, hm3, ts3, to3⟩; have TO3 := hide (TO1.out.drew.trans (by first | exact to3 | exact ((Only.refl _ _).drew).trans to3)); have e0 := ((ocell to3).1 _ 0 tz2 tn1).trans a0; have e1 := ((ocell to3).1 _ 1 tz2 tn1).trans a1; have e2 := ((ocell to3).1 _ 2 tz2 tn1).trans a2; have e3 := ((ocell to3).1 _ 3 tz2 tn1).trans a3; have TR3 := hide (to3.blk TR2.out hn0); have TW3 := hide (owns_only TW2.out to3 hz1); have tz3 : t1.heap.size < t3.heap.size := Nat.lt_of_lt_of_le tz2 to3.size; have tz4 : w.heap.size < t3.heap.size := Nat.lt_trans tzw tz3; obtain ⟨r0, r1, r2, r3, q0, q1, q2, q3⟩ := four_cells TR3.out; clear ts3 to3)
    all_goals
      go_wp2
      refine bodyPost_ret (v := .tuple #[.slice (some ⟨g, 0, none⟩) nz d, .agg #[.int .i64 l, .int .i64 wd, .int .i64 h, .int .i64 j], .int .i64 v]) ?_ rfl ?_
      · simp [results, Try.results23, go_sem, r0, r1, r2, r3]
      · refine ⟨zs, g, d, l, wd, h, j, v, by rw [HNZ.out]; exact hl2, by rw [HNZ.out], ?_, ?_⟩
        · rw [HNZ.out]
          exact own_whole HNZ.out (owns_low (own_far (own_far (own_far (own_far TW3.out (p := ⟨w.heap.size, 0, none⟩) (by show w.heap.size < w1.heap.size; omega) _) (p := ⟨w.heap.size, 1, none⟩) (by show w.heap.size < w1.heap.size; omega) _) (p := ⟨w.heap.size, 2, none⟩) (by show w.heap.size < w1.heap.size; omega) _) (p := ⟨w.heap.size, 3, none⟩) (by show w.heap.size < w1.heap.size; omega) _) (by omega))
        · have B2 : Below w.heap.size w t3 := (HB0.out.trans (HB.out.mono (by omega))).trans (TO3.out.below (by omega) (by omega))
          go_grown
  · obtain ⟨⟨x0, x1, x2, x3⟩, hx⟩ : ∃ x, zs[0]? = some x := ⟨zs[0]'(by have := HNZ.out; omega), List.getElem?_eq_getElem (by have := HNZ.out; omega)⟩
    obtain ⟨c0, c1, c2, c3, f0, f1, f2, f3⟩ := own_mould_at HW3.out hx
    obtain ⟨y0, y1, y2, y3, c4, c5, c6, c7, f4, f5, f6, f7⟩ := own_at_4 (i := 1) HW3.out hp
    have hgl := own_lt HW3.out
    have hg0 : w0.heap.size ≤ g := by have := HBB.out; omega
    rw [show 0 * 4 = 0 from rfl] at c0 c1 c2 c3 f0 f1 f2 f3
    rw [show 1 * 4 = 4 from rfl] at c4 c5 c6 c7 f4 f5 f6 f7
    have hset := own_mould_set x0 x1 x2 x3 HW3.out HNZ.out hp
    rw [show 1 * 4 = 4 from rfl] at hset
    obtain ⟨w4, hw4⟩ : ∃ u, ((((w3.setCell ⟨g, 4, none⟩ (.int .i64 x0)).setCell ⟨g, 4 + 1, none⟩ (.int .i64 x1)).setCell ⟨g, 4 + 2, none⟩ (.int .i64 x2)).setCell ⟨g, 4 + 3, none⟩ (.int .i64 x3)) = u := ⟨_, rfl⟩
    rw [hw4] at hset
    have hgb : g ≠ b := by omega
    have HS4 := hide (show Src w0 w4 b A n c k3 from by rw [← hw4]; exact (((HS3.out.set_ (p := ⟨g, 4, none⟩) hgb hg0 _).set_ (p := ⟨g, 4 + 1, none⟩) hgb hg0 _).set_ (p := ⟨g, 4 + 2, none⟩) hgb hg0 _).set_ (p := ⟨g, 4 + 3, none⟩) hgb hg0 _)
    have HO4 := hide (show Only b w1 w4 from by rw [← hw4]; exact (((HO3.out.set_ (p := ⟨g, 4, none⟩) (.inr (by show w1.heap.size ≤ g; omega)) _).set_ (p := ⟨g, 4 + 1, none⟩) (.inr (by show w1.heap.size ≤ g; omega)) _).set_ (p := ⟨g, 4 + 2, none⟩) (.inr (by show w1.heap.size ≤ g; omega)) _).set_ (p := ⟨g, 4 + 3, none⟩) (.inr (by show w1.heap.size ≤ g; omega)) _)
    have hgw : w.heap.size ≠ g := by omega
    have HR4 := hide (show Blk w4 w.heap.size 55 #[.int .i64 0, .int .i64 0, .int .i64 0, .int .i64 0] from by rw [← hw4]; exact (((HR3.out.far (p := ⟨g, 4, none⟩) hgw _).far (p := ⟨g, 4 + 1, none⟩) hgw _).far (p := ⟨g, 4 + 2, none⟩) hgw _).far (p := ⟨g, 4 + 3, none⟩) hgw _)
    have HW4 := hide hset.1
    have HWE := hide hw4
    have hgl3 : g < w3.heap.size := hgl.2
    clear hset hw4 hx
    go_wp2_with fail
    simp only [Nat.reduceAdd] at HWE
    rw [HWE.out]
    refine (src_pick w0 _ b A n c k3 z 20 (by omega) (by omega) (by omega) HA.out HS4.out).mono ?_
    rintro e w5 ⟨v5, k5, hv50, hv51, rfl, hk5, hs5, ho5⟩
    clear c0 c1 c2 c3 f0 f1 f2 f3 c4 c5 c6 c7 f4 f5 f6 f7
    have hW5 := owns_only HW4.out ho5 hz1
    have hls : (zs.set 1 ⟨x0, x1, x2, x3⟩).length = nz := by rw [List.length_set]; exact HNZ.out
    obtain ⟨y0', y1', y2', y3', c4, c5, c6, c7, f4, f5, f6, f7⟩ := own_at_4 (i := 1) hW5 hp
    rw [show 1 * 4 + 3 = 7 from rfl] at c7 f7
    obtain ⟨y, hW6, -⟩ := own_field_mould (j := 3) (5 * v5) hW5 hls hp (by omega)
    rw [show 1 * 4 + 3 = 7 from rfl] at hW6
    have HW6 := hide hW6
    have HO5 := hide ((HO4.out.trans ho5).set_ (p := ⟨g, 7, none⟩) (.inr (by show w1.heap.size ≤ g; omega)) (.int .i64 (5 * v5)))
    have HS5 := hide (hs5.set_ (p := ⟨g, 7, none⟩) hgb hg0 (.int .i64 (5 * v5)))
    have HR5 := hide ((ho5.blk HR4.out hn0).far (p := ⟨g, 7, none⟩) hgw (.int .i64 (5 * v5)))
    have HLS := hide (show ((zs.set 1 ⟨x0, x1, x2, x3⟩).set 1 y).length = nz from by rw [List.length_set]; exact hls)
    have hg5 : g < w5.heap.size := by have := (own_lt hW5).2; omega
    clear hW5 hW6 hs5 ho5 hls c4 c5 c6 f4 f5 f6
    go_wp2_with fail
    refine (src_l02Bent w0 _ b A n c k5 z (by omega) HA.out HS5.out).mono ?_
    rintro e t1 ⟨l, wd, h, j, m1, rfl, hm1, ts1, to1⟩
    have TO1 := hide ((HO5.out.trans to1).alloc (.cells #[.int .i64 l, .int .i64 wd, .int .i64 h, .int .i64 j] 55))
    have TS1 := hide (ts1.alloc (.cells #[.int .i64 l, .int .i64 wd, .int .i64 h, .int .i64 j] 55))
    have TW1 := hide ((owns_only HW6.out to1 (by omega)).alloc (.cells #[.int .i64 l, .int .i64 wd, .int .i64 h, .int .i64 j] 55))
    have TR1 := hide ((to1.blk HR5.out hn0).alloc (.cells #[.int .i64 l, .int .i64 wd, .int .i64 h, .int .i64 j] 55))
    have TF1 := hide (Blk.new t1 55 #[.int .i64 l, .int .i64 wd, .int .i64 h, .int .i64 j])
    have tz1 : b < t1.heap.size := by have := HO5.out.size; have := to1.size; simp at this; omega
    have tzw : w.heap.size < t1.heap.size := by omega
    have tn1 : t1.heap.size ≠ b := by omega
    obtain ⟨t2, ht2⟩ : ∃ u, t1.alloc (.cells #[.int .i64 l, .int .i64 wd, .int .i64 h, .int .i64 j] 55) = u := ⟨_, rfl⟩
    have tz2 : t1.heap.size < t2.heap.size := by rw [← ht2]; simp
    rw [ht2] at TO1 TS1 TW1 TR1 TF1
    obtain ⟨a0, a1, a2, a3, g0, g1, g2, g3⟩ := four_cells TF1.out
    have HT2 := hide ht2
    have TR2 := hide (show Blk t2.drew w.heap.size 55 #[.int .i64 0, .int .i64 0, .int .i64 0, .int .i64 0] from TR1.out)
    have TW2 := hide (show t2.drew.ownsRow w1.heap.size 68 4 (.slice (some ⟨g, 0, none⟩) nz d) nz (flat Mould.enc ((zs.set 1 ⟨x0, x1, x2, x3⟩).set 1 y)) from TW1.out)
    clear ts1 to1 ht2
    go_wp2
    rw [HT2.out]
    go_region_with (go_at_call 76; refine (src_l05Shrink w0 _ b A n c m1 z (by omega) HA.out (by first | exact TS1.out | exact TS1.out.keep ((Below.refl _ _).drew))).mono ?_; rintro e t3 ⟨v, m3, rfl, hm3, ts3, to3⟩; have TO3 := hide (TO1.out.drew.trans (by first | exact to3 | exact ((Only.refl _ _).drew).trans to3)); have e0 := ((ocell to3).1 _ 0 tz2 tn1).trans a0; have e1 := ((ocell to3).1 _ 1 tz2 tn1).trans a1; have e2 := ((ocell to3).1 _ 2 tz2 tn1).trans a2; have e3 := ((ocell to3).1 _ 3 tz2 tn1).trans a3; have TR3 := hide (to3.blk TR2.out hn0); have TW3 := hide (owns_only TW2.out to3 hz1); have tz3 : t1.heap.size < t3.heap.size := Nat.lt_of_lt_of_le tz2 to3.size; have tz4 : w.heap.size < t3.heap.size := Nat.lt_trans tzw tz3; obtain ⟨r0, r1, r2, r3, q0, q1, q2, q3⟩ := four_cells TR3.out; clear ts3 to3)
    all_goals
      go_wp2
      refine bodyPost_ret (v := .tuple #[.slice (some ⟨g, 0, none⟩) nz d, .agg #[.int .i64 l, .int .i64 wd, .int .i64 h, .int .i64 j], .int .i64 v]) ?_ rfl ?_
      · simp [results, Try.results23, go_sem, r0, r1, r2, r3]
      · refine ⟨(zs.set 1 ⟨x0, x1, x2, x3⟩).set 1 y, g, d, l, wd, h, j, v, by rw [HLS.out]; exact hl2, by rw [HLS.out], ?_, ?_⟩
        · rw [HLS.out]
          exact own_whole HLS.out (owns_low (own_far (own_far (own_far (own_far TW3.out (p := ⟨w.heap.size, 0, none⟩) (by show w.heap.size < w1.heap.size; omega) _) (p := ⟨w.heap.size, 1, none⟩) (by show w.heap.size < w1.heap.size; omega) _) (p := ⟨w.heap.size, 2, none⟩) (by show w.heap.size < w1.heap.size; omega) _) (p := ⟨w.heap.size, 3, none⟩) (by show w.heap.size < w1.heap.size; omega) _) (by omega))
        · have B2 : Below w.heap.size w t3 := (HB0.out.trans (HB.out.mono (by omega))).trans (TO3.out.below (by omega) (by omega))
          go_grown
end Go.Proofs.Ytgobpleckeeheaa
