/-
  What is proved: what the reference draws for the search of blends and for their faults. Conditions: as for the source.
-/
import Derived.Test.YtgobpleckeeheaaDrawC4
import Derived.Deep.RegionWith
namespace Go.Proofs.Ytgobpleckeeheaa
open Go.RowKit
set_option linter.unusedVariables false

/-- Some clays, some number, some limits. -/
def CPostL (w : World) (e : Ending) (w' : World) : Prop :=
  ∃ (zs : List Clay) (g d : Nat) (t l h m s : Int), zs.length ≤ 7 ∧ ShortNames zs ∧ e = .returned (.tuple #[.slice (some ⟨g, 0, none⟩) zs.length d, .int .i64 t, .agg #[.int .i64 l, .int .i64 h, .int .i64 m, .int .i64 s]]) ∧ Own 39 5 Clay.enc w' w.heap.size w'.heap.size (some ⟨g, 0, none⟩) zs.length d zs ∧ Below w.heap.size w w'
/-- Some clays, some parts, some limits. -/
def CPostB (w : World) (e : Ending) (w' : World) : Prop :=
  ∃ (zs : List Clay) (ps : List Int) (g d g2 d2 : Nat) (l h m s : Int), zs.length ≤ 7 ∧ ps.length ≤ 8 ∧ ShortNames zs ∧ e = .returned (.tuple #[.slice (some ⟨g, 0, none⟩) zs.length d, .slice (some ⟨g2, 0, none⟩) ps.length d2, .agg #[.int .i64 l, .int .i64 h, .int .i64 m, .int .i64 s]]) ∧ Own 39 5 Clay.enc w' w.heap.size w'.heap.size (some ⟨g, 0, none⟩) zs.length d zs ∧ Row encI 1 w' (some ⟨g2, 0, none⟩) ps ∧ Below w.heap.size w w'
theorem row_onl {α : Type} {enc : α → List Value} {k b g : Nat} {w w' : World} {xs : List α} (h : Row enc k w (some ⟨g, 0, none⟩) xs) (ho : Only b w w') (hne : g ≠ b) : Row enc k w' (some ⟨g, 0, none⟩) xs := row_only h ho (fun a e => by injection e with e; subst e; exact hne)
theorem row_far {α : Type} {enc : α → List Value} {k : Nat} {w : World} {A : Option Addr} {xs : List α} (h : Row enc k w A xs) {p : Addr} (hp : ∀ a, A = some a → a.block ≠ p.block) (x : Value) : Row enc k (w.setCell p x) A xs :=
  h.grown (row := some p.block) ⟨rfl, rfl, rfl, by simp, fun i hi hne => Below.heap_setCell _ _ _ _ (fun e => hne (by rw [e]))⟩ (fun a g h1 h2 => by
    injection h2 with h2
    subst h2
    exact hp a h1)
set_option maxRecDepth 100000 in
set_option maxHeartbeats 4000000 in
theorem src_l03Search (w : World) (A : Option Addr) (n c : Nat) (z : List Int) (ha : ArgInts .u8 w A n c z) :
    Calls Try.prog 38 #[.slice A n c] w (CPostL w) := by
  obtain ⟨w0, hw0⟩ : ∃ u, w.alloc (.cells #[.int .i64 0, .int .i64 0, .int .i64 0, .int .i64 0] 26) = u := ⟨_, rfl⟩
  have hb0 : Below w.heap.size w w0 := by rw [← hw0]; exact (Below.refl _ _).alloc (Nat.le_refl _) _
  have hz0 : w0.heap.size = w.heap.size + 1 := by rw [← hw0]; simp
  have hr0 : Blk w0 w.heap.size 26 #[.int .i64 0, .int .i64 0, .int .i64 0, .int .i64 0] := by rw [← hw0]; exact Blk.new _ _ _
  have HA := hide (ha.below hb0)
  have HB0 := hide hb0
  have HR0 := hide hr0
  have HW0 := hide hw0
  clear ha hb0 hr0 hw0
  go_enter Try.func38, Try.ntmps38
  go_wp2_with fail
  rw [HW0.out]
  refine (src_from _ _ _ _).mono ?_
  rintro e w1 ⟨rfl, hw1⟩
  obtain ⟨hs, hb1⟩ := src_start _ _ _ _ _ hw1
  have HS := hide hs
  have HB := hide hb1
  have hz1 := hs.lt
  have HR1 := hide (HR0.out.below hb1 (by omega))
  obtain ⟨b, hb⟩ : ∃ b, w0.heap.size = b := ⟨_, rfl⟩
  rw [hb] at HS HB hz0 hz1
  have HBB := hide hb
  have hn0 : w.heap.size ≠ b := by omega
  have hwb : w.heap.size < b := by omega
  have HZ0 := hide hz0
  rw [hb]
  clear hs hb1 hw1 hb HR0 hz0
  go_wp2_with fail
  refine (src_l03Bent 4 (by omega) w0 _ b A n c 0 z (by omega) HA.out HS.out).mono ?_
  rintro e w2 ⟨zs, g, d, k2, hl2, hnm, rfl, hw2, hk2, hs2, ho2⟩
  obtain ⟨nz, hnz⟩ : ∃ r, zs.length = r := ⟨_, rfl⟩
  rw [hnz] at hw2 hl2 ⊢
  have HNZ := hide hnz
  have HN := hide hnm
  have HS2 := hide hs2
  have HW2 := hide hw2.own
  have HO2 := hide ho2
  have HR2 := hide (ho2.blk HR1.out hn0)
  clear hs2 ho2 hw2 hnz hnm HS HR1
  go_wp2_with fail
  refine (src_pick w0 _ b A n c k2 z 8 (by omega) (by omega) (by omega) HA.out HS2.out).mono ?_
  rintro e w3 ⟨v3, k3, hv30, hv31, rfl, hk3, hs3, ho3⟩
  have HS3 := hide hs3
  have HO3 := hide (HO2.out.trans ho3)
  have HW3 := hide (ow_only HW2.out ho3 hz1)
  have HR3 := hide (ho3.blk HR2.out hn0)
  clear hs3 ho3
  go_wp2_with fail
  refine (src_one w0 _ b A n c k3 z 12 (by omega) (by omega) (by omega) HA.out HS3.out).mono ?_
  rintro e w4 ⟨yes, k4, rfl, hk4, hs4, ho4⟩
  have HS4 := hide hs4
  have HO4 := hide (HO3.out.trans ho4)
  have HW4 := hide (ow_only HW3.out ho4 hz1)
  have HR4 := hide (ho4.blk HR3.out hn0)
  clear hs4 ho4
  cases yes
  · go_wp2_with fail
    refine (src_l03DrawLimits w0 _ b A n c k4 z (by omega) HA.out HS4.out).mono ?_
    rintro e w5 ⟨l, h, m, s, k5, rfl, hk5, hs5, ho5⟩
    have HO5 := hide (HO4.out.trans ho5)
    have HW5 := hide (ow_only HW4.out ho5 (by omega))
    obtain ⟨r0, r1, r2, r3, q0, q1, q2, q3⟩ := lim_cells (ho5.blk HR4.out hn0)
    have hz5 : w.heap.size < w5.heap.size := by have := HO5.out.size; omega
    clear hs5 ho5
    go_wp2
    refine bodyPost_ret (v := .tuple #[.slice (some ⟨g, 0, none⟩) nz d, .int .i64 (1 + v3), .agg #[.int .i64 l, .int .i64 h, .int .i64 m, .int .i64 s]]) ?_ rfl ?_
    · simp [results, Try.results38, go_sem, r0, r1, r2, r3]
    · refine ⟨zs, g, d, 1 + v3, l, h, m, s, by rw [HNZ.out]; exact hl2, HN.out, by rw [HNZ.out], ?_, ?_⟩
      · rw [HNZ.out]
        exact own_entire HNZ.out (owns_low (ow_far (ow_far (ow_far (ow_far HW5.out (p := ⟨w.heap.size, 0, none⟩) (by show w.heap.size < w1.heap.size; omega) _) (p := ⟨w.heap.size, 1, none⟩) (by show w.heap.size < w1.heap.size; omega) _) (p := ⟨w.heap.size, 2, none⟩) (by show w.heap.size < w1.heap.size; omega) _) (p := ⟨w.heap.size, 3, none⟩) (by show w.heap.size < w1.heap.size; omega) _) (by omega))
      · have B2 : Below w.heap.size w w5 := (HB0.out.trans (HB.out.mono (by omega))).trans (HO5.out.below (by omega) (by omega))
        go_grown
  · go_wp2_with fail
    refine (src_amongL [-1, 0, 1, 12, 13] _ _ rfl w0 _ b A n c k4 z 5 rfl (by omega) (by omega) (by omega) HA.out HS4.out _ _ rfl).mono ?_
    rintro e wb ⟨vb, kb, hvb, rfl, hkb, hsb, hob⟩
    have HSb := hide hsb
    have HOb := hide (HO4.out.trans hob)
    have HWb := hide (ow_only HW4.out hob hz1)
    have HRb := hide (hob.blk HR4.out hn0)
    clear hsb hob hvb
    go_wp2_with fail
    refine (src_l03DrawLimits w0 _ b A n c kb z (by omega) HA.out HSb.out).mono ?_
    rintro e w5 ⟨l, h, m, s, k5, rfl, hk5, hs5, ho5⟩
    have HO5 := hide (HOb.out.trans ho5)
    have HW5 := hide (ow_only HWb.out ho5 (by omega))
    obtain ⟨r0, r1, r2, r3, q0, q1, q2, q3⟩ := lim_cells (ho5.blk HRb.out hn0)
    have hz5 : w.heap.size < w5.heap.size := by have := HO5.out.size; omega
    clear hs5 ho5
    go_wp2
    refine bodyPost_ret (v := .tuple #[.slice (some ⟨g, 0, none⟩) nz d, .int .i64 (vb), .agg #[.int .i64 l, .int .i64 h, .int .i64 m, .int .i64 s]]) ?_ rfl ?_
    · simp [results, Try.results38, go_sem, r0, r1, r2, r3]
    · refine ⟨zs, g, d, vb, l, h, m, s, by rw [HNZ.out]; exact hl2, HN.out, by rw [HNZ.out], ?_, ?_⟩
      · rw [HNZ.out]
        exact own_entire HNZ.out (owns_low (ow_far (ow_far (ow_far (ow_far HW5.out (p := ⟨w.heap.size, 0, none⟩) (by show w.heap.size < w1.heap.size; omega) _) (p := ⟨w.heap.size, 1, none⟩) (by show w.heap.size < w1.heap.size; omega) _) (p := ⟨w.heap.size, 2, none⟩) (by show w.heap.size < w1.heap.size; omega) _) (p := ⟨w.heap.size, 3, none⟩) (by show w.heap.size < w1.heap.size; omega) _) (by omega))
      · have B2 : Below w.heap.size w w5 := (HB0.out.trans (HB.out.mono (by omega))).trans (HO5.out.below (by omega) (by omega))
        go_grown
set_option maxRecDepth 100000 in
set_option maxHeartbeats 4000000 in
theorem src_DrawCheapestBlend (w : World) (A : Option Addr) (n c : Nat) (z : List Int) (ha : ArgInts .u8 w A n c z) :
    Calls Try.prog 6 #[.slice A n c] w (CPostL w) := by
  obtain ⟨w0, hw0⟩ : ∃ u, w.alloc (.cells #[.int .i64 0, .int .i64 0, .int .i64 0, .int .i64 0] 26) = u := ⟨_, rfl⟩
  have hb0 : Below w.heap.size w w0 := by rw [← hw0]; exact (Below.refl _ _).alloc (Nat.le_refl _) _
  have hz0 : w.heap.size < w0.heap.size := by rw [← hw0]; simp
  have hr0 : Blk w0 w.heap.size 26 #[.int .i64 0, .int .i64 0, .int .i64 0, .int .i64 0] := by rw [← hw0]; exact Blk.new _ _ _
  have HA := hide (ha.below hb0)
  have HB0 := hide hb0
  have HR0 := hide hr0
  have HW0 := hide hw0
  clear ha hb0 hr0 hw0
  go_enter Try.func6, Try.ntmps6
  go_wp2_with fail
  rw [HW0.out]
  refine (src_l03Search _ _ _ _ z HA.out).mono ?_
  rintro e w1 ⟨zs, g, d, t, l, h, m, s, hl, hnm, rfl, hown, hb⟩
  obtain ⟨nz, hnz⟩ : ∃ r, zs.length = r := ⟨_, rfl⟩
  rw [hnz] at hown hl ⊢
  have HNZ := hide hnz
  have HN := hide hnm
  have HW := hide hown.own
  obtain ⟨r0, r1, r2, r3, q0, q1, q2, q3⟩ := lim_cells (HR0.out.below hb hz0)
  have HB := hide (HB0.out.trans (hb.mono (by omega)))
  have hz1 : w.heap.size < w1.heap.size := Nat.lt_of_lt_of_le hz0 hb.size
  clear hnz hnm hown hb
  go_wp2
  refine bodyPost_ret (v := .tuple #[.slice (some ⟨g, 0, none⟩) nz d, .int .i64 t, .agg #[.int .i64 l, .int .i64 h, .int .i64 m, .int .i64 s]]) ?_ rfl ?_
  · simp [results, Try.results6, go_sem, r0, r1, r2, r3]
  · refine ⟨zs, g, d, t, l, h, m, s, by rw [HNZ.out]; exact hl, HN.out, by rw [HNZ.out], ?_, ?_⟩
    · rw [HNZ.out]
      exact own_entire HNZ.out (owns_low (ow_far (ow_far (ow_far (ow_far HW.out (p := ⟨w.heap.size, 0, none⟩) (by show w.heap.size < w0.heap.size; omega) _) (p := ⟨w.heap.size, 1, none⟩) (by show w.heap.size < w0.heap.size; omega) _) (p := ⟨w.heap.size, 2, none⟩) (by show w.heap.size < w0.heap.size; omega) _) (p := ⟨w.heap.size, 3, none⟩) (by show w.heap.size < w0.heap.size; omega) _) (by omega))
    · have B2 : Below w.heap.size w w1 := HB.out
      go_grown
set_option maxRecDepth 100000 in
set_option maxHeartbeats 4000000 in
theorem src_DrawBlendFault (w : World) (A : Option Addr) (n c : Nat) (z : List Int) (ha : ArgInts .u8 w A n c z) :
    Calls Try.prog 11 #[.slice A n c] w (CPostB w) := by
  obtain ⟨w0, hw0⟩ : ∃ u, w.alloc (.cells #[.int .i64 0, .int .i64 0, .int .i64 0, .int .i64 0] 26) = u := ⟨_, rfl⟩
  have hb0 : Below w.heap.size w w0 := by rw [← hw0]; exact (Below.refl _ _).alloc (Nat.le_refl _) _
  have hz0 : w0.heap.size = w.heap.size + 1 := by rw [← hw0]; simp
  have hr0 : Blk w0 w.heap.size 26 #[.int .i64 0, .int .i64 0, .int .i64 0, .int .i64 0] := by rw [← hw0]; exact Blk.new _ _ _
  have HA := hide (ha.below hb0)
  have HB0 := hide hb0
  have HR0 := hide hr0
  have HW0 := hide hw0
  clear ha hb0 hr0 hw0
  go_enter Try.func11, Try.ntmps11
  go_wp2_with fail
  rw [HW0.out]
  refine (src_from _ _ _ _).mono ?_
  rintro e w1 ⟨rfl, hw1⟩
  obtain ⟨hs, hb1⟩ := src_start _ _ _ _ _ hw1
  have HS := hide hs
  have HB := hide hb1
  have hz1 := hs.lt
  have HR1 := hide (HR0.out.below hb1 (by omega))
  obtain ⟨b, hb⟩ : ∃ b, w0.heap.size = b := ⟨_, rfl⟩
  rw [hb] at HS HB hz0 hz1
  have HBB := hide hb
  have hn0 : w.heap.size ≠ b := by omega
  have hwb : w.heap.size < b := by omega
  have HZ0 := hide hz0
  rw [hb]
  clear hs hb1 hw1 hb HR0 hz0
  go_wp2_with fail
  refine (src_l03Both w0 _ b A n c 0 z (by omega) HA.out HS.out).mono ?_
  rintro e w2 ⟨zs, ps, g, d, g2, d2, k2, hl2, hp2, hnm, rfl, hw2, hr2, hg2, hk2, hs2, ho2⟩
  obtain ⟨nz, hnz⟩ : ∃ r, zs.length = r := ⟨_, rfl⟩
  obtain ⟨np, hnp⟩ : ∃ r, ps.length = r := ⟨_, rfl⟩
  rw [hnz] at hw2 hl2 ⊢
  rw [hnp] at hp2 ⊢
  have HNZ := hide hnz
  have HNP := hide hnp
  have HN := hide hnm
  have HS2 := hide hs2
  have HW2 := hide hw2.own
  have HP2 := hide hr2
  have HO2 := hide ho2
  have HR2 := hide (ho2.blk HR1.out hn0)
  clear hs2 ho2 hw2 hr2 hnz hnp hnm HS HR1
  go_wp2_with fail
  refine (src_l03DrawLimits w0 _ b A n c k2 z (by omega) HA.out HS2.out).mono ?_
  rintro e w5 ⟨l, h, m, s, k5, rfl, hk5, hs5, ho5⟩
  have HO5 := hide (HO2.out.trans ho5)
  have HW5 := hide (ow_only HW2.out ho5 (by omega))
  have HP5 := hide (row_onl HP2.out ho5 (by omega))
  obtain ⟨r0, r1, r2, r3, q0, q1, q2, q3⟩ := lim_cells (ho5.blk HR2.out hn0)
  have hz5 : w.heap.size < w5.heap.size := by have := HO5.out.size; omega
  have hgw : ∀ a, (some ⟨g2, 0, none⟩ : Option Addr) = some a → a.block ≠ w.heap.size := fun a e => by injection e with e; subst e; show g2 ≠ w.heap.size; omega
  clear hs5 ho5
  go_wp2
  refine bodyPost_ret (v := .tuple #[.slice (some ⟨g, 0, none⟩) nz d, .slice (some ⟨g2, 0, none⟩) np d2, .agg #[.int .i64 l, .int .i64 h, .int .i64 m, .int .i64 s]]) ?_ rfl ?_
  · simp [results, Try.results11, go_sem, r0, r1, r2, r3]
  · refine ⟨zs, ps, g, d, g2, d2, l, h, m, s, by rw [HNZ.out]; exact hl2, by rw [HNP.out]; exact hp2, HN.out, by rw [HNZ.out, HNP.out], ?_, ?_, ?_⟩
    · rw [HNZ.out]
      exact own_entire HNZ.out (owns_low (ow_far (ow_far (ow_far (ow_far HW5.out (p := ⟨w.heap.size, 0, none⟩) (by show w.heap.size < w1.heap.size; omega) _) (p := ⟨w.heap.size, 1, none⟩) (by show w.heap.size < w1.heap.size; omega) _) (p := ⟨w.heap.size, 2, none⟩) (by show w.heap.size < w1.heap.size; omega) _) (p := ⟨w.heap.size, 3, none⟩) (by show w.heap.size < w1.heap.size; omega) _) (by omega))
    · exact row_far (row_far (row_far (row_far HP5.out (p := ⟨w.heap.size, 0, none⟩) hgw _) (p := ⟨w.heap.size, 1, none⟩) hgw _) (p := ⟨w.heap.size, 2, none⟩) hgw _) (p := ⟨w.heap.size, 3, none⟩) hgw _
    · have B2 : Below w.heap.size w w5 := (HB0.out.trans (HB.out.mono (by omega))).trans (HO5.out.below (by omega) (by omega))
      go_grown
end Go.Proofs.Ytgobpleckeeheaa
