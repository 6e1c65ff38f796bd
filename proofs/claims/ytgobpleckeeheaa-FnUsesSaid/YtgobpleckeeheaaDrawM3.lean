/-
  What is proved: a format as the reference draws it, seldom a valid one too; what it draws for ShareUses, WornMoulds and UseMould. Conditions: as for the source.
-/
import Derived.Test.YtgobpleckeeheaaDrawM2
import Derived.Test.YtgobpleckeeheaaDrawF
namespace Go.Proofs.Ytgobpleckeeheaa
open Go.RowKit
set_option linter.unusedVariables false

/-- Some format. -/
def FDrawn (w0 w : World) (b : Nat) (A : Option Addr) (n c k : Nat) (e : Ending) (w' : World) : Prop :=
  ∃ (l wd h j : Int) (k' : Nat), e = .returned (.agg #[.int .i64 l, .int .i64 wd, .int .i64 h, .int .i64 j]) ∧ k' ≤ k + 16 ∧ Src w0 w' b A n c k' ∧ Only b w w'
set_option maxRecDepth 100000 in
set_option maxHeartbeats 4000000 in
theorem src_l02Bent (w0 w : World) (b : Nat) (A : Option Addr) (n c k : Nat) (z : List Int) (hk : k < 1099511620000) (ha : ArgInts .u8 w0 A n c z) (hs : Src w0 w b A n c k) :
    Calls Try.prog 75 #[.pointer (some ⟨b, 0, none⟩)] w (FDrawn w0 w b A n c k) := by
  have HA := hide ha
  have hbl := hs.lt
  have hba := hs.base
  have hw0 : w0.heap.size ≤ w.heap.size := hs.2.1.size
  have HS := hide (hs.alloc (.cells #[.int .i64 0, .int .i64 0, .int .i64 0, .int .i64 0] 55))
  have HR := hide (Blk.new w 55 #[.int .i64 0, .int .i64 0, .int .i64 0, .int .i64 0])
  have hn0 : w.heap.size ≠ b := by omega
  clear ha hs
  go_enter Try.func75, Try.ntmps75
  go_wp2_with fail
  refine (src_l02Draw w0 _ b A n c k z (by omega) HA.out HS.out).mono ?_
  rintro e w1 ⟨l, wd, h, j, k1, hbd, rfl, hk1, hs1, ho1⟩
  have hz1 : w.heap.size < w1.heap.size := by have := ho1.size; simp at this; omega
  have hn1 : w1.heap.size ≠ b := by omega
  have hwa : w0.heap.size ≤ w1.heap.size := by omega
  have HO1 := hide ((((Only.refl b w).alloc _).trans ho1).alloc (.cells #[.int .i64 l, .int .i64 wd, .int .i64 h, .int .i64 j] 55))
  have HR1 := hide ((ho1.blk HR.out hn0).alloc (.cells #[.int .i64 l, .int .i64 wd, .int .i64 h, .int .i64 j] 55))
  have HS1 := hide (hs1.alloc (.cells #[.int .i64 l, .int .i64 wd, .int .i64 h, .int .i64 j] 55))
  have HF1 := hide (Blk.new w1 55 #[.int .i64 l, .int .i64 wd, .int .i64 h, .int .i64 j])
  clear hs1 ho1 hbd
  go_wp2_with fail
  refine (src_pick w0 _ b A n c k1 z 20 (by omega) (by omega) (by omega) HA.out HS1.out).mono ?_
  rintro e w2 ⟨v, k2, hv0, hv1, rfl, hk2, hs2, ho2⟩
  have hz2 : w1.heap.size < w2.heap.size := by have := ho2.size; simp at this; omega
  have HO2 := hide (HO1.out.trans ho2)
  have HS2 := hide hs2
  have HR2 := hide (ho2.blk HR1.out hn0)
  have HF2 := hide (ho2.blk HF1.out hn1)
  clear hs2 ho2
  by_cases h4 : 4 ≤ v
  · have b0 : (v == 0) = false := by simp; omega
    have b1 : (v == 1) = false := by simp; omega
    have b2 : (v == 2) = false := by simp; omega
    have b3 : (v == 3) = false := by simp; omega
    obtain ⟨a0, a1, a2, a3, g0, g1, g2, g3⟩ := four_cells HF2.out
    obtain ⟨r0, r1, r2, r3, q0, q1, q2, q3⟩ := four_cells HR2.out
    go_wp2
    refine bodyPost_ret (v := .agg #[.int .i64 l, .int .i64 wd, .int .i64 h, .int .i64 j]) ?_ rfl ?_
    · simp [results, Try.results75, go_sem, r0, r1, r2, r3]
    · refine ⟨_, _, _, _, k2, rfl, by omega, ?_, ?_⟩
      · exact ((((HS2.out.set_ (p := ⟨w.heap.size, 0, none⟩) hn0 hw0 _).set_ (p := ⟨w.heap.size, 1, none⟩) hn0 hw0 _).set_ (p := ⟨w.heap.size, 2, none⟩) hn0 hw0 _).set_ (p := ⟨w.heap.size, 3, none⟩) hn0 hw0 _)
      · exact ((((HO2.out.set_ (p := ⟨w.heap.size, 0, none⟩) (.inr (Nat.le_refl _)) _).set_ (p := ⟨w.heap.size, 1, none⟩) (.inr (Nat.le_refl _)) _).set_ (p := ⟨w.heap.size, 2, none⟩) (.inr (Nat.le_refl _)) _).set_ (p := ⟨w.heap.size, 3, none⟩) (.inr (Nat.le_refl _)) _)
  rcases (show v = 0 ∨ v = 1 ∨ v = 2 ∨ v = 3 from by omega) with rfl | rfl | rfl | rfl
  · have a1 : w2.cell? ⟨w1.heap.size, 1, none⟩ = some (.int .i64 wd) := HF2.out.cell 1
    go_wp2_with fail
    refine (src_amongL [99, 100, 500, 501, wd, -9223372036854775808] _ _ rfl w0 _ b A n c k2 z 6 rfl (by omega) (by omega) (by omega) HA.out HS2.out _ _ rfl).mono ?_
    rintro e w3 ⟨u, k3, hu, rfl, hk3, hs3, ho3⟩
    clear a1
    have hz3 : w1.heap.size < w3.heap.size := by have := ho3.size; omega
    have HO3 := hide ((HO2.out.trans ho3).set_ (p := ⟨w1.heap.size, 0, none⟩) (.inr (by show w.heap.size ≤ w1.heap.size; omega)) (.int .i64 u))
    have HS3 := hide (hs3.set_ (p := ⟨w1.heap.size, 0, none⟩) hn1 hwa (.int .i64 u))
    obtain ⟨a0, a1, a2, a3, g0, g1, g2, g3⟩ := four_cells (ho3.blk HF2.out hn1)
    obtain ⟨r0, r1, r2, r3, q0, q1, q2, q3⟩ := four_cells (ho3.blk HR2.out hn0)
    clear hs3 ho3 hu
    go_wp2
    refine bodyPost_ret (v := .agg #[.int .i64 u, .int .i64 wd, .int .i64 h, .int .i64 j]) ?_ rfl ?_
    · simp [results, Try.results75, go_sem, r0, r1, r2, r3]
    · refine ⟨_, _, _, _, k3, rfl, by omega, ?_, ?_⟩
      · exact ((((HS3.out.set_ (p := ⟨w.heap.size, 0, none⟩) hn0 hw0 _).set_ (p := ⟨w.heap.size, 1, none⟩) hn0 hw0 _).set_ (p := ⟨w.heap.size, 2, none⟩) hn0 hw0 _).set_ (p := ⟨w.heap.size, 3, none⟩) hn0 hw0 _)
      · exact ((((HO3.out.set_ (p := ⟨w.heap.size, 0, none⟩) (.inr (Nat.le_refl _)) _).set_ (p := ⟨w.heap.size, 1, none⟩) (.inr (Nat.le_refl _)) _).set_ (p := ⟨w.heap.size, 2, none⟩) (.inr (Nat.le_refl _)) _).set_ (p := ⟨w.heap.size, 3, none⟩) (.inr (Nat.le_refl _)) _)
  · go_wp2_with fail
    refine (src_amongL [49, 50, 250, 251] _ _ rfl w0 _ b A n c k2 z 4 rfl (by omega) (by omega) (by omega) HA.out HS2.out _ _ rfl).mono ?_
    rintro e w3 ⟨u, k3, hu, rfl, hk3, hs3, ho3⟩
    have hz3 : w1.heap.size < w3.heap.size := by have := ho3.size; omega
    have HO3 := hide ((HO2.out.trans ho3).set_ (p := ⟨w1.heap.size, 1, none⟩) (.inr (by show w.heap.size ≤ w1.heap.size; omega)) (.int .i64 u))
    have HS3 := hide (hs3.set_ (p := ⟨w1.heap.size, 1, none⟩) hn1 hwa (.int .i64 u))
    obtain ⟨a0, a1, a2, a3, g0, g1, g2, g3⟩ := four_cells (ho3.blk HF2.out hn1)
    obtain ⟨r0, r1, r2, r3, q0, q1, q2, q3⟩ := four_cells (ho3.blk HR2.out hn0)
    clear hs3 ho3 hu
    go_wp2
    refine bodyPost_ret (v := .agg #[.int .i64 l, .int .i64 u, .int .i64 h, .int .i64 j]) ?_ rfl ?_
    · simp [results, Try.results75, go_sem, r0, r1, r2, r3]
    · refine ⟨_, _, _, _, k3, rfl, by omega, ?_, ?_⟩
      · exact ((((HS3.out.set_ (p := ⟨w.heap.size, 0, none⟩) hn0 hw0 _).set_ (p := ⟨w.heap.size, 1, none⟩) hn0 hw0 _).set_ (p := ⟨w.heap.size, 2, none⟩) hn0 hw0 _).set_ (p := ⟨w.heap.size, 3, none⟩) hn0 hw0 _)
      · exact ((((HO3.out.set_ (p := ⟨w.heap.size, 0, none⟩) (.inr (Nat.le_refl _)) _).set_ (p := ⟨w.heap.size, 1, none⟩) (.inr (Nat.le_refl _)) _).set_ (p := ⟨w.heap.size, 2, none⟩) (.inr (Nat.le_refl _)) _).set_ (p := ⟨w.heap.size, 3, none⟩) (.inr (Nat.le_refl _)) _)
  · go_wp2_with fail
    refine (src_amongL [29, 30, 150, 151] _ _ rfl w0 _ b A n c k2 z 4 rfl (by omega) (by omega) (by omega) HA.out HS2.out _ _ rfl).mono ?_
    rintro e w3 ⟨u, k3, hu, rfl, hk3, hs3, ho3⟩
    have hz3 : w1.heap.size < w3.heap.size := by have := ho3.size; omega
    have HO3 := hide ((HO2.out.trans ho3).set_ (p := ⟨w1.heap.size, 2, none⟩) (.inr (by show w.heap.size ≤ w1.heap.size; omega)) (.int .i64 u))
    have HS3 := hide (hs3.set_ (p := ⟨w1.heap.size, 2, none⟩) hn1 hwa (.int .i64 u))
    obtain ⟨a0, a1, a2, a3, g0, g1, g2, g3⟩ := four_cells (ho3.blk HF2.out hn1)
    obtain ⟨r0, r1, r2, r3, q0, q1, q2, q3⟩ := four_cells (ho3.blk HR2.out hn0)
    clear hs3 ho3 hu
    go_wp2
    refine bodyPost_ret (v := .agg #[.int .i64 l, .int .i64 wd, .int .i64 u, .int .i64 j]) ?_ rfl ?_
    · simp [results, Try.results75, go_sem, r0, r1, r2, r3]
    · refine ⟨_, _, _, _, k3, rfl, by omega, ?_, ?_⟩
      · exact ((((HS3.out.set_ (p := ⟨w.heap.size, 0, none⟩) hn0 hw0 _).set_ (p := ⟨w.heap.size, 1, none⟩) hn0 hw0 _).set_ (p := ⟨w.heap.size, 2, none⟩) hn0 hw0 _).set_ (p := ⟨w.heap.size, 3, none⟩) hn0 hw0 _)
      · exact ((((HO3.out.set_ (p := ⟨w.heap.size, 0, none⟩) (.inr (Nat.le_refl _)) _).set_ (p := ⟨w.heap.size, 1, none⟩) (.inr (Nat.le_refl _)) _).set_ (p := ⟨w.heap.size, 2, none⟩) (.inr (Nat.le_refl _)) _).set_ (p := ⟨w.heap.size, 3, none⟩) (.inr (Nat.le_refl _)) _)
  · go_wp2_with fail
    refine (src_amongL [-1, 0, 20, 21, 9223372036854775807] _ _ rfl w0 _ b A n c k2 z 5 rfl (by omega) (by omega) (by omega) HA.out HS2.out _ _ rfl).mono ?_
    rintro e w3 ⟨u, k3, hu, rfl, hk3, hs3, ho3⟩
    have hz3 : w1.heap.size < w3.heap.size := by have := ho3.size; omega
    have HO3 := hide ((HO2.out.trans ho3).set_ (p := ⟨w1.heap.size, 3, none⟩) (.inr (by show w.heap.size ≤ w1.heap.size; omega)) (.int .i64 u))
    have HS3 := hide (hs3.set_ (p := ⟨w1.heap.size, 3, none⟩) hn1 hwa (.int .i64 u))
    obtain ⟨a0, a1, a2, a3, g0, g1, g2, g3⟩ := four_cells (ho3.blk HF2.out hn1)
    obtain ⟨r0, r1, r2, r3, q0, q1, q2, q3⟩ := four_cells (ho3.blk HR2.out hn0)
    clear hs3 ho3 hu
    go_wp2
    refine bodyPost_ret (v := .agg #[.int .i64 l, .int .i64 wd, .int .i64 h, .int .i64 u]) ?_ rfl ?_
    · simp [results, Try.results75, go_sem, r0, r1, r2, r3]
    · refine ⟨_, _, _, _, k3, rfl, by omega, ?_, ?_⟩
      · exact ((((HS3.out.set_ (p := ⟨w.heap.size, 0, none⟩) hn0 hw0 _).set_ (p := ⟨w.heap.size, 1, none⟩) hn0 hw0 _).set_ (p := ⟨w.heap.size, 2, none⟩) hn0 hw0 _).set_ (p := ⟨w.heap.size, 3, none⟩) hn0 hw0 _)
      · exact ((((HO3.out.set_ (p := ⟨w.heap.size, 0, none⟩) (.inr (Nat.le_refl _)) _).set_ (p := ⟨w.heap.size, 1, none⟩) (.inr (Nat.le_refl _)) _).set_ (p := ⟨w.heap.size, 2, none⟩) (.inr (Nat.le_refl _)) _).set_ (p := ⟨w.heap.size, 3, none⟩) (.inr (Nat.le_refl _)) _)
/-- Some list of moulds in memory of its own, and some number. -/
def MPost (w : World) (e : Ending) (w' : World) : Prop :=
  ∃ (zs : List Mould) (g d : Nat) (v : Int), zs.length ≤ 21 ∧ e = .returned (.tuple #[.slice (some ⟨g, 0, none⟩) zs.length d, .int .i64 v]) ∧ Own 68 4 Mould.enc w' w.heap.size w'.heap.size (some ⟨g, 0, none⟩) zs.length d zs ∧ Below w.heap.size w w'
/-- Some list of moulds in memory of its own, and two numbers. -/
def MPost2 (w : World) (e : Ending) (w' : World) : Prop :=
  ∃ (zs : List Mould) (g d : Nat) (v u : Int), zs.length ≤ 21 ∧ e = .returned (.tuple #[.slice (some ⟨g, 0, none⟩) zs.length d, .int .i64 v, .int .i64 u]) ∧ Own 68 4 Mould.enc w' w.heap.size w'.heap.size (some ⟨g, 0, none⟩) zs.length d zs ∧ Below w.heap.size w w'
set_option maxRecDepth 100000 in
set_option maxHeartbeats 1000000 in
theorem src_DrawShareUses (w : World) (A : Option Addr) (n c : Nat) (z : List Int) (ha : ArgInts .u8 w A n c z) :
    Calls Try.prog 20 #[.slice A n c] w (MPost w) := by
  have HA := hide ha
  clear ha
  go_enter Try.func20, Try.ntmps20
  go_wp2_with fail
  refine (src_from _ _ _ _).mono ?_
  rintro e w1 ⟨rfl, hw1⟩
  obtain ⟨hs, hb1⟩ := src_start _ _ _ _ _ hw1
  have HS := hide hs
  have HB := hide hb1
  have hz1 := hs.lt
  clear hs hb1 hw1
  go_wp2_with fail
  refine (src_l05Bent w _ w.heap.size A n c 0 z (by omega) HA.out HS.out).mono ?_
  rintro e w2 ⟨zs, g, d, k2, hl2, rfl, hw2, hk2, hs2, ho2⟩
  obtain ⟨nz, hnz⟩ : ∃ r, zs.length = r := ⟨_, rfl⟩
  rw [hnz] at hw2 hl2 ⊢
  have HNZ := hide hnz
  have HS2 := hide hs2
  have HW2 := hide hw2.own
  have HO2 := hide ho2
  have hz2 := ho2.size
  clear hs2 ho2 hw2 hnz HS
  go_wp2_with fail
  refine (src_one w _ w.heap.size A n c k2 z 10 (by omega) (by omega) (by omega) HA.out HS2.out).mono ?_
  rintro e w3 ⟨yes, k3, rfl, hk3, hs3, ho3⟩
  have HS3 := hide hs3
  have HO3 := hide (HO2.out.trans ho3)
  have HW3 := hide (owns_only HW2.out ho3 hz1)
  clear hs3 ho3
  cases yes
  · go_wp2_with fail
    refine (src_pick w _ w.heap.size A n c k3 z 150 (by omega) (by omega) (by omega) HA.out HS3.out).mono ?_
    rintro e w4 ⟨v, k4, hv0, hv1, rfl, hk4, hs4, ho4⟩
    have HO4 := hide (HO3.out.trans ho4)
    have HW4 := hide (owns_only HW3.out ho4 hz1)
    have hz4 := HO4.out.size
    clear hs4 ho4
    go_wp2
    go_ret2
    exact ⟨zs, g, d, _, by rw [HNZ.out]; exact hl2, by rw [HNZ.out]; rfl, by rw [HNZ.out]; exact own_whole HNZ.out (owns_low HW4.out (by omega)), HB.out.trans (HO4.out.below (Nat.le_refl _) (by omega))⟩
  · go_wp2_with fail
    refine (src_amongL [-1, 0, 2000, 2001] _ _ rfl w _ w.heap.size A n c k3 z 4 rfl (by omega) (by omega) (by omega) HA.out HS3.out _ _ rfl).mono ?_
    rintro e w4 ⟨v, k4, hv, rfl, hk4, hs4, ho4⟩
    have HO4 := hide (HO3.out.trans ho4)
    have HW4 := hide (owns_only HW3.out ho4 hz1)
    have hz4 := HO4.out.size
    clear hs4 ho4 hv
    go_wp2
    go_ret2
    exact ⟨zs, g, d, _, by rw [HNZ.out]; exact hl2, by rw [HNZ.out]; rfl, by rw [HNZ.out]; exact own_whole HNZ.out (owns_low HW4.out (by omega)), HB.out.trans (HO4.out.below (Nat.le_refl _) (by omega))⟩
set_option maxRecDepth 100000 in
set_option maxHeartbeats 1000000 in
theorem src_DrawWornMoulds (w : World) (A : Option Addr) (n c : Nat) (z : List Int) (ha : ArgInts .u8 w A n c z) :
    Calls Try.prog 29 #[.slice A n c] w (MPost w) := by
  have HA := hide ha
  clear ha
  go_enter Try.func29, Try.ntmps29
  go_wp2_with fail
  refine (src_from _ _ _ _).mono ?_
  rintro e w1 ⟨rfl, hw1⟩
  obtain ⟨hs, hb1⟩ := src_start _ _ _ _ _ hw1
  have HS := hide hs
  have HB := hide hb1
  have hz1 := hs.lt
  clear hs hb1 hw1
  go_wp2_with fail
  refine (src_l05Bent w _ w.heap.size A n c 0 z (by omega) HA.out HS.out).mono ?_
  rintro e w2 ⟨zs, g, d, k2, hl2, rfl, hw2, hk2, hs2, ho2⟩
  obtain ⟨nz, hnz⟩ : ∃ r, zs.length = r := ⟨_, rfl⟩
  rw [hnz] at hw2 hl2 ⊢
  have HNZ := hide hnz
  have HS2 := hide hs2
  have HW2 := hide hw2.own
  have HO2 := hide ho2
  have hz2 := ho2.size
  clear hs2 ho2 hw2 hnz HS
  go_wp2_with fail
  refine (src_one w _ w.heap.size A n c k2 z 10 (by omega) (by omega) (by omega) HA.out HS2.out).mono ?_
  rintro e w3 ⟨yes, k3, rfl, hk3, hs3, ho3⟩
  have HS3 := hide hs3
  have HO3 := hide (HO2.out.trans ho3)
  have HW3 := hide (owns_only HW2.out ho3 hz1)
  clear hs3 ho3
  cases yes
  · go_wp2_with fail
    refine (src_pick w _ w.heap.size A n c k3 z 12 (by omega) (by omega) (by omega) HA.out HS3.out).mono ?_
    rintro e w4 ⟨v, k4, hv0, hv1, rfl, hk4, hs4, ho4⟩
    have HO4 := hide (HO3.out.trans ho4)
    have HW4 := hide (owns_only HW3.out ho4 hz1)
    have hz4 := HO4.out.size
    clear hs4 ho4
    go_wp2
    go_ret2
    exact ⟨zs, g, d, _, by rw [HNZ.out]; exact hl2, by rw [HNZ.out]; rfl, by rw [HNZ.out]; exact own_whole HNZ.out (owns_low HW4.out (by omega)), HB.out.trans (HO4.out.below (Nat.le_refl _) (by omega))⟩
  · go_wp2_with fail
    refine (src_amongL [-1, 0, 100000, 100001] _ _ rfl w _ w.heap.size A n c k3 z 4 rfl (by omega) (by omega) (by omega) HA.out HS3.out _ _ rfl).mono ?_
    rintro e w4 ⟨v, k4, hv, rfl, hk4, hs4, ho4⟩
    have HO4 := hide (HO3.out.trans ho4)
    have HW4 := hide (owns_only HW3.out ho4 hz1)
    have hz4 := HO4.out.size
    clear hs4 ho4 hv
    go_wp2
    go_ret2
    exact ⟨zs, g, d, _, by rw [HNZ.out]; exact hl2, by rw [HNZ.out]; rfl, by rw [HNZ.out]; exact own_whole HNZ.out (owns_low HW4.out (by omega)), HB.out.trans (HO4.out.below (Nat.le_refl _) (by omega))⟩
set_option maxRecDepth 100000 in
set_option maxHeartbeats 1000000 in
theorem src_DrawUseMould (w : World) (A : Option Addr) (n c : Nat) (z : List Int) (ha : ArgInts .u8 w A n c z) :
    Calls Try.prog 26 #[.slice A n c] w (MPost2 w) := by
  have HA := hide ha
  clear ha
  go_enter Try.func26, Try.ntmps26
  go_wp2_with fail
  refine (src_from _ _ _ _).mono ?_
  rintro e w1 ⟨rfl, hw1⟩
  obtain ⟨hs, hb1⟩ := src_start _ _ _ _ _ hw1
  have HS := hide hs
  have HB := hide hb1
  have hz1 := hs.lt
  clear hs hb1 hw1
  go_wp2_with fail
  refine (src_l05Bent w _ w.heap.size A n c 0 z (by omega) HA.out HS.out).mono ?_
  rintro e w2 ⟨zs, g, d, k2, hl2, rfl, hw2, hk2, hs2, ho2⟩
  obtain ⟨nz, hnz⟩ : ∃ r, zs.length = r := ⟨_, rfl⟩
  rw [hnz] at hw2 hl2 ⊢
  have HNZ := hide hnz
  have HS2 := hide hs2
  have HW2 := hide hw2.own
  have HO2 := hide ho2
  have hz2 := ho2.size
  clear hs2 ho2 hw2 hnz HS
  have v8 := Go.IntWalk.i64_in ((nz : Int) + 1) ⟨by omega, by omega⟩
  go_wp2_with fail
  refine (src_pick w _ w.heap.size A n c k2 z ((nz : Int) + 1) (by omega) (by omega) (by omega) HA.out HS2.out).mono ?_
  rintro e w3 ⟨v3, k3, hv30, hv31, rfl, hk3, hs3, ho3⟩
  have HS3 := hide hs3
  have HO3 := hide (HO2.out.trans ho3)
  have HW3 := hide (owns_only HW2.out ho3 hz1)
  clear hs3 ho3
  go_wp2_with fail
  refine (src_pick w _ w.heap.size A n c k3 z 16 (by omega) (by omega) (by omega) HA.out HS3.out).mono ?_
  rintro e w4 ⟨v4, k4, hv40, hv41, rfl, hk4, hs4, ho4⟩
  have HS4 := hide hs4
  have HO4 := hide (HO3.out.trans ho4)
  have HW4 := hide (owns_only HW3.out ho4 hz1)
  clear hs4 ho4
  go_wp2_with fail
  refine (src_one w _ w.heap.size A n c k4 z 8 (by omega) (by omega) (by omega) HA.out HS4.out).mono ?_
  rintro e w5 ⟨yes, k5, rfl, hk5, hs5, ho5⟩
  have HS5 := hide hs5
  have HO5 := hide (HO4.out.trans ho5)
  have HW5 := hide (owns_only HW4.out ho5 hz1)
  clear hs5 ho5
  cases yes
  · go_wp2_with fail
    refine (src_pick w _ w.heap.size A n c k5 z 50 (by omega) (by omega) (by omega) HA.out HS5.out).mono ?_
    rintro e w6 ⟨v, k6, hv0, hv1, rfl, hk6, hs6, ho6⟩
    have HO6 := hide (HO5.out.trans ho6)
    have HW6 := hide (owns_only HW5.out ho6 hz1)
    have hz6 := HO6.out.size
    clear hs6 ho6
    go_wp2
    go_ret3
    exact ⟨zs, g, d, _, _, by rw [HNZ.out]; exact hl2, by rw [HNZ.out]; rfl, by rw [HNZ.out]; exact own_whole HNZ.out (owns_low HW6.out (by omega)), HB.out.trans (HO6.out.below (Nat.le_refl _) (by omega))⟩
  · go_wp2_with fail
    refine (src_amongL [-1, 0, 1, 100000, 100001] _ _ rfl w _ w.heap.size A n c k5 z 5 rfl (by omega) (by omega) (by omega) HA.out HS5.out _ _ rfl).mono ?_
    rintro e w6 ⟨v, k6, hv, rfl, hk6, hs6, ho6⟩
    have HO6 := hide (HO5.out.trans ho6)
    have HW6 := hide (owns_only HW5.out ho6 hz1)
    have hz6 := HO6.out.size
    clear hs6 ho6 hv
    go_wp2
    go_ret3
    exact ⟨zs, g, d, _, _, by rw [HNZ.out]; exact hl2, by rw [HNZ.out]; rfl, by rw [HNZ.out]; exact own_whole HNZ.out (owns_low HW6.out (by omega)), HB.out.trans (HO6.out.below (Nat.le_refl _) (by omega))⟩
end Go.Proofs.Ytgobpleckeeheaa
