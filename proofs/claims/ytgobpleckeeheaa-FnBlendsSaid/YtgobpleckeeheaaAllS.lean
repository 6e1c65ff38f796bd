/-
  What is proved: the search of the reference over all blends, its count and its cheapest blend. Conditions: lengths that fit, names that fit.
-/
import Derived.Test.YtgobpleckeeheaaWalkS2
namespace Go.Proofs.Ytgobpleckeeheaa
open Go.RowKit
set_option linter.unusedVariables false

/-- All good blends, in order. -/
def allB (zs : List Clay) (l h m s t : Int) : List (List Int) := if blcode zs l h m s t = 0 then goodL (bgood zs l h m s) zs.length [] t.toNat else []
theorem cntN_is {zs : List Clay} {l h m s t : Int} : cntN zs l h m s t = ((allB zs l h m s t).length : Int) := by
  unfold cntN allB
  split <;> rfl
/-- The cheapest blend, and the code of the search. -/
def chL (zs : List Clay) (l h m s t : Int) : List Int := (cheap (priceL zs) (allB zs l h m s t)).1
def chC (zs : List Clay) (l h m s t : Int) : Int := if blcode zs l h m s t = 0 then (if (allB zs l h m s t).length = 0 then 3 else 0) else blcode zs l h m s t
theorem sinv_start (w : World) (g n c : Nat) (A : Option Addr) (zs : List Clay) :
    SInv ((w.alloc (.cells #[] 2)).alloc (.cells #[.slice A n c, .pointer (some ⟨g, 0, none⟩), .slice (some ⟨w.heap.size, 0, none⟩) 0 0, .slice none 0 0, .int .i64 (-1), .int .i64 0] 80)) w.heap.size (w.heap.size + 1) g A n c zs [] [] 0 := by
  have hb : Blk ((w.alloc (.cells #[] 2)).alloc (.cells #[.slice A n c, .pointer (some ⟨g, 0, none⟩), .slice (some ⟨w.heap.size, 0, none⟩) 0 0, .slice none 0 0, .int .i64 (-1), .int .i64 0] 80)) (w.alloc (.cells #[] 2)).heap.size 80 #[.slice A n c, .pointer (some ⟨g, 0, none⟩), .slice (some ⟨w.heap.size, 0, none⟩) 0 0, .slice none 0 0, .int .i64 (-1), .int .i64 0] := Blk.new _ _ _
  rw [show (w.alloc (.cells #[] 2)).heap.size = w.heap.size + 1 from by simp] at hb
  refine ⟨w.heap.size, 0, none, 0, hb, ?_, ⟨by simp [flat, cheap], .inl ⟨rfl, rfl⟩⟩, by omega, (fun a ha => by cases ha), (fun d hd => absurd hd (by simp))⟩
  exact (own_empty w w.heap.size 1 2 (Nat.le_refl _)).alloc _
/-- What the search leaves. -/
def Searched (w : World) (g : Nat) (A : Option Addr) (n c : Nat) (zs : List Clay) (L : List (List Int)) (cc : Int) (e : Ending) (w' : World) : Prop :=
  e = .returned (.tuple #[.pointer (some ⟨w.heap.size + 1, 0, none⟩), .int .i64 cc]) ∧ SInv w' w.heap.size (w.heap.size + 1) g A n c zs L [] 0 ∧ Below w.heap.size w w'
set_option maxRecDepth 100000 in
set_option maxHeartbeats 1000000 in
theorem spec_all_clays (A : Option Addr) (n c : Nat) (zs : List Clay) (l h m s t : Int) (g : Nat) (w : World) (hn : n ≤ 16777216) (hl : zs.length = n) (ha : Row Clay.enc 5 w A zs) (hM : Names zs) (hg : g < w.heap.size) (hC : LimC w g l h m s) (hv : claysOk zs = false) :
    Calls Try.prog 45 #[.slice A n c, .int .i64 t, .pointer (some ⟨g, 0, none⟩)] w (Searched w g A n c zs [] 1) := by
  have HA := hide ha
  have HL := hide hl
  have HM := hide hM
  have HC := hide hC
  obtain ⟨w2, hw2⟩ : ∃ u, (w.alloc (.cells #[] 2)).alloc (.cells #[.slice A n c, .pointer (some ⟨g, 0, none⟩), .slice (some ⟨w.heap.size, 0, none⟩) 0 0, .slice none 0 0, .int .i64 (-1), .int .i64 0] 80) = u := ⟨_, rfl⟩
  have hS2 := sinv_start w g n c A zs
  rw [hw2] at hS2
  have HS2 := hide hS2
  have HB2 := hide (show Below w.heap.size w w2 from by rw [← hw2]; exact ((Below.refl _ _).alloc (Nat.le_refl _) _).alloc (by simp) _)
  have HW2 := hide hw2
  clear ha hl hM hC hS2 hw2
  have HV := hide hv
  clear hv
  go_enter Try.func45, Try.ntmps45
  go_wp2_with fail
  rw [HW2.out]
  refine (spec_l03Ok _ _ _ zs _ hn HL.out (HA.out.below HB2.out) HM.out).mono ?_
  rintro e w3 ⟨rfl, hb3⟩
  rw [HV.out]
  have HB3 := hide (HB2.out.trans (hb3.mono HB2.out.size))
  have HS3 := hide (HS2.out.below hb3)
  clear hb3
  go_wp2
  go_ret2
  exact ⟨rfl, HS3.out, HB3.out⟩
set_option maxRecDepth 100000 in
set_option maxHeartbeats 1000000 in
theorem spec_all_lim (A : Option Addr) (n c : Nat) (zs : List Clay) (l h m s t : Int) (g : Nat) (w : World) (hn : n ≤ 16777216) (hl : zs.length = n) (ha : Row Clay.enc 5 w A zs) (hM : Names zs) (hg : g < w.heap.size) (hC : LimC w g l h m s) (hv : claysOk zs = true) (hq : limB l h m s = false) :
    Calls Try.prog 45 #[.slice A n c, .int .i64 t, .pointer (some ⟨g, 0, none⟩)] w (Searched w g A n c zs [] 2) := by
  have HA := hide ha
  have HL := hide hl
  have HM := hide hM
  have HC := hide hC
  obtain ⟨w2, hw2⟩ : ∃ u, (w.alloc (.cells #[] 2)).alloc (.cells #[.slice A n c, .pointer (some ⟨g, 0, none⟩), .slice (some ⟨w.heap.size, 0, none⟩) 0 0, .slice none 0 0, .int .i64 (-1), .int .i64 0] 80) = u := ⟨_, rfl⟩
  have hS2 := sinv_start w g n c A zs
  rw [hw2] at hS2
  have HS2 := hide hS2
  have HB2 := hide (show Below w.heap.size w w2 from by rw [← hw2]; exact ((Below.refl _ _).alloc (Nat.le_refl _) _).alloc (by simp) _)
  have HW2 := hide hw2
  clear ha hl hM hC hS2 hw2
  have HV := hide hv
  have HQ := hide hq
  clear hv hq
  go_enter Try.func45, Try.ntmps45
  go_wp2_with fail
  rw [HW2.out]
  refine (spec_l03Ok _ _ _ zs _ hn HL.out (HA.out.below HB2.out) HM.out).mono ?_
  rintro e w3 ⟨rfl, hb3⟩
  rw [HV.out]
  have HB3 := hide (HB2.out.trans (hb3.mono HB2.out.size))
  have HS3 := hide (HS2.out.below hb3)
  clear hb3
  have HC3 := hide (HC.out.below HB3.out hg)
  go_wp2_with fail
  refine (spec_l03Limits l h m s g _ HC3.out.1 HC3.out.2.1 HC3.out.2.2.1 HC3.out.2.2.2).mono ?_
  rintro e w4 ⟨rfl, hb4⟩
  rw [HQ.out]
  have HB4 := hide (HB3.out.trans (hb4.mono HB3.out.size))
  have HS4 := hide (HS3.out.below hb4)
  clear hb4
  go_wp2
  go_ret2
  exact ⟨rfl, HS4.out, HB4.out⟩
set_option maxRecDepth 100000 in
set_option maxHeartbeats 1000000 in
theorem spec_all_out (A : Option Addr) (n c : Nat) (zs : List Clay) (l h m s t : Int) (g : Nat) (w : World) (hn : n ≤ 16777216) (hl : zs.length = n) (ha : Row Clay.enc 5 w A zs) (hM : Names zs) (hg : g < w.heap.size) (hC : LimC w g l h m s) (hv : claysOk zs = true) (hq : limB l h m s = true) (ht : ¬ (1 ≤ t ∧ t ≤ 12)) :
    Calls Try.prog 45 #[.slice A n c, .int .i64 t, .pointer (some ⟨g, 0, none⟩)] w (Searched w g A n c zs [] 2) := by
  have HA := hide ha
  have HL := hide hl
  have HM := hide hM
  have HC := hide hC
  obtain ⟨w2, hw2⟩ : ∃ u, (w.alloc (.cells #[] 2)).alloc (.cells #[.slice A n c, .pointer (some ⟨g, 0, none⟩), .slice (some ⟨w.heap.size, 0, none⟩) 0 0, .slice none 0 0, .int .i64 (-1), .int .i64 0] 80) = u := ⟨_, rfl⟩
  have hS2 := sinv_start w g n c A zs
  rw [hw2] at hS2
  have HS2 := hide hS2
  have HB2 := hide (show Below w.heap.size w w2 from by rw [← hw2]; exact ((Below.refl _ _).alloc (Nat.le_refl _) _).alloc (by simp) _)
  have HW2 := hide hw2
  clear ha hl hM hC hS2 hw2
  have HV := hide hv
  have HQ := hide hq
  have HT := hide ht
  clear hv hq ht
  go_enter Try.func45, Try.ntmps45
  go_wp2_with fail
  rw [HW2.out]
  refine (spec_l03Ok _ _ _ zs _ hn HL.out (HA.out.below HB2.out) HM.out).mono ?_
  rintro e w3 ⟨rfl, hb3⟩
  rw [HV.out]
  have HB3 := hide (HB2.out.trans (hb3.mono HB2.out.size))
  have HS3 := hide (HS2.out.below hb3)
  clear hb3
  have HC3 := hide (HC.out.below HB3.out hg)
  go_wp2_with fail
  refine (spec_l03Limits l h m s g _ HC3.out.1 HC3.out.2.1 HC3.out.2.2.1 HC3.out.2.2.2).mono ?_
  rintro e w4 ⟨rfl, hb4⟩
  rw [HQ.out]
  have HB4 := hide (HB3.out.trans (hb4.mono HB3.out.size))
  have HS4 := hide (HS3.out.below hb4)
  clear hb4
  go_wp2_with fail
  refine (spec_in_no _ _ _ _ HT.out).mono ?_
  rintro e w5 ⟨rfl, rfl⟩
  go_wp2
  go_ret2
  exact ⟨rfl, HS4.out, HB4.out⟩
set_option maxRecDepth 100000 in
set_option maxHeartbeats 1000000 in
theorem spec_all_yes (A : Option Addr) (n c : Nat) (zs : List Clay) (l h m s t : Int) (g : Nat) (w : World) (hn : n ≤ 16777216) (hl : zs.length = n) (ha : Row Clay.enc 5 w A zs) (hM : Names zs) (hg : g < w.heap.size) (hC : LimC w g l h m s) (hv : claysOk zs = true) (hq : limB l h m s = true) (ht1 : 1 ≤ t) (ht2 : t ≤ 12) (hAb : ∀ a, A = some a → a.block < w.heap.size) :
    Calls Try.prog 45 #[.slice A n c, .int .i64 t, .pointer (some ⟨g, 0, none⟩)] w (Searched w g A n c zs (goodL (bgood zs l h m s) n [] t.toNat) 0) := by
  have HA := hide ha
  have HL := hide hl
  have HM := hide hM
  have HC := hide hC
  obtain ⟨w2, hw2⟩ : ∃ u, (w.alloc (.cells #[] 2)).alloc (.cells #[.slice A n c, .pointer (some ⟨g, 0, none⟩), .slice (some ⟨w.heap.size, 0, none⟩) 0 0, .slice none 0 0, .int .i64 (-1), .int .i64 0] 80) = u := ⟨_, rfl⟩
  have hS2 := sinv_start w g n c A zs
  rw [hw2] at hS2
  have HS2 := hide hS2
  have HB2 := hide (show Below w.heap.size w w2 from by rw [← hw2]; exact ((Below.refl _ _).alloc (Nat.le_refl _) _).alloc (by simp) _)
  have HW2 := hide hw2
  clear ha hl hM hC hS2 hw2
  have hn6 : n ≤ 6 := by have := clays_six hv; have := HL.out; omega
  have HV := hide hv
  have HQ := hide hq
  have HAb := hide hAb
  clear hv hq hAb
  go_enter Try.func45, Try.ntmps45
  go_wp2_with fail
  rw [HW2.out]
  refine (spec_l03Ok _ _ _ zs _ hn HL.out (HA.out.below HB2.out) HM.out).mono ?_
  rintro e w3 ⟨rfl, hb3⟩
  rw [HV.out]
  have HB3 := hide (HB2.out.trans (hb3.mono HB2.out.size))
  have HS3 := hide (HS2.out.below hb3)
  clear hb3
  have HC3 := hide (HC.out.below HB3.out hg)
  go_wp2_with fail
  refine (spec_l03Limits l h m s g _ HC3.out.1 HC3.out.2.1 HC3.out.2.2.1 HC3.out.2.2.2).mono ?_
  rintro e w4 ⟨rfl, hb4⟩
  rw [HQ.out]
  have HB4 := hide (HB3.out.trans (hb4.mono HB3.out.size))
  have HS4 := hide (HS3.out.below hb4)
  clear hb4
  go_wp2_with fail
  refine (spec_in_yes _ _ _ _ ht1 ht2).mono ?_
  rintro e w5 ⟨rfl, rfl⟩
  go_wp2_with (first
    | (go_at_call 94
       go_must (refine (spec_walk w.heap.size (w.heap.size + 1) g A n c zs l h m s hn6 HL.out HV.out (limB_iff.1 HQ.out) (by omega) hg HAb.out n [] [] 0 t.toNat t _ (by omega) rfl (by omega) rfl (by omega) HB4.out.size (HC.out.below HB4.out hg) (HA.out.below HB4.out) HS4.out (by have := goodL_six (bgood zs l h m s) hn6 (show t.toNat ≤ 12 by omega); simp; omega)).mono ?_)
       rintro e w6 ⟨rfl, hS6, hb6⟩
       rw [List.nil_append] at hS6
       have HS6 := hide hS6
       have HB6 := hide (HB4.out.trans hb6)
       clear hS6 hb6))
  go_wp2
  go_ret2
  exact ⟨rfl, HS6.out, HB6.out⟩
theorem spec_all (A : Option Addr) (n c : Nat) (zs : List Clay) (l h m s t : Int) (g : Nat) (w : World) (hn : n ≤ 16777216) (hl : zs.length = n) (ha : Row Clay.enc 5 w A zs) (hM : Names zs) (hg : g < w.heap.size) (hC : LimC w g l h m s) (hAb : ∀ a, A = some a → a.block < w.heap.size) :
    Calls Try.prog 45 #[.slice A n c, .int .i64 t, .pointer (some ⟨g, 0, none⟩)] w (Searched w g A n c zs (allB zs l h m s t) (blcode zs l h m s t)) := by
  unfold allB
  cases hv : claysOk zs with
  | false =>
    have e0 : blcode zs l h m s t = 1 := by unfold blcode; rw [hv]; rfl
    rw [e0, if_neg (by decide)]
    exact spec_all_clays A n c zs l h m s t g w hn hl ha hM hg hC hv
  | true =>
    cases hq : limB l h m s with
    | false =>
      have e0 : blcode zs l h m s t = 2 := by unfold blcode; rw [if_pos hv, if_neg (by rw [hq]; simp)]
      rw [e0, if_neg (by decide)]
      exact spec_all_lim A n c zs l h m s t g w hn hl ha hM hg hC hv hq
    | true =>
      by_cases ht : 1 ≤ t ∧ t ≤ 12
      · have e0 : blcode zs l h m s t = 0 := by unfold blcode; rw [if_pos hv, if_pos ⟨hq, ht⟩]
        rw [e0, if_pos rfl, hl]
        exact spec_all_yes A n c zs l h m s t g w hn hl ha hM hg hC hv hq ht.1 ht.2 hAb
      · have e0 : blcode zs l h m s t = 2 := by unfold blcode; rw [if_pos hv, if_neg (fun q => ht q.2)]
        rw [e0, if_neg (by decide)]
        exact spec_all_out A n c zs l h m s t g w hn hl ha hM hg hC hv hq ht
set_option maxRecDepth 100000 in
set_option maxHeartbeats 1000000 in
theorem spec_countBlends (A : Option Addr) (n c : Nat) (zs : List Clay) (l h m s t : Int) (w : World) (hn : n ≤ 16777216) (hl : zs.length = n) (ha : Row Clay.enc 5 w A zs) (hAb : ∀ a, A = some a → a.block < w.heap.size) (hM : Names zs) :
    Calls Try.prog 10 #[.slice A n c, .int .i64 t, .agg #[.int .i64 l, .int .i64 h, .int .i64 m, .int .i64 s]] w fun e w' => e = .returned (.tuple #[.int .i64 (cntN zs l h m s t), .int .i64 (blcode zs l h m s t)]) ∧ Below w.heap.size w w' := by
  have HA := hide ha
  have HL := hide hl
  have HM := hide hM
  have HAb := hide hAb
  obtain ⟨w1, hw1⟩ : ∃ u, w.alloc (.cells #[.int .i64 l, .int .i64 h, .int .i64 m, .int .i64 s] 26) = u := ⟨_, rfl⟩
  have hb1 : Below w.heap.size w w1 := by rw [← hw1]; exact (Below.refl _ _).alloc (Nat.le_refl _) _
  have hz1 : w1.heap.size = w.heap.size + 1 := by rw [← hw1]; simp
  have hC1 : LimC w1 w.heap.size l h m s := by rw [← hw1]; exact ⟨by simp [go_sem], by simp [go_sem], by simp [go_sem], by simp [go_sem]⟩
  have HB1 := hide hb1
  have HC1 := hide hC1
  have HW1 := hide hw1
  obtain ⟨cc, hcc⟩ : ∃ cc, blcode zs l h m s t = cc := ⟨_, rfl⟩
  obtain ⟨G, hG⟩ : ∃ G, allB zs l h m s t = G := ⟨_, rfl⟩
  have HCC := hide hcc
  have HG := hide hG
  have HZ1 := hide hz1
  clear ha hl hM hAb hb1 hC1 hw1 hz1
  rw [cntN_is, hcc, hG]
  have hcG : cc ≠ 0 → G = [] := fun q => by rw [← hG]; unfold allB; rw [if_neg (by rw [hcc]; exact q)]
  clear hcc hG
  by_cases h0 : cc = 0
  · subst h0
    clear hcG
    go_enter Try.func10, Try.ntmps10
    go_wp2_with fail
    rw [HW1.out]
    refine (spec_all _ _ _ zs l h m s t w.heap.size w1 hn HL.out (HA.out.below HB1.out) HM.out (by have := HZ1.out; omega) HC1.out (fun a ha => by have := HAb.out a ha; have := HZ1.out; omega)).mono ?_
    rintro e w2 ⟨rfl, hS2, hb2⟩
    rw [HCC.out]
    rw [HG.out] at hS2
    obtain ⟨gp, cp, E, ce, hB, hP, hE, hgb, hEb, hLs⟩ := hS2
    have c5 : w2.cell? ⟨w1.heap.size + 1, 5, none⟩ = some (.int .i64 ((G.length : Nat) : Int)) := hB.cell 5
    have c3 : w2.cell? ⟨w1.heap.size + 1, 3, none⟩ = some (.slice E (cheap (priceL zs) G).1.length ce) := hB.cell 3
    have HE := hide hE
    have HB2 := hide (HB1.out.trans (hb2.mono (by have := HZ1.out; omega)))
    clear hB hP hE hgb hEb hLs hb2
    go_wp2
    go_ret2
    exact ⟨rfl, HB2.out⟩
  · obtain rfl := hcG h0
    have d0 : (cc == 0) = false := by simpa using h0
    clear hcG
    go_enter Try.func10, Try.ntmps10
    go_wp2_with fail
    rw [HW1.out]
    refine (spec_all _ _ _ zs l h m s t w.heap.size w1 hn HL.out (HA.out.below HB1.out) HM.out (by have := HZ1.out; omega) HC1.out (fun a ha => by have := HAb.out a ha; have := HZ1.out; omega)).mono ?_
    rintro e w2 ⟨rfl, hS2, hb2⟩
    rw [HCC.out]
    rw [HG.out] at hS2
    obtain ⟨gp, cp, E, ce, hB, hP, hE, hgb, hEb, hLs⟩ := hS2
    have c5 : w2.cell? ⟨w1.heap.size + 1, 5, none⟩ = some (.int .i64 ((([] : List (List Int)).length : Nat) : Int)) := hB.cell 5
    have c3 : w2.cell? ⟨w1.heap.size + 1, 3, none⟩ = some (.slice E (cheap (priceL zs) ([] : List (List Int))).1.length ce) := hB.cell 3
    have HE := hide hE
    have HB2 := hide (HB1.out.trans (hb2.mono (by have := HZ1.out; omega)))
    clear hB hP hE hgb hEb hLs hb2
    go_wp2
    go_ret2
    exact ⟨rfl, HB2.out⟩
set_option maxRecDepth 100000 in
set_option maxHeartbeats 1000000 in
theorem spec_cheapestBlend (K : List Int) (dd : Int) (A : Option Addr) (n c : Nat) (zs : List Clay) (l h m s t : Int) (w : World) (hn : n ≤ 16777216) (hl : zs.length = n) (ha : Row Clay.enc 5 w A zs) (hAb : ∀ a, A = some a → a.block < w.heap.size) (hM : Names zs) (hK : chL zs l h m s t = K) (hD : chC zs l h m s t = dd) :
    Calls Try.prog 8 #[.slice A n c, .int .i64 t, .agg #[.int .i64 l, .int .i64 h, .int .i64 m, .int .i64 s]] w fun e w' => ∃ A' c', e = .returned (.tuple #[.slice A' K.length c', .int .i64 dd]) ∧ Own 2 1 encI w' w.heap.size w'.heap.size A' K.length c' K ∧ Below w.heap.size w w' := by
  have HA := hide ha
  have HL := hide hl
  have HM := hide hM
  have HAb := hide hAb
  obtain ⟨w1, hw1⟩ : ∃ u, w.alloc (.cells #[.int .i64 l, .int .i64 h, .int .i64 m, .int .i64 s] 26) = u := ⟨_, rfl⟩
  have hb1 : Below w.heap.size w w1 := by rw [← hw1]; exact (Below.refl _ _).alloc (Nat.le_refl _) _
  have hz1 : w1.heap.size = w.heap.size + 1 := by rw [← hw1]; simp
  have hC1 : LimC w1 w.heap.size l h m s := by rw [← hw1]; exact ⟨by simp [go_sem], by simp [go_sem], by simp [go_sem], by simp [go_sem]⟩
  have HB1 := hide hb1
  have HC1 := hide hC1
  have HW1 := hide hw1
  obtain ⟨cc, hcc⟩ : ∃ cc, blcode zs l h m s t = cc := ⟨_, rfl⟩
  obtain ⟨G, hG⟩ : ∃ G, allB zs l h m s t = G := ⟨_, rfl⟩
  have HCC := hide hcc
  have HG := hide hG
  have HZ1 := hide hz1
  clear ha hl hM hAb hb1 hC1 hw1 hz1
  unfold chL at hK
  unfold chC at hD
  rw [hG] at hK hD
  rw [hcc] at hD
  have hcG : cc ≠ 0 → G = [] := fun q => by rw [← hG]; unfold allB; rw [if_neg (by rw [hcc]; exact q)]
  clear hcc hG
  by_cases h0 : cc = 0
  · subst h0
    clear hcG
    rw [if_pos rfl] at hD
    by_cases h1 : G.length = 0
    · rw [if_pos h1] at hD
      subst hD
      obtain rfl : G = [] := List.length_eq_zero_iff.1 h1
      obtain rfl : K = [] := hK.symm
      clear h1 hK
      go_enter Try.func8, Try.ntmps8
      go_wp2_with fail
      rw [HW1.out]
      refine (spec_all _ _ _ zs l h m s t w.heap.size w1 hn HL.out (HA.out.below HB1.out) HM.out (by have := HZ1.out; omega) HC1.out (fun a ha => by have := HAb.out a ha; have := HZ1.out; omega)).mono ?_
      rintro e w2 ⟨rfl, hS2, hb2⟩
      rw [HCC.out]
      rw [HG.out] at hS2
      obtain ⟨gp, cp, E, ce, hB, hP, hE, hgb, hEb, hLs⟩ := hS2
      have c5 : w2.cell? ⟨w1.heap.size + 1, 5, none⟩ = some (.int .i64 ((([] : List (List Int)).length : Nat) : Int)) := hB.cell 5
      have c3 : w2.cell? ⟨w1.heap.size + 1, 3, none⟩ = some (.slice E (cheap (priceL zs) ([] : List (List Int))).1.length ce) := hB.cell 3
      have HE := hide hE
      have HB2 := hide (HB1.out.trans (hb2.mono (by have := HZ1.out; omega)))
      clear hB hP hE hgb hEb hLs hb2
      go_wp2
      go_ret2
      exact ⟨none, 0, rfl, Own.nil (Nat.le_refl _), HB2.out⟩
    · rw [if_neg h1] at hD
      subst hD hK
      have d1 : (((G.length : Nat) : Int) == 0) = false := by simp; intro q; exact h1 (by rw [q]; rfl)
      have d2 : ¬ G = [] := fun q => h1 (by rw [q]; rfl)
      go_enter Try.func8, Try.ntmps8
      go_wp2_with fail
      rw [HW1.out]
      refine (spec_all _ _ _ zs l h m s t w.heap.size w1 hn HL.out (HA.out.below HB1.out) HM.out (by have := HZ1.out; omega) HC1.out (fun a ha => by have := HAb.out a ha; have := HZ1.out; omega)).mono ?_
      rintro e w2 ⟨rfl, hS2, hb2⟩
      rw [HCC.out]
      rw [HG.out] at hS2
      obtain ⟨gp, cp, E, ce, hB, hP, hE, hgb, hEb, hLs⟩ := hS2
      have c5 : w2.cell? ⟨w1.heap.size + 1, 5, none⟩ = some (.int .i64 ((G.length : Nat) : Int)) := hB.cell 5
      have c3 : w2.cell? ⟨w1.heap.size + 1, 3, none⟩ = some (.slice E (cheap (priceL zs) G).1.length ce) := hB.cell 3
      have HE := hide hE
      have HB2 := hide (HB1.out.trans (hb2.mono (by have := HZ1.out; omega)))
      clear hB hP hE hgb hEb hLs hb2
      obtain ⟨gl, hgl⟩ : ∃ r, G.length = r := ⟨_, rfl⟩
      rw [hgl] at c5 h1 d1
      go_wp2
      go_ret2
      refine ⟨E, ce, rfl, ⟨rfl, own_weak2 HE.out (by have := HZ1.out; omega), fun a ha => (own_block HE.out a ha).2.2, Nat.le_refl _⟩, HB2.out⟩
  · obtain rfl := hcG h0
    rw [if_neg h0] at hD
    subst hD
    obtain rfl : K = [] := hK.symm
    have d0 : (cc == 0) = false := by simpa using h0
    clear hcG hK
    go_enter Try.func8, Try.ntmps8
    go_wp2_with fail
    rw [HW1.out]
    refine (spec_all _ _ _ zs l h m s t w.heap.size w1 hn HL.out (HA.out.below HB1.out) HM.out (by have := HZ1.out; omega) HC1.out (fun a ha => by have := HAb.out a ha; have := HZ1.out; omega)).mono ?_
    rintro e w2 ⟨rfl, hS2, hb2⟩
    rw [HCC.out]
    rw [HG.out] at hS2
    obtain ⟨gp, cp, E, ce, hB, hP, hE, hgb, hEb, hLs⟩ := hS2
    have c5 : w2.cell? ⟨w1.heap.size + 1, 5, none⟩ = some (.int .i64 ((([] : List (List Int)).length : Nat) : Int)) := hB.cell 5
    have c3 : w2.cell? ⟨w1.heap.size + 1, 3, none⟩ = some (.slice E (cheap (priceL zs) ([] : List (List Int))).1.length ce) := hB.cell 3
    have HE := hide hE
    have HB2 := hide (HB1.out.trans (hb2.mono (by have := HZ1.out; omega)))
    clear hB hP hE hgb hEb hLs hb2
    go_wp2
    go_ret2
    exact ⟨none, 0, rfl, Own.nil (Nat.le_refl _), HB2.out⟩
end Go.Proofs.Ytgobpleckeeheaa
