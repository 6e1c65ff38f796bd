/-
  What is proved: contracts of impl.blendsCode and impl.CountBlends. Conditions: lengths that fit, names that fit.
-/
import Derived.Test.YtgobpleckeeheaaBlends
import Derived.Test.YtgobpleckeeheaaSrc2
import Derived.WalkSpells
namespace Go.Proofs.Ytgobpleckeeheaa
open Go.RowKit
set_option linter.unusedVariables false

def blcode (zs : List Clay) (l h m s t : Int) : Int := if claysOk zs = true then (if limB l h m s = true ∧ 1 ≤ t ∧ t ≤ 12 then 0 else 2) else 1
theorem limB_iff {l h m s : Int} : limB l h m s = true ↔ LimOk l h m s := by
  unfold limB
  exact decide_eq_true_iff
set_option maxRecDepth 100000 in
set_option maxHeartbeats 1000000 in
theorem impl_blendsCode (A : Option Addr) (n c : Nat) (zs : List Clay) (l h m s t : Int) (w : World) (hn : n ≤ 16777216) (hnc : n ≤ c) (hl : zs.length = n) (ha : Row Clay.enc 5 w A zs) (hM : Names zs) :
    Calls Try.prog 39 #[.slice A n c, .int .i64 t, .agg #[.int .i64 l, .int .i64 h, .int .i64 m, .int .i64 s]] w fun e w' => e = .returned (.int .i64 (blcode zs l h m s t)) ∧ Below w.heap.size w w' := by
  have HA := hide ha
  have HL := hide hl
  have HM := hide hM
  clear ha hl hM
  have HB0 := hide ((Below.refl w.heap.size w).alloc (Nat.le_refl _) (.cells #[.int .i64 l, .int .i64 h, .int .i64 m, .int .i64 s] 26))
  cases hv : claysOk zs with
  | false =>
    have e0 : blcode zs l h m s t = 1 := by unfold blcode; rw [hv]; rfl
    rw [e0]
    have HV := hide hv
    clear hv e0
    go_enter Try.func39, Try.ntmps39
    go_wp2_with fail
    refine (impl_validClays _ _ _ zs _ hn hnc HL.out (HA.out.below HB0.out) HM.out).mono ?_
    rintro e w1 ⟨rfl, hb1⟩
    rw [HV.out]
    have HB1 := hide (HB0.out.trans (hb1.mono (by simp)))
    clear hb1
    go_wp2
    go_ret
    exact ⟨rfl, HB1.out⟩
  | true =>
    cases hq : limB l h m s with
    | false =>
      have e0 : blcode zs l h m s t = 2 := by unfold blcode; rw [if_pos hv, if_neg (by rw [hq]; simp)]
      rw [e0]
      have HV := hide hv
      have HQ := hide hq
      clear hv e0 hq
      go_enter Try.func39, Try.ntmps39
      go_wp2_with fail
      refine (impl_validClays _ _ _ zs _ hn hnc HL.out (HA.out.below HB0.out) HM.out).mono ?_
      rintro e w1 ⟨rfl, hb1⟩
      rw [HV.out]
      have r0 := (hb1.cell (p := ⟨w.heap.size, 0, none⟩) (by simp)).trans (show _ = some (.int .i64 l) from by simp [go_sem])
      have r1 := (hb1.cell (p := ⟨w.heap.size, 1, none⟩) (by simp)).trans (show _ = some (.int .i64 h) from by simp [go_sem])
      have r2 := (hb1.cell (p := ⟨w.heap.size, 2, none⟩) (by simp)).trans (show _ = some (.int .i64 m) from by simp [go_sem])
      have r3 := (hb1.cell (p := ⟨w.heap.size, 3, none⟩) (by simp)).trans (show _ = some (.int .i64 s) from by simp [go_sem])
      have hz1 : w.heap.size < w1.heap.size := by have := hb1.size; simp at this; omega
      have HB1 := hide (HB0.out.trans (hb1.mono (by simp)))
      clear hb1
      go_wp2_with fail
      refine (impl_isLimits l h m s _).mono ?_
      rintro e w2 ⟨rfl, hb2⟩
      rw [HQ.out]
      have HB2 := hide (HB1.out.trans (hb2.mono HB1.out.size))
      clear hb2
      go_wp2
      go_ret
      exact ⟨rfl, HB2.out⟩
    | true =>
      have HV := hide hv
      have HQ := hide hq
      by_cases ht : 1 ≤ t ∧ t ≤ 12
      · have e0 : blcode zs l h m s t = 0 := by unfold blcode; rw [if_pos hv, if_pos ⟨hq, ht⟩]
        rw [e0]
        clear hv e0 hq
        obtain ⟨ht1, ht2⟩ := ht
        go_enter Try.func39, Try.ntmps39
        go_wp2_with fail
        refine (impl_validClays _ _ _ zs _ hn hnc HL.out (HA.out.below HB0.out) HM.out).mono ?_
        rintro e w1 ⟨rfl, hb1⟩
        rw [HV.out]
        have r0 := (hb1.cell (p := ⟨w.heap.size, 0, none⟩) (by simp)).trans (show _ = some (.int .i64 l) from by simp [go_sem])
        have r1 := (hb1.cell (p := ⟨w.heap.size, 1, none⟩) (by simp)).trans (show _ = some (.int .i64 h) from by simp [go_sem])
        have r2 := (hb1.cell (p := ⟨w.heap.size, 2, none⟩) (by simp)).trans (show _ = some (.int .i64 m) from by simp [go_sem])
        have r3 := (hb1.cell (p := ⟨w.heap.size, 3, none⟩) (by simp)).trans (show _ = some (.int .i64 s) from by simp [go_sem])
        have HB1 := hide (HB0.out.trans (hb1.mono (by simp)))
        clear hb1
        go_wp2_with fail
        refine (impl_isLimits l h m s _).mono ?_
        rintro e w2 ⟨rfl, hb2⟩
        rw [HQ.out]
        have HB2 := hide (HB1.out.trans (hb2.mono HB1.out.size))
        clear hb2
        go_wp2_with fail
        refine (impl_in_yes _ _ _ _ ht1 ht2).mono ?_
        rintro e w3 ⟨rfl, rfl⟩
        go_wp2
        go_ret
        exact ⟨rfl, HB2.out⟩
      · have e0 : blcode zs l h m s t = 2 := by unfold blcode; rw [if_pos hv, if_neg (fun q => ht q.2)]
        rw [e0]
        clear hv e0 hq
        go_enter Try.func39, Try.ntmps39
        go_wp2_with fail
        refine (impl_validClays _ _ _ zs _ hn hnc HL.out (HA.out.below HB0.out) HM.out).mono ?_
        rintro e w1 ⟨rfl, hb1⟩
        rw [HV.out]
        have r0 := (hb1.cell (p := ⟨w.heap.size, 0, none⟩) (by simp)).trans (show _ = some (.int .i64 l) from by simp [go_sem])
        have r1 := (hb1.cell (p := ⟨w.heap.size, 1, none⟩) (by simp)).trans (show _ = some (.int .i64 h) from by simp [go_sem])
        have r2 := (hb1.cell (p := ⟨w.heap.size, 2, none⟩) (by simp)).trans (show _ = some (.int .i64 m) from by simp [go_sem])
        have r3 := (hb1.cell (p := ⟨w.heap.size, 3, none⟩) (by simp)).trans (show _ = some (.int .i64 s) from by simp [go_sem])
        have HB1 := hide (HB0.out.trans (hb1.mono (by simp)))
        clear hb1
        go_wp2_with fail
        refine (impl_isLimits l h m s _).mono ?_
        rintro e w2 ⟨rfl, hb2⟩
        rw [HQ.out]
        have HB2 := hide (HB1.out.trans (hb2.mono HB1.out.size))
        clear hb2
        have HT := hide ht
        clear ht
        go_wp2_with fail
        refine (impl_in_no _ _ _ _ HT.out).mono ?_
        rintro e w3 ⟨rfl, rfl⟩
        go_wp2
        go_ret
        exact ⟨rfl, HB2.out⟩
/-- The number of good blends. -/
def cntN (zs : List Clay) (l h m s t : Int) : Int := if blcode zs l h m s t = 0 then ((goodL (bgood zs l h m s) zs.length [] t.toNat).length : Int) else 0
theorem blcode_ok {zs : List Clay} {l h m s t : Int} (hc : blcode zs l h m s t = 0) : claysOk zs = true ∧ LimOk l h m s ∧ 1 ≤ t ∧ t ≤ 12 := by
  unfold blcode at hc
  split at hc
  · rename_i h1
    split at hc
    · rename_i h2
      exact ⟨h1, limB_iff.1 h2.1, h2.2⟩
    · omega
  · omega
theorem touch_set {lo hi b i : Nat} {v : Value} (w : World) (h1 : lo ≤ b) (h2 : b < hi) : Touch lo hi w (w.setCell ⟨b, i, none⟩ v) :=
  ⟨rfl, rfl, rfl, by simp, fun k hk hne => Below.heap_setCell w ⟨b, i, none⟩ v k (by show k ≠ b; omega)⟩
set_option maxHeartbeats 1000000 in
theorem count_one (D : Option Addr) (n d g : Nat) (k : Nat) (w : World) (hk : k < 10000000) (h : Blk w g 2 #[.int .i64 (k : Int)]) :
    Calls Try.prog 46 #[.slice D n d, .pointer (some ⟨g, 0, none⟩)] w fun e w' => e = .returned (.tuple #[]) ∧ w.setCell ⟨g, 0, none⟩ (.int .i64 ((k + 1 : Nat) : Int)) = w' := by
  have c0 := h.cell 0
  have f0 := h.frozen 0
  have hc : w.cell? ⟨g, 0, none⟩ = some (.int .i64 (k : Int)) := c0
  have v1 := Go.IntWalk.i64_in ((k : Int) + 1) ⟨by omega, by omega⟩
  have hcast : ((k + 1 : Nat) : Int) = (k : Int) + 1 := by omega
  rw [hcast]
  clear c0 h hcast
  go_enter Try.func46, Try.ntmps46
  go_wp2
  go_end0
  exact ⟨rfl, rfl⟩
set_option maxRecDepth 100000 in
set_option maxHeartbeats 2000000 in
theorem impl_countBlends (A : Option Addr) (n c : Nat) (zs : List Clay) (l h m s t : Int) (w : World) (hn : n ≤ 16777216) (hnc : n ≤ c) (hl : zs.length = n) (ha : Row Clay.enc 5 w A zs) (hAb : ∀ a, A = some a → a.block < w.heap.size) (hM : Names zs) :
    Calls Try.prog 9 #[.slice A n c, .int .i64 t, .agg #[.int .i64 l, .int .i64 h, .int .i64 m, .int .i64 s]] w fun e w' => e = .returned (.tuple #[.int .i64 (cntN zs l h m s t), .int .i64 (blcode zs l h m s t)]) ∧ Below w.heap.size w w' := by
  have HA := hide ha
  have HL := hide hl
  have HM := hide hM
  have HAb := hide hAb
  have hmf : ∀ (fn : Fn) (first cap : Array Value) (w : World), (Instr.makeFunc fn first cap).run Try.prog w = .ok (.func fn first cap) w := fun _ _ _ _ => rfl
  clear ha hl hM hAb
  have HB0 := hide ((Below.refl w.heap.size w).alloc (Nat.le_refl _) (.cells #[.int .i64 l, .int .i64 h, .int .i64 m, .int .i64 s] 26))
  obtain ⟨cc, hcc⟩ : ∃ cc, blcode zs l h m s t = cc := ⟨_, rfl⟩
  have HC := hide hcc
  by_cases h0 : cc = 0
  · have hok := blcode_ok (hcc.trans h0)
    subst h0
    have hn6 : n ≤ 6 := by have := clays_six hok.1; have := HL.out; omega
    have HK := hide hok
    obtain ⟨ht1, ht2⟩ := hok.2.2
    have hcnt : cntN zs l h m s t = ((goodL (bgood zs l h m s) n [] t.toNat).length : Int) := by
      unfold cntN
      rw [if_pos hcc, HL.out]
    have hbig := goodL_six (bgood zs l h m s) hn6 (show t.toNat ≤ 12 by omega)
    obtain ⟨G, hG⟩ : ∃ G, goodL (bgood zs l h m s) n [] t.toNat = G := ⟨_, rfl⟩
    rw [hG] at hcnt hbig
    rw [hcnt, hcc]
    have HG := hide hG
    clear hcc hok hcnt hG
    go_enter Try.func9, Try.ntmps9
    go_wp2_with fail
    refine (impl_blendsCode _ _ _ zs l h m s t _ hn hnc HL.out (HA.out.below HB0.out) HM.out).mono ?_
    rintro e w1 ⟨rfl, hb1⟩
    rw [HC.out]
    have r0 := (hb1.cell (p := ⟨w.heap.size, 0, none⟩) (by simp)).trans (show _ = some (.int .i64 l) from by simp [go_sem])
    have r1 := (hb1.cell (p := ⟨w.heap.size, 1, none⟩) (by simp)).trans (show _ = some (.int .i64 h) from by simp [go_sem])
    have r2 := (hb1.cell (p := ⟨w.heap.size, 2, none⟩) (by simp)).trans (show _ = some (.int .i64 m) from by simp [go_sem])
    have r3 := (hb1.cell (p := ⟨w.heap.size, 3, none⟩) (by simp)).trans (show _ = some (.int .i64 s) from by simp [go_sem])
    have hz1 : w.heap.size < w1.heap.size := by have := hb1.size; simp at this; omega
    have HB1 := hide (HB0.out.trans (hb1.mono (by simp)))
    clear hb1
    obtain ⟨w2, hw2⟩ : ∃ u, w1.alloc (.cells #[.int .i64 0] 2) = u := ⟨_, rfl⟩
    have hk2 : Blk w2 w1.heap.size 2 #[.int .i64 ((0 : Nat) : Int)] := by
      rw [← hw2]
      exact Blk.new w1 2 #[.int .i64 0]
    have hz2 : w2.heap.size = w1.heap.size + 1 := by rw [← hw2]; simp
    have HB2 := hide (show Below w.heap.size w w2 from by rw [← hw2]; exact HB1.out.alloc HB1.out.size _)
    have s0 : w2.cell? ⟨w.heap.size, 0, none⟩ = some (.int .i64 l) := by rw [← hw2]; exact (World.cell?_alloc_lt w1 _ ⟨w.heap.size, 0, none⟩ hz1).trans r0
    have s1 : w2.cell? ⟨w.heap.size, 1, none⟩ = some (.int .i64 h) := by rw [← hw2]; exact (World.cell?_alloc_lt w1 _ ⟨w.heap.size, 1, none⟩ hz1).trans r1
    have s2 : w2.cell? ⟨w.heap.size, 2, none⟩ = some (.int .i64 m) := by rw [← hw2]; exact (World.cell?_alloc_lt w1 _ ⟨w.heap.size, 2, none⟩ hz1).trans r2
    have s3 : w2.cell? ⟨w.heap.size, 3, none⟩ = some (.int .i64 s) := by rw [← hw2]; exact (World.cell?_alloc_lt w1 _ ⟨w.heap.size, 3, none⟩ hz1).trans r3
    have HK2 := hide hk2
    have HW2 := hide hw2
    have s0' := s0
    have s1' := s1
    have s2' := s2
    have s3' := s3
    rw [← hw2] at s0' s1' s2' s3'
    clear hk2 hw2 s0 s1 s2 s3
    have HY := hide (show Yields1 46 (.pointer (some ⟨w1.heap.size, 0, none⟩)) w1.heap.size (w1.heap.size + 1) n A zs (fun L W => Blk W w1.heap.size 2 #[.int .i64 (L.length : Int)]) 5000000 from by
      refine ⟨fun args W => by simp [go_sem], fun L W W' hs hI hb => hI.below hb (by omega), ?_⟩
      intro L ds D d W hs hI hlen hp hds hD hra hrd
      refine (count_one D n d w1.heap.size L.length W (by omega) hI).mono ?_
      rintro e W' ⟨rfl, rfl⟩
      refine ⟨rfl, ?_, touch_set W (Nat.le_refl _) (Nat.lt_succ_self _)⟩
      rw [List.length_append]
      exact hI.set_ 0 _)
    go_wp2_with (first
      | (go_at_call 40
         go_must (rw [HW2.out])
         go_must (refine (impl_blends1 46 _ w1.heap.size (w1.heap.size + 1) n c A zs l h m s _ 5000000 HY.out hn6 HL.out HK.out.1 HK.out.2.1 (fun a ha => .inl (by have := HAb.out a ha; omega)) n [] [] none 0 0 t.toNat t w2 (by omega) rfl (by omega) rfl (by omega) (by omega) (.inl ⟨rfl, rfl, rfl⟩) (fun a ha => by cases ha) (HA.out.below HB2.out) (fun q => by simp at q) HK2.out (by rw [HG.out]; simp; omega)).mono ?_)
         rintro e w3 ⟨rfl, hi3, ht3⟩
         rw [List.nil_append, HG.out] at hi3
         have c3 : w3.cell? ⟨w1.heap.size, 0, none⟩ = some (.int .i64 (G.length : Int)) := hi3.cell 0
         have HB3 := hide (HB2.out.trans (ht3.below (B := w.heap.size) (by omega) (by omega)))
         clear hi3 ht3))
    go_wp2
    go_ret2
    exact ⟨rfl, HB3.out⟩
  · have hcnt : cntN zs l h m s t = 0 := by
      unfold cntN
      rw [if_neg (by rw [hcc]; exact h0)]
    rw [hcnt, hcc]
    have d0 : (cc == 0) = false := by simpa using h0
    clear hcc hcnt
    go_enter Try.func9, Try.ntmps9
    go_wp2_with fail
    refine (impl_blendsCode _ _ _ zs l h m s t _ hn hnc HL.out (HA.out.below HB0.out) HM.out).mono ?_
    rintro e w1 ⟨rfl, hb1⟩
    rw [HC.out]
    have HB1 := hide (HB0.out.trans (hb1.mono (by simp)))
    clear hb1
    go_wp2
    go_ret2
    exact ⟨rfl, HB1.out⟩
end Go.Proofs.Ytgobpleckeeheaa
