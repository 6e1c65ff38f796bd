/-
  What is proved: the walk of the reference over all blends: a good blend is counted, and kept where it is cheaper; the whole walk. Conditions: valid clays and limits, at most 12 parts.
-/
import Derived.Test.YtgobpleckeeheaaWalkS
namespace Go.Proofs.Ytgobpleckeeheaa
open Go.RowKit
set_option linter.unusedVariables false

theorem sinv_take {W : World} {lo b g n c gp cp ge ce : Nat} {A : Option Addr} {zs : List Clay} {L : List (List Int)} {ds : List Int} {pr q : Int} (hl : ds.length = n) (hpr : priceL zs ds = pr) (hc : (cheap (priceL zs) L).2 < 0 ∨ pr < (cheap (priceL zs) L).2) (hq : q = (L.length : Int) + 1)
    (h1 : Blk W b 80 #[.slice A n c, .pointer (some ⟨g, 0, none⟩), .slice (some ⟨gp, 0, none⟩) n cp, .slice (some ⟨ge, 0, none⟩) n ce, .int .i64 pr, .int .i64 q])
    (h2 : W.ownsRow lo 2 1 (.slice (some ⟨gp, 0, none⟩) n cp) n (flat encI ds)) (h3 : W.ownsRow lo 2 1 (.slice (some ⟨ge, 0, none⟩) n ce) n (flat encI ds)) (h4 : gp ≠ b) (h5 : ge ≠ b ∧ ge ≠ gp) (h6 : ∀ d ∈ L, partsIn d = true ∧ d.length = n) (hp : partsIn ds = true) :
    SInv W lo b g A n c zs (L ++ [ds]) ds n := by
  have e : cheap (priceL zs) (L ++ [ds]) = (ds, pr) := by
    rw [cheap_push, cheapStep_yes (by rw [hpr]; exact hc), hpr]
  have e2 : (((L ++ [ds]).length : Nat) : Int) = q := by rw [List.length_append, hq]; simp
  subst hl
  refine ⟨gp, cp, some ⟨ge, 0, none⟩, ce, ?_, h2, ?_, h4, fun a ha => ?_, fun d hd => ?_⟩
  · rw [e, e2]; exact h1
  · rw [e]; exact h3
  · obtain rfl := Option.some.inj ha
    exact h5
  · rcases List.mem_append.1 hd with hd | hd
    · exact h6 d hd
    · obtain rfl := List.mem_singleton.1 hd
      exact ⟨hp, rfl⟩
theorem sinv_keep {W : World} {lo b g n c gp cp ce : Nat} {A E : Option Addr} {zs : List Clay} {L : List (List Int)} {ds : List Int} {pr q : Int} (hl : ds.length = n) (hpr : priceL zs ds = pr) (hc : ¬ (cheap (priceL zs) L).2 < 0) (hc2 : ¬ pr < (cheap (priceL zs) L).2) (hq : q = (L.length : Int) + 1)
    (h1 : Blk W b 80 #[.slice A n c, .pointer (some ⟨g, 0, none⟩), .slice (some ⟨gp, 0, none⟩) n cp, .slice E (cheap (priceL zs) L).1.length ce, .int .i64 (cheap (priceL zs) L).2, .int .i64 q])
    (h2 : W.ownsRow lo 2 1 (.slice (some ⟨gp, 0, none⟩) n cp) n (flat encI ds)) (h3 : W.ownsRow lo 2 1 (.slice E (cheap (priceL zs) L).1.length ce) (cheap (priceL zs) L).1.length (flat encI (cheap (priceL zs) L).1)) (h4 : gp ≠ b) (h5 : ∀ a, E = some a → a.block ≠ b ∧ a.block ≠ gp) (h6 : ∀ d ∈ L, partsIn d = true ∧ d.length = n) (hp : partsIn ds = true) :
    SInv W lo b g A n c zs (L ++ [ds]) ds n := by
  have e : cheap (priceL zs) (L ++ [ds]) = cheap (priceL zs) L := by
    rw [cheap_push, cheapStep_no hc (by rw [hpr]; exact hc2)]
  have e2 : (((L ++ [ds]).length : Nat) : Int) = q := by rw [List.length_append, hq]; simp
  subst hl
  refine ⟨gp, cp, E, ce, ?_, h2, ?_, h4, h5, fun d hd => ?_⟩
  · rw [e, e2]; exact h1
  · rw [e]; exact h3
  · rcases List.mem_append.1 hd with hd | hd
    · exact h6 d hd
    · obtain rfl := List.mem_singleton.1 hd
      exact ⟨hp, rfl⟩
set_option maxRecDepth 100000 in
set_option maxHeartbeats 4000000 in
theorem spec_walk_neg (lo b g : Nat) (A : Option Addr) (n c : Nat) (zs : List Clay) (L : List (List Int)) (ds : List Int) (l h m s M pr : Int) (w : World) (hn : n ≤ 6) (hl : zs.length = n) (hl2 : ds.length = n) (hz : claysOk zs = true) (hx : LimOk l h m s) (hp : partsIn ds = true) (hlo : lo ≤ b) (hlw : lo ≤ w.heap.size) (hgl : g < lo) (hC : LimC w g l h m s) (ha : Row Clay.enc 5 w A zs)
    (hg : bgood zs l h m s ds = true) (hS : SInv w lo b g A n c zs L ds n) (hLn : L.length < 5000000) (hM : (cheap (priceL zs) L).2 = M) (hpr : priceL zs ds = pr) (h1 : M < 0) :
    Calls Try.prog 94 #[.pointer (some ⟨b, 0, none⟩), .int .i64 0] w (Walked w lo b g A n c zs (L ++ [ds]) ds n) := by
  obtain ⟨gp, cp, E, ce, hB, hP, hE, hgb, hEb, hLs⟩ := hS
  have hMb := cheap_len hz hn hLs
  have hpb := price_in hz hp hl2 hn
  rw [hM] at hMb
  rw [hpr] at hpb
  obtain ⟨hM0, hM1⟩ := hMb
  obtain ⟨hp0, hp1⟩ := hpb
  have hpt : totK (valOf 3) zs ds n = pr := by rw [← hpr]; unfold priceL; rw [hl2]
  obtain ⟨q, hq⟩ : ∃ q : Int, (L.length : Int) = q := ⟨_, rfl⟩
  have hq0 : 0 ≤ q ∧ q < 5000000 := by omega
  obtain ⟨hq0, hq1⟩ := hq0
  have HM := hide hM
  have HPR := hide hpr
  have HQ := hide hq
  have hB' := hB
  rw [hM, hq] at hB'
  have HB' := hide hB'
  have c0 : w.cell? ⟨b, 0, none⟩ = some (.slice A n c) := hB.cell 0
  have c1 : w.cell? ⟨b, 1, none⟩ = some (.pointer (some ⟨g, 0, none⟩)) := hB.cell 1
  have c2 : w.cell? ⟨b, 2, none⟩ = some (.slice (some ⟨gp, 0, none⟩) n cp) := hB.cell 2
  have hbl := hB.lt
  have HR := hide (show Row encI 1 w (some ⟨gp, 0, none⟩) ds from Row.of_own (fun _ => rfl) hl2 hP)
  have HA := hide ha
  have HL := hide hl
  have HL2 := hide hl2
  have HC := hide hC
  have HPT := hide hpt
  have HP := hide hP
  have HE := hide hE
  have HEb := hide hEb
  have HLs := hide hLs
  have HB0 := hide (Below.refl w.heap.size w)
  unfold bgood at hg
  obtain ⟨K, hK⟩ : ∃ K, bfault zs ds l h m s = K := ⟨_, rfl⟩
  rw [hK] at hg
  have HK := hide hK
  clear hB hB' hP ha hl hl2 hC hK hM hpr hq hpt hE hEb hLs hLn
  go_enter Try.func94, Try.ntmps94
  go_wp2
  go_region_held3 (fun w' => w'.cell? ⟨b, 0, none⟩ = some (.slice A n c) ∧ w'.cell? ⟨b, 1, none⟩ = some (.pointer (some ⟨g, 0, none⟩)) ∧ w'.cell? ⟨b, 2, none⟩ = some (.slice (some ⟨gp, 0, none⟩) n cp))
    (first
      | go_keep
      | exact ⟨c0, c1, c2⟩)
    (first
      | (go_at_call 56
         refine (spec_fault A (some ⟨gp, 0, none⟩) n c cp zs ds l h m s g _ hn HL.out HL2.out (HA.out.below HB0.out.drew) (HR.out.below HB0.out.drew) hz hp hx (by show g < w.heap.size; omega) HC.out.1 HC.out.2.1 HC.out.2.2.1 HC.out.2.2.2).mono ?_
         rintro e w1 ⟨rfl, hb1⟩
         rw [HK.out]
         replace c0 := (hb1.cell (p := ⟨b, 0, none⟩) hbl).trans c0
         replace c1 := (hb1.cell (p := ⟨b, 1, none⟩) hbl).trans c1
         replace c2 := (hb1.cell (p := ⟨b, 2, none⟩) hbl).trans c2
         have HB1 := hide (HB0.out.drew.trans (hb1.mono HB0.out.size))
         clear hb1))
  have hbl1 : b < w1.heap.size := Nat.lt_of_lt_of_le hbl HB1.out.size
  go_wp2
  go_region_held3 (fun w' => w'.cell? ⟨b, 0, none⟩ = some (.slice A n c) ∧ w'.cell? ⟨b, 1, none⟩ = some (.pointer (some ⟨g, 0, none⟩)) ∧ w'.cell? ⟨b, 2, none⟩ = some (.slice (some ⟨gp, 0, none⟩) n cp))
    (first
      | go_keep
      | exact ⟨c0, c1, c2⟩)
    (first
      | (go_at_call 101
         refine (spec_l03Total 3 (by omega) A (some ⟨gp, 0, none⟩) n c cp zs ds _ hn HL.out HL2.out (HA.out.below HB1.out.drew) (HR.out.below HB1.out.drew) hz hp).mono ?_
         rintro e w2 ⟨rfl, hb2⟩
         rw [HPT.out]
         replace c0 := (hb2.cell (p := ⟨b, 0, none⟩) hbl1).trans c0
         replace c1 := (hb2.cell (p := ⟨b, 1, none⟩) hbl1).trans c1
         replace c2 := (hb2.cell (p := ⟨b, 2, none⟩) hbl1).trans c2
         have HB2 := hide (HB1.out.drew.trans (hb2.mono HB1.out.size))
         clear hb2))
  have k2 := HB'.out.below HB2.out hbl
  have c4 : w2.cell? ⟨b, 4, none⟩ = some (.int .i64 M) := k2.cell 4
  have c5 : w2.cell? ⟨b, 5, none⟩ = some (.int .i64 q) := k2.cell 5
  have c3 : w2.cell? ⟨b, 3, none⟩ = some (.slice E (cheap (priceL zs) L).1.length ce) := k2.cell 3
  have f3 := k2.frozen 3
  have f4 := k2.frozen 4
  have f5 := k2.frozen 5
  have hbl2 : b < w2.heap.size := k2.lt
  have v1 := Go.IntWalk.i64_in (q + 1) ⟨by omega, by omega⟩
  have K2 := hide k2
  clear k2
  have hkeep : ∀ i : Nat, i ≠ b → ((w2.setCell ⟨b, 5, none⟩ (.int .i64 (q + 1))).setCell ⟨b, 4, none⟩ (.int .i64 pr)).heap[i]? = w2.heap[i]? := fun i hi =>
    (Below.heap_setCell (w2.setCell ⟨b, 5, none⟩ (.int .i64 (q + 1))) ⟨b, 4, none⟩ (.int .i64 pr) i hi).trans (Below.heap_setCell w2 ⟨b, 5, none⟩ (.int .i64 (q + 1)) i hi)
  have P2 := own_below HP.out HB2.out
  have E2 := own_below HE.out HB2.out
  have P3 := own_keep (w' := (w2.setCell ⟨b, 5, none⟩ (.int .i64 (q + 1))).setCell ⟨b, 4, none⟩ (.int .i64 pr)) P2 (fun a ha => by obtain rfl := Option.some.inj ha; exact hkeep gp hgb)
  have HP3 := hide P3
  have HKp := hide hkeep
  clear hkeep P2 E2 P3
  go_wp2_with (first
    | (go_at_call 116
       go_must (refine (spec_l00Own gp n cp ds ((w2.setCell ⟨b, 5, none⟩ (.int .i64 (q + 1))).setCell ⟨b, 4, none⟩ (.int .i64 pr)) (by omega) HL2.out (Row.of_own (fun _ => rfl) HL2.out HP3.out)).mono ?_)
       rintro e w4 ⟨ge, c', rfl, ho4, hb4⟩
       have hsz : ((w2.setCell ⟨b, 5, none⟩ (.int .i64 (q + 1))).setCell ⟨b, 4, none⟩ (.int .i64 pr)).heap.size = w2.heap.size := by simp
       have k4 := ((K2.out.set_ 5 (.int .i64 (q + 1))).set_ 4 (.int .i64 pr)).below hb4 (by rw [hsz]; exact hbl2)
       have g3 := k4.frozen 3
       have g3c : w4.cell? ⟨b, 3, none⟩ = some (.slice E (cheap (priceL zs) L).1.length ce) := k4.cell 3
       have HP4 := hide (own_below HP3.out hb4)
       have hge := (own_lt ho4).1
       have hgp := (own_block HP3.out _ rfl).2.2
       rw [hsz] at hge hgp
       have HO4 := hide ho4
       have K4 := hide k4
       have HB4 := hide (show Below lo w w4 from ((HB2.out.mono hlw).setCell hlo _ |>.setCell hlo _).trans (hb4.mono (by rw [hsz]; have := HB2.out.size; omega)))
       clear hb4 ho4 k4 c3 c4 c5 f3 f4 f5))
  have hs4 : lo ≤ w2.heap.size := by have := HB2.out.size; omega
  go_wp2
  refine bodyPost_ret (results_none rfl _ _ _) rfl ⟨rfl, ?_, HB4.out.setCell hlo _⟩
  refine sinv_take (gp := gp) (cp := cp) (ge := ge) (ce := c') (pr := pr) (q := q + 1) HL2.out HPR.out (by rw [HM.out]; omega) (by rw [HQ.out]) (K4.out.set_ 3 _) (own_keep HP4.out (fun a ha => by obtain rfl := Option.some.inj ha; exact Below.heap_setCell w4 ⟨b, 3, none⟩ _ gp hgb)) (own_weak2 (own_keep HO4.out (fun a ha => by obtain rfl := Option.some.inj ha; exact Below.heap_setCell w4 ⟨b, 3, none⟩ _ ge (by show ge ≠ b; omega))) (by simp <;> omega)) hgb ⟨by omega, by omega⟩ HLs.out hp
set_option maxRecDepth 100000 in
set_option maxHeartbeats 4000000 in
theorem spec_walk_less (lo b g : Nat) (A : Option Addr) (n c : Nat) (zs : List Clay) (L : List (List Int)) (ds : List Int) (l h m s M pr : Int) (w : World) (hn : n ≤ 6) (hl : zs.length = n) (hl2 : ds.length = n) (hz : claysOk zs = true) (hx : LimOk l h m s) (hp : partsIn ds = true) (hlo : lo ≤ b) (hlw : lo ≤ w.heap.size) (hgl : g < lo) (hC : LimC w g l h m s) (ha : Row Clay.enc 5 w A zs)
    (hg : bgood zs l h m s ds = true) (hS : SInv w lo b g A n c zs L ds n) (hLn : L.length < 5000000) (hM : (cheap (priceL zs) L).2 = M) (hpr : priceL zs ds = pr) (h1 : ¬ M < 0) (h2 : pr < M) :
    Calls Try.prog 94 #[.pointer (some ⟨b, 0, none⟩), .int .i64 0] w (Walked w lo b g A n c zs (L ++ [ds]) ds n) := by
  obtain ⟨gp, cp, E, ce, hB, hP, hE, hgb, hEb, hLs⟩ := hS
  have hMb := cheap_len hz hn hLs
  have hpb := price_in hz hp hl2 hn
  rw [hM] at hMb
  rw [hpr] at hpb
  obtain ⟨hM0, hM1⟩ := hMb
  obtain ⟨hp0, hp1⟩ := hpb
  have hpt : totK (valOf 3) zs ds n = pr := by rw [← hpr]; unfold priceL; rw [hl2]
  obtain ⟨q, hq⟩ : ∃ q : Int, (L.length : Int) = q := ⟨_, rfl⟩
  have hq0 : 0 ≤ q ∧ q < 5000000 := by omega
  obtain ⟨hq0, hq1⟩ := hq0
  have HM := hide hM
  have HPR := hide hpr
  have HQ := hide hq
  have hB' := hB
  rw [hM, hq] at hB'
  have HB' := hide hB'
  have c0 : w.cell? ⟨b, 0, none⟩ = some (.slice A n c) := hB.cell 0
  have c1 : w.cell? ⟨b, 1, none⟩ = some (.pointer (some ⟨g, 0, none⟩)) := hB.cell 1
  have c2 : w.cell? ⟨b, 2, none⟩ = some (.slice (some ⟨gp, 0, none⟩) n cp) := hB.cell 2
  have hbl := hB.lt
  have HR := hide (show Row encI 1 w (some ⟨gp, 0, none⟩) ds from Row.of_own (fun _ => rfl) hl2 hP)
  have HA := hide ha
  have HL := hide hl
  have HL2 := hide hl2
  have HC := hide hC
  have HPT := hide hpt
  have HP := hide hP
  have HE := hide hE
  have HEb := hide hEb
  have HLs := hide hLs
  have HB0 := hide (Below.refl w.heap.size w)
  unfold bgood at hg
  obtain ⟨K, hK⟩ : ∃ K, bfault zs ds l h m s = K := ⟨_, rfl⟩
  rw [hK] at hg
  have HK := hide hK
  clear hB hB' hP ha hl hl2 hC hK hM hpr hq hpt hE hEb hLs hLn
  go_enter Try.func94, Try.ntmps94
  go_wp2
  go_region_held3 (fun w' => w'.cell? ⟨b, 0, none⟩ = some (.slice A n c) ∧ w'.cell? ⟨b, 1, none⟩ = some (.pointer (some ⟨g, 0, none⟩)) ∧ w'.cell? ⟨b, 2, none⟩ = some (.slice (some ⟨gp, 0, none⟩) n cp))
    (first
      | go_keep
      | exact ⟨c0, c1, c2⟩)
    (first
      | (go_at_call 56
         refine (spec_fault A (some ⟨gp, 0, none⟩) n c cp zs ds l h m s g _ hn HL.out HL2.out (HA.out.below HB0.out.drew) (HR.out.below HB0.out.drew) hz hp hx (by show g < w.heap.size; omega) HC.out.1 HC.out.2.1 HC.out.2.2.1 HC.out.2.2.2).mono ?_
         rintro e w1 ⟨rfl, hb1⟩
         rw [HK.out]
         replace c0 := (hb1.cell (p := ⟨b, 0, none⟩) hbl).trans c0
         replace c1 := (hb1.cell (p := ⟨b, 1, none⟩) hbl).trans c1
         replace c2 := (hb1.cell (p := ⟨b, 2, none⟩) hbl).trans c2
         have HB1 := hide (HB0.out.drew.trans (hb1.mono HB0.out.size))
         clear hb1))
  have hbl1 : b < w1.heap.size := Nat.lt_of_lt_of_le hbl HB1.out.size
  go_wp2
  go_region_held3 (fun w' => w'.cell? ⟨b, 0, none⟩ = some (.slice A n c) ∧ w'.cell? ⟨b, 1, none⟩ = some (.pointer (some ⟨g, 0, none⟩)) ∧ w'.cell? ⟨b, 2, none⟩ = some (.slice (some ⟨gp, 0, none⟩) n cp))
    (first
      | go_keep
      | exact ⟨c0, c1, c2⟩)
    (first
      | (go_at_call 101
         refine (spec_l03Total 3 (by omega) A (some ⟨gp, 0, none⟩) n c cp zs ds _ hn HL.out HL2.out (HA.out.below HB1.out.drew) (HR.out.below HB1.out.drew) hz hp).mono ?_
         rintro e w2 ⟨rfl, hb2⟩
         rw [HPT.out]
         replace c0 := (hb2.cell (p := ⟨b, 0, none⟩) hbl1).trans c0
         replace c1 := (hb2.cell (p := ⟨b, 1, none⟩) hbl1).trans c1
         replace c2 := (hb2.cell (p := ⟨b, 2, none⟩) hbl1).trans c2
         have HB2 := hide (HB1.out.drew.trans (hb2.mono HB1.out.size))
         clear hb2))
  have k2 := HB'.out.below HB2.out hbl
  have c4 : w2.cell? ⟨b, 4, none⟩ = some (.int .i64 M) := k2.cell 4
  have c5 : w2.cell? ⟨b, 5, none⟩ = some (.int .i64 q) := k2.cell 5
  have c3 : w2.cell? ⟨b, 3, none⟩ = some (.slice E (cheap (priceL zs) L).1.length ce) := k2.cell 3
  have f3 := k2.frozen 3
  have f4 := k2.frozen 4
  have f5 := k2.frozen 5
  have hbl2 : b < w2.heap.size := k2.lt
  have v1 := Go.IntWalk.i64_in (q + 1) ⟨by omega, by omega⟩
  have K2 := hide k2
  clear k2
  have hkeep : ∀ i : Nat, i ≠ b → ((w2.setCell ⟨b, 5, none⟩ (.int .i64 (q + 1))).setCell ⟨b, 4, none⟩ (.int .i64 pr)).heap[i]? = w2.heap[i]? := fun i hi =>
    (Below.heap_setCell (w2.setCell ⟨b, 5, none⟩ (.int .i64 (q + 1))) ⟨b, 4, none⟩ (.int .i64 pr) i hi).trans (Below.heap_setCell w2 ⟨b, 5, none⟩ (.int .i64 (q + 1)) i hi)
  have P2 := own_below HP.out HB2.out
  have E2 := own_below HE.out HB2.out
  have P3 := own_keep (w' := (w2.setCell ⟨b, 5, none⟩ (.int .i64 (q + 1))).setCell ⟨b, 4, none⟩ (.int .i64 pr)) P2 (fun a ha => by obtain rfl := Option.some.inj ha; exact hkeep gp hgb)
  have HP3 := hide P3
  have HKp := hide hkeep
  clear hkeep P2 E2 P3
  go_wp2_with (first
    | (go_at_call 116
       go_must (refine (spec_l00Own gp n cp ds ((w2.setCell ⟨b, 5, none⟩ (.int .i64 (q + 1))).setCell ⟨b, 4, none⟩ (.int .i64 pr)) (by omega) HL2.out (Row.of_own (fun _ => rfl) HL2.out HP3.out)).mono ?_)
       rintro e w4 ⟨ge, c', rfl, ho4, hb4⟩
       have hsz : ((w2.setCell ⟨b, 5, none⟩ (.int .i64 (q + 1))).setCell ⟨b, 4, none⟩ (.int .i64 pr)).heap.size = w2.heap.size := by simp
       have k4 := ((K2.out.set_ 5 (.int .i64 (q + 1))).set_ 4 (.int .i64 pr)).below hb4 (by rw [hsz]; exact hbl2)
       have g3 := k4.frozen 3
       have g3c : w4.cell? ⟨b, 3, none⟩ = some (.slice E (cheap (priceL zs) L).1.length ce) := k4.cell 3
       have HP4 := hide (own_below HP3.out hb4)
       have hge := (own_lt ho4).1
       have hgp := (own_block HP3.out _ rfl).2.2
       rw [hsz] at hge hgp
       have HO4 := hide ho4
       have K4 := hide k4
       have HB4 := hide (show Below lo w w4 from ((HB2.out.mono hlw).setCell hlo _ |>.setCell hlo _).trans (hb4.mono (by rw [hsz]; have := HB2.out.size; omega)))
       clear hb4 ho4 k4 c3 c4 c5 f3 f4 f5))
  have hs4 : lo ≤ w2.heap.size := by have := HB2.out.size; omega
  go_wp2
  refine bodyPost_ret (results_none rfl _ _ _) rfl ⟨rfl, ?_, HB4.out.setCell hlo _⟩
  refine sinv_take (gp := gp) (cp := cp) (ge := ge) (ce := c') (pr := pr) (q := q + 1) HL2.out HPR.out (by rw [HM.out]; omega) (by rw [HQ.out]) (K4.out.set_ 3 _) (own_keep HP4.out (fun a ha => by obtain rfl := Option.some.inj ha; exact Below.heap_setCell w4 ⟨b, 3, none⟩ _ gp hgb)) (own_weak2 (own_keep HO4.out (fun a ha => by obtain rfl := Option.some.inj ha; exact Below.heap_setCell w4 ⟨b, 3, none⟩ _ ge (by show ge ≠ b; omega))) (by simp <;> omega)) hgb ⟨by omega, by omega⟩ HLs.out hp
set_option maxRecDepth 100000 in
set_option maxHeartbeats 4000000 in
theorem spec_walk_keep (lo b g : Nat) (A : Option Addr) (n c : Nat) (zs : List Clay) (L : List (List Int)) (ds : List Int) (l h m s M pr : Int) (w : World) (hn : n ≤ 6) (hl : zs.length = n) (hl2 : ds.length = n) (hz : claysOk zs = true) (hx : LimOk l h m s) (hp : partsIn ds = true) (hlo : lo ≤ b) (hlw : lo ≤ w.heap.size) (hgl : g < lo) (hC : LimC w g l h m s) (ha : Row Clay.enc 5 w A zs)
    (hg : bgood zs l h m s ds = true) (hS : SInv w lo b g A n c zs L ds n) (hLn : L.length < 5000000) (hM : (cheap (priceL zs) L).2 = M) (hpr : priceL zs ds = pr) (h1 : ¬ M < 0) (h2 : ¬ pr < M) :
    Calls Try.prog 94 #[.pointer (some ⟨b, 0, none⟩), .int .i64 0] w (Walked w lo b g A n c zs (L ++ [ds]) ds n) := by
  obtain ⟨gp, cp, E, ce, hB, hP, hE, hgb, hEb, hLs⟩ := hS
  have hMb := cheap_len hz hn hLs
  have hpb := price_in hz hp hl2 hn
  rw [hM] at hMb
  rw [hpr] at hpb
  obtain ⟨hM0, hM1⟩ := hMb
  obtain ⟨hp0, hp1⟩ := hpb
  have hpt : totK (valOf 3) zs ds n = pr := by rw [← hpr]; unfold priceL; rw [hl2]
  obtain ⟨q, hq⟩ : ∃ q : Int, (L.length : Int) = q := ⟨_, rfl⟩
  have hq0 : 0 ≤ q ∧ q < 5000000 := by omega
  obtain ⟨hq0, hq1⟩ := hq0
  have HM := hide hM
  have HPR := hide hpr
  have HQ := hide hq
  have hB' := hB
  rw [hM, hq] at hB'
  have HB' := hide hB'
  have c0 : w.cell? ⟨b, 0, none⟩ = some (.slice A n c) := hB.cell 0
  have c1 : w.cell? ⟨b, 1, none⟩ = some (.pointer (some ⟨g, 0, none⟩)) := hB.cell 1
  have c2 : w.cell? ⟨b, 2, none⟩ = some (.slice (some ⟨gp, 0, none⟩) n cp) := hB.cell 2
  have hbl := hB.lt
  have HR := hide (show Row encI 1 w (some ⟨gp, 0, none⟩) ds from Row.of_own (fun _ => rfl) hl2 hP)
  have HA := hide ha
  have HL := hide hl
  have HL2 := hide hl2
  have HC := hide hC
  have HPT := hide hpt
  have HP := hide hP
  have HE := hide hE
  have HEb := hide hEb
  have HLs := hide hLs
  have HB0 := hide (Below.refl w.heap.size w)
  unfold bgood at hg
  obtain ⟨K, hK⟩ : ∃ K, bfault zs ds l h m s = K := ⟨_, rfl⟩
  rw [hK] at hg
  have HK := hide hK
  clear hB hB' hP ha hl hl2 hC hK hM hpr hq hpt hE hEb hLs hLn
  go_enter Try.func94, Try.ntmps94
  go_wp2
  go_region_held3 (fun w' => w'.cell? ⟨b, 0, none⟩ = some (.slice A n c) ∧ w'.cell? ⟨b, 1, none⟩ = some (.pointer (some ⟨g, 0, none⟩)) ∧ w'.cell? ⟨b, 2, none⟩ = some (.slice (some ⟨gp, 0, none⟩) n cp))
    (first
      | go_keep
      | exact ⟨c0, c1, c2⟩)
    (first
      | (go_at_call 56
         refine (spec_fault A (some ⟨gp, 0, none⟩) n c cp zs ds l h m s g _ hn HL.out HL2.out (HA.out.below HB0.out.drew) (HR.out.below HB0.out.drew) hz hp hx (by show g < w.heap.size; omega) HC.out.1 HC.out.2.1 HC.out.2.2.1 HC.out.2.2.2).mono ?_
         rintro e w1 ⟨rfl, hb1⟩
         rw [HK.out]
         replace c0 := (hb1.cell (p := ⟨b, 0, none⟩) hbl).trans c0
         replace c1 := (hb1.cell (p := ⟨b, 1, none⟩) hbl).trans c1
         replace c2 := (hb1.cell (p := ⟨b, 2, none⟩) hbl).trans c2
         have HB1 := hide (HB0.out.drew.trans (hb1.mono HB0.out.size))
         clear hb1))
  have hbl1 : b < w1.heap.size := Nat.lt_of_lt_of_le hbl HB1.out.size
  go_wp2
  go_region_held3 (fun w' => w'.cell? ⟨b, 0, none⟩ = some (.slice A n c) ∧ w'.cell? ⟨b, 1, none⟩ = some (.pointer (some ⟨g, 0, none⟩)) ∧ w'.cell? ⟨b, 2, none⟩ = some (.slice (some ⟨gp, 0, none⟩) n cp))
    (first
      | go_keep
      | exact ⟨c0, c1, c2⟩)
    (first
      | (go_at_call 101
         refine (spec_l03Total 3 (by omega) A (some ⟨gp, 0, none⟩) n c cp zs ds _ hn HL.out HL2.out (HA.out.below HB1.out.drew) (HR.out.below HB1.out.drew) hz hp).mono ?_
         rintro e w2 ⟨rfl, hb2⟩
         rw [HPT.out]
         replace c0 := (hb2.cell (p := ⟨b, 0, none⟩) hbl1).trans c0
         replace c1 := (hb2.cell (p := ⟨b, 1, none⟩) hbl1).trans c1
         replace c2 := (hb2.cell (p := ⟨b, 2, none⟩) hbl1).trans c2
         have HB2 := hide (HB1.out.drew.trans (hb2.mono HB1.out.size))
         clear hb2))
  have k2 := HB'.out.below HB2.out hbl
  have c4 : w2.cell? ⟨b, 4, none⟩ = some (.int .i64 M) := k2.cell 4
  have c5 : w2.cell? ⟨b, 5, none⟩ = some (.int .i64 q) := k2.cell 5
  have c3 : w2.cell? ⟨b, 3, none⟩ = some (.slice E (cheap (priceL zs) L).1.length ce) := k2.cell 3
  have f3 := k2.frozen 3
  have f4 := k2.frozen 4
  have f5 := k2.frozen 5
  have hbl2 : b < w2.heap.size := k2.lt
  have v1 := Go.IntWalk.i64_in (q + 1) ⟨by omega, by omega⟩
  have K2 := hide k2
  clear k2
  go_wp2
  refine bodyPost_ret (results_none rfl _ _ _) rfl ⟨rfl, ?_, (HB2.out.mono hlw).setCell hlo _⟩
  have k5 := K2.out.set_ 5 (.int .i64 (q + 1))
  refine sinv_keep (gp := gp) (cp := cp) (ce := ce) (E := E) (pr := pr) (q := q + 1) HL2.out HPR.out (by rw [HM.out]; omega) (by rw [HM.out]; omega) (by rw [HQ.out]) (by rw [HM.out]; exact k5) (own_keep (own_below HP.out HB2.out) (fun a ha => by obtain rfl := Option.some.inj ha; exact Below.heap_setCell w2 ⟨b, 5, none⟩ _ gp hgb)) (own_keep (own_below HE.out HB2.out) (fun a ha => Below.heap_setCell w2 ⟨b, 5, none⟩ _ a.block (HEb.out a ha).1)) hgb HEb.out HLs.out hp
set_option maxRecDepth 100000 in
set_option maxHeartbeats 4000000 in
theorem spec_walk (lo b g : Nat) (A : Option Addr) (n c : Nat) (zs : List Clay) (l h m s : Int) (hn : n ≤ 6) (hl : zs.length = n) (hz : claysOk zs = true) (hx : LimOk l h m s) (hlo : lo ≤ b) (hgl : g < lo) (hA : ∀ a, A = some a → a.block < lo) :
    ∀ (rem : Nat) (L : List (List Int)) (ds : List Int) (k left : Nat) (li : Int) (w : World), li = (left : Int) → ds.length = k → rem + k = n → partsIn ds = true → left ≤ 12 → lo ≤ w.heap.size → LimC w g l h m s → Row Clay.enc 5 w A zs → SInv w lo b g A n c zs L ds k →
      L.length + (goodL (bgood zs l h m s) rem ds left).length ≤ 5000000 →
      Calls Try.prog 94 #[.pointer (some ⟨b, 0, none⟩), .int .i64 li] w (Walked w lo b g A n c zs (L ++ goodL (bgood zs l h m s) rem ds left) ds k) := by
  intro rem
  induction rem with
  | zero =>
    intro L ds k left li w hli hdk hk hp hleft hlw hC ha hS hlen
    obtain rfl : k = n := by omega
    by_cases h0 : left = 0
    · subst h0
      obtain rfl : li = 0 := by rw [hli]; rfl
      cases hg : bgood zs l h m s ds with
      | false =>
        rw [goodL_no (by rw [hg]; decide), List.append_nil]
        exact spec_walk_bad lo b g A k c zs L ds l h m s w hn hl hdk hz hx hp hlo hlw hgl hC ha hg hS
      | true =>
        rw [goodL_yes hg] at hlen ⊢
        have hLn : L.length < 5000000 := by simp at hlen; omega
        by_cases h1 : (cheap (priceL zs) L).2 < 0
        · exact spec_walk_neg lo b g A k c zs L ds l h m s _ _ w hn hl hdk hz hx hp hlo hlw hgl hC ha hg hS hLn rfl rfl h1
        · by_cases h2 : priceL zs ds < (cheap (priceL zs) L).2
          · exact spec_walk_less lo b g A k c zs L ds l h m s _ _ w hn hl hdk hz hx hp hlo hlw hgl hC ha hg hS hLn rfl rfl h1 h2
          · exact spec_walk_keep lo b g A k c zs L ds l h m s _ _ w hn hl hdk hz hx hp hlo hlw hgl hC ha hg hS hLn rfl rfl h1 h2
    · rw [goodL_no (fun q => h0 q.1), List.append_nil]
      exact spec_walk_no lo b g A k c zs L ds li w (by omega) hn hlo hlw hS
  | succ rem ih =>
    intro L ds k left li w hli hdk hk hp hleft hlw hC ha hS hlen
    subst hli
    obtain ⟨i0, hi0, hq0, hq1, hq2⟩ := info_parts info_int64
    have HQI := hide hi0
    have HZ0 := hide hq0
    have HZ1 := hide hq1
    have HZ2 := hide hq2
    have HIH := hide ih
    have HA := hide ha
    have HC := hide hC
    have HS := hide hS
    have HLEN := hide hlen
    have HDK := hide hdk
    have HP := hide hp
    have HAb := hide hA
    have hkn : ¬ (k : Int) = (n : Int) := by omega
    have hkn2 : ((k : Int) == (n : Int)) = false := by simp; omega
    have hkn3 : ¬ k = n := by omega
    obtain ⟨gp, cp, E, ce, hB, -⟩ := hS
    have c0 : w.cell? ⟨b, 0, none⟩ = some (.slice A n c) := hB.cell 0
    have c2 : w.cell? ⟨b, 2, none⟩ = some (.slice (some ⟨gp, 0, none⟩) k cp) := hB.cell 2
    clear ih ha hC hlen hdk hp hA hB hi0 hq0 hq1 hq2 hl
    go_enter Try.func94, Try.ntmps94
    go_wp2
    clear c0 c2
    go_loopw [6] (fun i wr => ∃ j : Nat, j ≤ left + 1 ∧ i = .int .i64 j ∧ Hid (SInv wr lo b g A n c zs (L ++ goodTo (bgood zs l h m s) rem ds left j) ds k) ∧ Hid (Below lo w wr)) (fun i _ => left + 1 - (intOf i).toNat)
    case atStart => exact ⟨0, by omega, rfl, hide (by rw [goodTo_zero, List.append_nil]; exact HS.out), hide (Below.refl _ _)⟩
    case round =>
      obtain ⟨j, hj, rfl, HSr, HBr⟩ := hrel
      by_cases hlt : j ≤ left
      · have hji : (j : Int) ≤ (left : Int) := by omega
        have v1 := Go.IntWalk.i64_in ((left : Int) - (j : Int)) ⟨by omega, by omega⟩
        obtain ⟨gp, cp, E, ce, hB, hP, hE, hgb, hEb, hLs⟩ := HSr.out
        have c2 : wr.cell? ⟨b, 2, none⟩ = some (.slice (some ⟨gp, 0, none⟩) k cp) := hB.cell 2
        have hbl := hB.lt
        have hlr : lo ≤ wr.heap.size := by have := HBr.out.size; omega
        have HBk := hide hB
        have HPr := hide hP
        have HEr := hide hE
        have HEb := hide hEb
        have HLs := hide hLs
        have hEl := own_block hE
        have HEl := hide hEl
        have HBd := hide (show (L ++ goodTo (bgood zs l h m s) rem ds left j).length + (goodL (bgood zs l h m s) rem (ds ++ [(j : Int)]) (left - j)).length ≤ 5000000 from by
          have h1 := HLEN.out
          rw [goodL_succ] at h1
          have h2 := goodTo_le (bgood zs l h m s) rem ds left (show j + 1 ≤ left + 1 by omega)
          rw [goodTo_succ, List.length_append] at h2
          rw [List.length_append]
          omega)
        clear hB hP hE hEb hLs hEl
        have f2 : wr.frozen? ⟨b, 2, none⟩ = false := HBk.out.frozen 2
        go_wp2_with (first
          | (at_builtin
             go_must (refine wpList_append_lies _ (by rfl) _ _ _ (by rfl) lo 2 i0 _ 1 8 Try.underlying29 HQI.out HZ0.out HZ1.out HZ2.out rfl (by omega) (.slice (some ⟨gp, 0, none⟩) k cp) k (flat encI ds) (by rfl) (HPr.out.alloc _) ⟨wr.heap.size, 0, none⟩ 1 1 [Value.int .i64 (j : Int)] (by rfl) (by rfl) (cell_new_at wr _ _ _ rfl) int_one (by omega) (by unfold maxLen; omega) (by omega) (by simp; omega) (wr.heap.size + 1) (by simp) ?_)
             go_must (intro g2 cap2 w1 hown1 hgrow hat hlt1)
             have hat' : g2 = gp ∨ g2 = wr.heap.size + 1 := by
               rcases hat with h1 | h1
               · left
                 have : some gp = some g2 := h1
                 exact (Option.some.inj this).symm
               · exact .inr h1
             go_must (have hg2b : g2 ≠ b := by rcases hat' with h1 | h1 <;> omega)
             go_must (have hk1 := (HBk.out.alloc (.cells #[.int .i64 (j : Int)] 2)))
             go_must (have hbb : w1.heap[b]? = (wr.alloc (.cells #[.int .i64 (j : Int)] 2)).heap[b]? := hgrow.block b hk1.lt (by simp [Value.ownBlock]; omega))
             go_must (have K1 := hide (show Blk w1 b 80 #[.slice A n c, .pointer (some ⟨g, 0, none⟩), .slice (some ⟨gp, 0, none⟩) k cp, .slice E (cheap (priceL zs) (L ++ goodTo (bgood zs l h m s) rem ds left j)).1.length ce, .int .i64 (cheap (priceL zs) (L ++ goodTo (bgood zs l h m s) rem ds left j)).2, .int .i64 (((L ++ goodTo (bgood zs l h m s) rem ds left j).length : Nat) : Int)] from hbb.trans hk1))
             go_must (have E1 := hide (own_keep (w' := w1) (HEr.out.alloc (.cells #[.int .i64 (j : Int)] 2)) (fun a ha => hgrow.block a.block (by have := (HEl.out a ha).2.2; simp; omega) (by have := (HEb.out a ha).2; simp [Value.ownBlock]; omega))))
             go_must (have HE2 := hide (show ∀ a, E = some a → a.block ≠ b ∧ a.block ≠ g2 from fun a ha => ⟨(HEb.out a ha).1, by have h1 := (HEb.out a ha).2; have h2 := (HEl.out a ha).2.2; rcases hat' with h3 | h3 <;> omega⟩))
             go_must (have HG1 := hide (show Below lo wr w1 from ((Below.refl lo wr).alloc hlr _).grown hgrow (by simp; omega) (fun j' hj' => (HPr.out.lt j' hj').1)))
             go_must (have O1 := hide hown1)
             go_must (have b2 : w1.cell? ⟨b, 2, none⟩ = some (.slice (some ⟨gp, 0, none⟩) k cp) := K1.out.cell 2)
             go_must (have b2f : w1.frozen? ⟨b, 2, none⟩ = false := K1.out.frozen 2)
             clear hown1 hgrow hat hk1 hbb c2 f2)
          | (go_at_call 94
             go_must (have hs1 : lo ≤ w1.heap.size := by have := HG1.out.size; omega)
             go_must (have hb5 : Below lo w (w1.setCell ⟨b, 2, none⟩ (.slice (some ⟨g2, 0, none⟩) (k + 1) cap2)) := (HBr.out.trans HG1.out).setCell hlo _)
             have hS5 : SInv (w1.setCell ⟨b, 2, none⟩ (.slice (some ⟨g2, 0, none⟩) (k + 1) cap2)) lo b g A n c zs (L ++ goodTo (bgood zs l h m s) rem ds left j) (ds ++ [(j : Int)]) (k + 1) := by
               refine ⟨g2, cap2, E, ce, K1.out.set_ 2 _, ?_, own_keep E1.out (fun a ha => Below.heap_setCell w1 ⟨b, 2, none⟩ _ a.block (HE2.out a ha).1), hg2b, HE2.out, HLs.out⟩
               have h7 := own_keep (w' := w1.setCell ⟨b, 2, none⟩ (.slice (some ⟨g2, 0, none⟩) (k + 1) cap2)) O1.out (fun a ha => by obtain rfl := Option.some.inj ha; exact Below.heap_setCell w1 ⟨b, 2, none⟩ _ g2 hg2b)
               rwa [flatI_push] at h7
             go_must (refine (HIH.out (L ++ goodTo (bgood zs l h m s) rem ds left j) (ds ++ [(j : Int)]) (k + 1) (left - j) _ (w1.setCell ⟨b, 2, none⟩ (.slice (some ⟨g2, 0, none⟩) (k + 1) cap2)) (by omega) (by rw [List.length_append, HDK.out]; rfl) (by omega) (parts_push HP.out (by omega)) (by omega) (by simp; omega) (HC.out.below hb5 hgl) (HA.out.below_lo hb5 HAb.out) hS5 HBd.out).mono ?_)
             rintro e w3 ⟨rfl, hS3, hb3⟩
             have hS4 : SInv w3 lo b g A n c zs (L ++ goodTo (bgood zs l h m s) rem ds left (j + 1)) (ds ++ [(j : Int)]) (k + 1) := by
               rw [goodTo_succ, ← List.append_assoc]
               exact hS3
             obtain ⟨g4, cp4, E4, ce4, hB4, hP4, hE4, hgb4, hEb4, hLs4⟩ := hS4
             go_must (have a2 : w3.cell? ⟨b, 2, none⟩ = some (.slice (some ⟨g4, 0, none⟩) (k + 1) cp4) := hB4.cell 2)
             go_must (have a2f : w3.frozen? ⟨b, 2, none⟩ = false := hB4.frozen 2)
             have hS6 : SInv (w3.setCell ⟨b, 2, none⟩ (.slice (some ⟨g4, 0, none⟩) k cp4)) lo b g A n c zs (L ++ goodTo (bgood zs l h m s) rem ds left (j + 1)) ds k := by
               refine ⟨g4, cp4, E4, ce4, hB4.set_ 2 _, ?_, own_keep hE4 (fun a ha => Below.heap_setCell w3 ⟨b, 2, none⟩ _ a.block (hEb4 a ha).1), hgb4, hEb4, hLs4⟩
               exact own_cut (x := (j : Int)) (own_keep hP4 (fun a ha => by obtain rfl := Option.some.inj ha; exact Below.heap_setCell w3 ⟨b, 2, none⟩ _ g4 hgb4)) HDK.out
             have hcap : k + 1 ≤ cp4 := by
               rcases hP4.2 with ⟨hv, _⟩ | ⟨g', cap', cur', hv, _, _, hnc', _⟩
               · cases hv
               · injection hv with _ _ hc'
                 omega
             go_must (have HS6 := hide hS6)
             go_must (have HB6 := hide (show Below lo w (w3.setCell ⟨b, 2, none⟩ (.slice (some ⟨g4, 0, none⟩) k cp4)) from (hb5.trans hb3).setCell hlo _))
             clear hS3 hb3 hB4 hP4 hE4 hEb4 hLs4 hS6 hS5 hb5 b2 b2f))
        have hcap2 : k ≤ cp4 := by omega
        go_wp2
        go_roundw
        case rel => exact ⟨j + 1, by omega, by go_num, HS6, HB6⟩
        case measure => simp [intOf]; omega
      · obtain rfl : j = left + 1 := by omega
        have hji : ¬ (((left + 1 : Nat) : Int) ≤ (left : Int)) := by omega
        go_wp2
        go_end0
        exact ⟨rfl, by rw [goodL_succ]; exact HSr.out, HBr.out⟩
end Go.Proofs.Ytgobpleckeeheaa
