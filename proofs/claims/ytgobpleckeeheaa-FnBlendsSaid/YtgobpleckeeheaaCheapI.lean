/-
  What is proved: the contract of impl.CheapestBlend. Conditions: lengths that fit, names that fit.
-/
import Derived.Test.YtgobpleckeeheaaAllS
namespace Go.Proofs.Ytgobpleckeeheaa
open Go.RowKit
set_option linter.unusedVariables false

theorem goodL_parts (f : List Int → Bool) : ∀ (rem : Nat) (ds : List Int) (left : Nat), partsIn ds = true → left ≤ 12 → ∀ e ∈ goodL f rem ds left, partsIn e = true ∧ e.length = ds.length + rem
  | 0, ds, left, hp, hl, e, he => by
    unfold goodL at he
    split at he
    · obtain rfl := List.mem_singleton.1 he
      exact ⟨hp, rfl⟩
    · simp at he
  | rem + 1, ds, left, hp, hl, e, he => by
    unfold goodL at he
    obtain ⟨j, hj, he⟩ := List.mem_flatMap.1 he
    have hj := List.mem_range.1 hj
    have := goodL_parts f rem (ds ++ [(j : Int)]) (left - j) (parts_push hp (by omega)) (by omega) e he
    rw [List.length_append] at this
    exact ⟨this.1, by have := this.2; simp at this; omega⟩
theorem chL_len (zs : List Clay) (l h m s t : Int) : (chL zs l h m s t).length ≤ 6 := by
  unfold chL
  by_cases h0 : allB zs l h m s t = []
  · rw [h0]
    exact Nat.zero_le _
  · unfold allB at h0 ⊢
    split at h0
    · rename_i hc
      rw [if_pos hc]
      obtain ⟨hz, hx, ht⟩ := blcode_ok hc
      have hg := goodL_parts (bgood zs l h m s) zs.length [] t.toNat rfl (by omega)
      have := cheap_some (p := priceL zs) (fun ds hd => (price_in hz (hg ds hd).1 (hg ds hd).2 (by have := clays_six hz; simpa using this)).1) h0
      have h1 := (hg _ this.1).2
      rw [h1]
      have := clays_six hz
      simpa using this
    · exact absurd rfl h0
/-- The closure's state. -/
def CInv (m0 b0 g1 : Nat) (A : Option Addr) (n c : Nat) (zs : List Clay) (L : List (List Int)) (W : World) : Prop :=
  ∃ (E : Option Addr) (d : Nat), Blk W b0 24 #[.slice A n c] ∧ Blk W g1 29 #[.slice E (cheap (priceL zs) L).1.length d] ∧ Blk W (g1 + 1) 2 #[.int .i64 (cheap (priceL zs) L).2] ∧
    W.ownsRow m0 2 1 (.slice E (cheap (priceL zs) L).1.length d) (cheap (priceL zs) L).1.length (flat encI (cheap (priceL zs) L).1) ∧
    (∀ a, E = some a → a.block ≠ g1 ∧ a.block ≠ g1 + 1) ∧ (∀ d ∈ L, partsIn d = true ∧ d.length = n)
theorem CInv.below {m0 b0 g1 n c : Nat} {A : Option Addr} {zs : List Clay} {L : List (List Int)} {W W' : World} (h : CInv m0 b0 g1 A n c zs L W) (hb : Below W.heap.size W W') : CInv m0 b0 g1 A n c zs L W' := by
  obtain ⟨E, d, h1, h2, h3, h4, h5, h6⟩ := h
  exact ⟨E, d, h1.below hb h1.lt, h2.below hb h2.lt, h3.below hb h3.lt, own_below h4 hb, h5, h6⟩
theorem CInv.drew {m0 b0 g1 n c : Nat} {A : Option Addr} {zs : List Clay} {L : List (List Int)} {W : World} (h : CInv m0 b0 g1 A n c zs L W) : CInv m0 b0 g1 A n c zs L W.drew := h
theorem fn_price (x0 : ByteArray) (x1 x2 x3 x4 : Int) (w : World) : Calls Try.prog 43 #[.agg #[.string x0, .int .i64 x1, .int .i64 x2, .int .i64 x3, .int .i64 x4]] w fun e w' => e = .returned (.int .i64 (valOf 3 ⟨x0, x1, x2, x3, x4⟩)) ∧ Below w.heap.size w w' := by
  rw [show valOf 3 ⟨x0, x1, x2, x3, x4⟩ = x4 from rfl]
  go_enter Try.func43, Try.ntmps43
  go_wp2
  go_ret
  exact ⟨rfl, by go_grown⟩
/-- What the closure leaves. -/
def Stepped (m0 b0 g1 : Nat) (A : Option Addr) (n c : Nat) (zs : List Clay) (L : List (List Int)) (W : World) (e : Ending) (W' : World) : Prop :=
  e = .returned (.tuple #[]) ∧ CInv m0 b0 g1 A n c zs L W' ∧ Touch g1 (g1 + 2) W W'
set_option maxRecDepth 100000 in
set_option maxHeartbeats 2000000 in
theorem cheap_neg' (m0 b0 g1 : Nat) (A D : Option Addr) (n c d : Nat) (zs : List Clay) (L : List (List Int)) (ds : List Int) (M pr : Int) (w : World) (hn : n ≤ 6) (hl : zs.length = n) (hl2 : ds.length = n) (hz : claysOk zs = true) (hp : partsIn ds = true) (hb1 : b0 < g1) (hm0 : m0 ≤ w.heap.size) (hD : Headed D n d)
    (ha : Row Clay.enc 5 w A zs) (hd : Row encI 1 w D ds) (hI : CInv m0 b0 g1 A n c zs L w) (hM : (cheap (priceL zs) L).2 = M) (hpr : priceL zs ds = pr) (h1 : M < 0) :
    Calls Try.prog 41 #[.slice D n d, .pointer (some ⟨b0, 0, none⟩), .pointer (some ⟨g1 + 1, 0, none⟩), .pointer (some ⟨g1, 0, none⟩)] w (Stepped m0 b0 g1 A n c zs (L ++ [ds]) w) := by
  obtain ⟨E, de, hB0, hB1, hB2, hE, hEb, hLs⟩ := hI
  have hpt : totK (valOf 3) zs ds n = pr := by rw [← hpr]; unfold priceL; rw [hl2]
  have c0 : w.cell? ⟨b0, 0, none⟩ = some (.slice A n c) := hB0.cell 0
  have HB0 := hide hB0
  have HB1 := hide hB1
  have HB2 := hide hB2
  have HE := hide hE
  have HEb := hide hEb
  have HLs := hide hLs
  have HM := hide hM
  have HPR := hide hpr
  have HPT := hide hpt
  have HL := hide hl
  have HL2 := hide hl2
  have HA := hide ha
  have HR := hide hd
  clear hB0 hB1 hB2 hE hEb hLs hM hpr hpt hl hl2 ha hd
  go_enter Try.func41, Try.ntmps41
  go_wp2_with fail
  refine (impl_blended 43 (valOf 3) (fun args w => by simp [go_sem]) fn_price (small_valOf 3) _ _ _ _ _ zs ds _ hn HL.out HL2.out HA.out HR.out hz hp).mono ?_
  rintro e w1 ⟨rfl, hw1⟩
  rw [HPT.out]
  have K0 := HB0.out.below hw1 HB0.out.lt
  have K1 := HB1.out.below hw1 HB1.out.lt
  have K2 := HB2.out.below hw1 HB2.out.lt
  have hgl : g1 + 1 < w1.heap.size := K2.lt
  have m2 : w1.cell? ⟨g1 + 1, 0, none⟩ = some (.int .i64 M) := by rw [← HM.out]; exact K2.cell 0
  have k1c : w1.cell? ⟨g1, 0, none⟩ = some (.slice E (cheap (priceL zs) L).1.length de) := K1.cell 0
  have HK0 := hide K0
  have HK1 := hide K1
  have HK2 := hide K2
  have HW1 := hide hw1
  have HR1 := hide (HR.out.below hw1)
  have HE1 := hide (own_below HE.out hw1)
  clear K0 K1 K2 hw1 c0
  go_wp2_with (first
    | (go_at_call 44
       go_must (refine (cloneInt D n d ds _ (by omega) HL2.out hD HR1.out).mono ?_)
       rintro e w2 ⟨D', d', rfl, ho2, -, hw2⟩
       have q1 := HK1.out.below hw2 HK1.out.lt
       have q2 := HK2.out.below hw2 HK2.out.lt
       have HQ0 := hide (HK0.out.below hw2 HK0.out.lt)
       have m3 : w2.cell? ⟨g1 + 1, 0, none⟩ = some (.int .i64 M) := by rw [← HM.out]; exact q2.cell 0
       have m4 : w2.cell? ⟨g1, 0, none⟩ = some (.slice E (cheap (priceL zs) L).1.length de) := q1.cell 0
       have n3 : w2.frozen? ⟨g1 + 1, 0, none⟩ = false := q2.frozen 0
       have n4 : w2.frozen? ⟨g1, 0, none⟩ = false := q1.frozen 0
       have hbk := own_block ho2
       have hs2 := hw2.size
       have HW2 := hide (HW1.out.trans (hw2.mono HW1.out.size))
       have HO2 := hide ho2
       have HBK := hide hbk
       have HQ1 := hide q1
       have HQ2 := hide q2
       clear m2 k1c q1 q2 ho2 hbk hw2))
  have hz1 := HW1.out.size
  go_wp2
  go_end0
  have hkeep : ∀ i : Nat, i ≠ g1 → i ≠ g1 + 1 → ((w2.setCell ⟨g1, 0, none⟩ (.slice D' n d')).setCell ⟨g1 + 1, 0, none⟩ (.int .i64 pr)).heap[i]? = w2.heap[i]? := fun i h1 h2 =>
    (Below.heap_setCell (w2.setCell ⟨g1, 0, none⟩ (.slice D' n d')) ⟨g1 + 1, 0, none⟩ (.int .i64 pr) i h2).trans (Below.heap_setCell w2 ⟨g1, 0, none⟩ (.slice D' n d') i h1)
  refine ⟨rfl, ?_, ((Touch.of_below g1 (g1 + 2) HW2.out).trans (touch_set w2 (Nat.le_refl _) (by omega))).trans (touch_set _ (by omega) (by omega))⟩
  have e : cheap (priceL zs) (L ++ [ds]) = (ds, pr) := by
    rw [cheap_push, cheapStep_yes (by rw [HPR.out, HM.out]; omega), HPR.out]
  have hn2 := HL2.out
  subst hn2
  refine ⟨D', d', (hkeep b0 (by omega) (by omega)).trans HQ0.out, ?_, ?_, ?_, fun a ha => ?_, fun x hx => ?_⟩
  · rw [e]
    exact (HQ1.out.set_ 0 _).far (p := ⟨g1 + 1, 0, none⟩) (by show g1 ≠ g1 + 1; omega) _
  · rw [e]
    exact (HQ2.out.far (p := ⟨g1, 0, none⟩) (by show g1 + 1 ≠ g1; omega) _).set_ 0 _
  · rw [e]
    exact own_keep (own_weak2 HO2.out (by omega)) (fun a ha => hkeep a.block (by have := (HBK.out a ha).2.1; omega) (by have := (HBK.out a ha).2.1; omega))
  · have := (HBK.out a ha).2.1
    omega
  · rcases List.mem_append.1 hx with hx | hx
    · exact HLs.out x hx
    · obtain rfl := List.mem_singleton.1 hx
      exact ⟨hp, rfl⟩
set_option maxRecDepth 100000 in
set_option maxHeartbeats 2000000 in
theorem cheap_less (m0 b0 g1 : Nat) (A D : Option Addr) (n c d : Nat) (zs : List Clay) (L : List (List Int)) (ds : List Int) (M pr : Int) (w : World) (hn : n ≤ 6) (hl : zs.length = n) (hl2 : ds.length = n) (hz : claysOk zs = true) (hp : partsIn ds = true) (hb1 : b0 < g1) (hm0 : m0 ≤ w.heap.size) (hD : Headed D n d)
    (ha : Row Clay.enc 5 w A zs) (hd : Row encI 1 w D ds) (hI : CInv m0 b0 g1 A n c zs L w) (hM : (cheap (priceL zs) L).2 = M) (hpr : priceL zs ds = pr) (h1 : ¬ M < 0) (h2 : pr < M) :
    Calls Try.prog 41 #[.slice D n d, .pointer (some ⟨b0, 0, none⟩), .pointer (some ⟨g1 + 1, 0, none⟩), .pointer (some ⟨g1, 0, none⟩)] w (Stepped m0 b0 g1 A n c zs (L ++ [ds]) w) := by
  obtain ⟨E, de, hB0, hB1, hB2, hE, hEb, hLs⟩ := hI
  have hpt : totK (valOf 3) zs ds n = pr := by rw [← hpr]; unfold priceL; rw [hl2]
  have c0 : w.cell? ⟨b0, 0, none⟩ = some (.slice A n c) := hB0.cell 0
  have HB0 := hide hB0
  have HB1 := hide hB1
  have HB2 := hide hB2
  have HE := hide hE
  have HEb := hide hEb
  have HLs := hide hLs
  have HM := hide hM
  have HPR := hide hpr
  have HPT := hide hpt
  have HL := hide hl
  have HL2 := hide hl2
  have HA := hide ha
  have HR := hide hd
  clear hB0 hB1 hB2 hE hEb hLs hM hpr hpt hl hl2 ha hd
  go_enter Try.func41, Try.ntmps41
  go_wp2_with fail
  refine (impl_blended 43 (valOf 3) (fun args w => by simp [go_sem]) fn_price (small_valOf 3) _ _ _ _ _ zs ds _ hn HL.out HL2.out HA.out HR.out hz hp).mono ?_
  rintro e w1 ⟨rfl, hw1⟩
  rw [HPT.out]
  have K0 := HB0.out.below hw1 HB0.out.lt
  have K1 := HB1.out.below hw1 HB1.out.lt
  have K2 := HB2.out.below hw1 HB2.out.lt
  have hgl : g1 + 1 < w1.heap.size := K2.lt
  have m2 : w1.cell? ⟨g1 + 1, 0, none⟩ = some (.int .i64 M) := by rw [← HM.out]; exact K2.cell 0
  have k1c : w1.cell? ⟨g1, 0, none⟩ = some (.slice E (cheap (priceL zs) L).1.length de) := K1.cell 0
  have HK0 := hide K0
  have HK1 := hide K1
  have HK2 := hide K2
  have HW1 := hide hw1
  have HR1 := hide (HR.out.below hw1)
  have HE1 := hide (own_below HE.out hw1)
  clear K0 K1 K2 hw1 c0
  go_wp2_with (first
    | (go_at_call 44
       go_must (refine (cloneInt D n d ds _ (by omega) HL2.out hD HR1.out).mono ?_)
       rintro e w2 ⟨D', d', rfl, ho2, -, hw2⟩
       have q1 := HK1.out.below hw2 HK1.out.lt
       have q2 := HK2.out.below hw2 HK2.out.lt
       have HQ0 := hide (HK0.out.below hw2 HK0.out.lt)
       have m3 : w2.cell? ⟨g1 + 1, 0, none⟩ = some (.int .i64 M) := by rw [← HM.out]; exact q2.cell 0
       have m4 : w2.cell? ⟨g1, 0, none⟩ = some (.slice E (cheap (priceL zs) L).1.length de) := q1.cell 0
       have n3 : w2.frozen? ⟨g1 + 1, 0, none⟩ = false := q2.frozen 0
       have n4 : w2.frozen? ⟨g1, 0, none⟩ = false := q1.frozen 0
       have hbk := own_block ho2
       have hs2 := hw2.size
       have HW2 := hide (HW1.out.trans (hw2.mono HW1.out.size))
       have HO2 := hide ho2
       have HBK := hide hbk
       have HQ1 := hide q1
       have HQ2 := hide q2
       clear m2 k1c q1 q2 ho2 hbk hw2))
  have hz1 := HW1.out.size
  go_wp2
  go_end0
  have hkeep : ∀ i : Nat, i ≠ g1 → i ≠ g1 + 1 → ((w2.setCell ⟨g1, 0, none⟩ (.slice D' n d')).setCell ⟨g1 + 1, 0, none⟩ (.int .i64 pr)).heap[i]? = w2.heap[i]? := fun i h1 h2 =>
    (Below.heap_setCell (w2.setCell ⟨g1, 0, none⟩ (.slice D' n d')) ⟨g1 + 1, 0, none⟩ (.int .i64 pr) i h2).trans (Below.heap_setCell w2 ⟨g1, 0, none⟩ (.slice D' n d') i h1)
  refine ⟨rfl, ?_, ((Touch.of_below g1 (g1 + 2) HW2.out).trans (touch_set w2 (Nat.le_refl _) (by omega))).trans (touch_set _ (by omega) (by omega))⟩
  have e : cheap (priceL zs) (L ++ [ds]) = (ds, pr) := by
    rw [cheap_push, cheapStep_yes (by rw [HPR.out, HM.out]; omega), HPR.out]
  have hn2 := HL2.out
  subst hn2
  refine ⟨D', d', (hkeep b0 (by omega) (by omega)).trans HQ0.out, ?_, ?_, ?_, fun a ha => ?_, fun x hx => ?_⟩
  · rw [e]
    exact (HQ1.out.set_ 0 _).far (p := ⟨g1 + 1, 0, none⟩) (by show g1 ≠ g1 + 1; omega) _
  · rw [e]
    exact (HQ2.out.far (p := ⟨g1, 0, none⟩) (by show g1 + 1 ≠ g1; omega) _).set_ 0 _
  · rw [e]
    exact own_keep (own_weak2 HO2.out (by omega)) (fun a ha => hkeep a.block (by have := (HBK.out a ha).2.1; omega) (by have := (HBK.out a ha).2.1; omega))
  · have := (HBK.out a ha).2.1
    omega
  · rcases List.mem_append.1 hx with hx | hx
    · exact HLs.out x hx
    · obtain rfl := List.mem_singleton.1 hx
      exact ⟨hp, rfl⟩
set_option maxRecDepth 100000 in
set_option maxHeartbeats 2000000 in
theorem cheap_keep (m0 b0 g1 : Nat) (A D : Option Addr) (n c d : Nat) (zs : List Clay) (L : List (List Int)) (ds : List Int) (M pr : Int) (w : World) (hn : n ≤ 6) (hl : zs.length = n) (hl2 : ds.length = n) (hz : claysOk zs = true) (hp : partsIn ds = true) (hb1 : b0 < g1) (hm0 : m0 ≤ w.heap.size) (hD : Headed D n d)
    (ha : Row Clay.enc 5 w A zs) (hd : Row encI 1 w D ds) (hI : CInv m0 b0 g1 A n c zs L w) (hM : (cheap (priceL zs) L).2 = M) (hpr : priceL zs ds = pr) (h1 : ¬ M < 0) (h2 : ¬ pr < M) :
    Calls Try.prog 41 #[.slice D n d, .pointer (some ⟨b0, 0, none⟩), .pointer (some ⟨g1 + 1, 0, none⟩), .pointer (some ⟨g1, 0, none⟩)] w (Stepped m0 b0 g1 A n c zs (L ++ [ds]) w) := by
  obtain ⟨E, de, hB0, hB1, hB2, hE, hEb, hLs⟩ := hI
  have hpt : totK (valOf 3) zs ds n = pr := by rw [← hpr]; unfold priceL; rw [hl2]
  have c0 : w.cell? ⟨b0, 0, none⟩ = some (.slice A n c) := hB0.cell 0
  have HB0 := hide hB0
  have HB1 := hide hB1
  have HB2 := hide hB2
  have HE := hide hE
  have HEb := hide hEb
  have HLs := hide hLs
  have HM := hide hM
  have HPR := hide hpr
  have HPT := hide hpt
  have HL := hide hl
  have HL2 := hide hl2
  have HA := hide ha
  have HR := hide hd
  clear hB0 hB1 hB2 hE hEb hLs hM hpr hpt hl hl2 ha hd
  go_enter Try.func41, Try.ntmps41
  go_wp2_with fail
  refine (impl_blended 43 (valOf 3) (fun args w => by simp [go_sem]) fn_price (small_valOf 3) _ _ _ _ _ zs ds _ hn HL.out HL2.out HA.out HR.out hz hp).mono ?_
  rintro e w1 ⟨rfl, hw1⟩
  rw [HPT.out]
  have K0 := HB0.out.below hw1 HB0.out.lt
  have K1 := HB1.out.below hw1 HB1.out.lt
  have K2 := HB2.out.below hw1 HB2.out.lt
  have hgl : g1 + 1 < w1.heap.size := K2.lt
  have m2 : w1.cell? ⟨g1 + 1, 0, none⟩ = some (.int .i64 M) := by rw [← HM.out]; exact K2.cell 0
  have k1c : w1.cell? ⟨g1, 0, none⟩ = some (.slice E (cheap (priceL zs) L).1.length de) := K1.cell 0
  have HK0 := hide K0
  have HK1 := hide K1
  have HK2 := hide K2
  have HW1 := hide hw1
  have HR1 := hide (HR.out.below hw1)
  have HE1 := hide (own_below HE.out hw1)
  clear K0 K1 K2 hw1 c0
  go_wp2
  go_end0
  have e : cheap (priceL zs) (L ++ [ds]) = cheap (priceL zs) L := by
    rw [cheap_push, cheapStep_no (by rw [HM.out]; omega) (by rw [HPR.out, HM.out]; omega)]
  refine ⟨rfl, ?_, Touch.of_below g1 (g1 + 2) HW1.out⟩
  have hn2 := HL2.out
  subst hn2
  refine ⟨E, de, HK0.out, by rw [e]; exact HK1.out, by rw [e]; exact HK2.out, by rw [e]; exact HE1.out, HEb.out, fun x hx => ?_⟩
  rcases List.mem_append.1 hx with hx | hx
  · exact HLs.out x hx
  · obtain rfl := List.mem_singleton.1 hx
    exact ⟨hp, rfl⟩
theorem mem_good {zs : List Clay} {l h m s t : Int} (hc : blcode zs l h m s t = 0) {ds : List Int} (hd : ds ∈ allB zs l h m s t) : partsIn ds = true ∧ ds.length = zs.length := by
  unfold allB at hd
  rw [if_pos hc] at hd
  obtain ⟨hz, hx, ht⟩ := blcode_ok hc
  have := goodL_parts (bgood zs l h m s) zs.length [] t.toNat rfl (by omega) ds hd
  simpa using this
set_option maxRecDepth 100000 in
set_option maxHeartbeats 2000000 in
theorem impl_cheapestBlend (K : List Int) (dd : Int) (A : Option Addr) (n c : Nat) (zs : List Clay) (l h m s t : Int) (w : World) (hn : n ≤ 16777216) (hnc : n ≤ c) (hl : zs.length = n) (ha : Row Clay.enc 5 w A zs) (hAb : ∀ a, A = some a → a.block < w.heap.size) (hM : Names zs) (hK : chL zs l h m s t = K) (hD : chC zs l h m s t = dd) :
    Calls Try.prog 7 #[.slice A n c, .int .i64 t, .agg #[.int .i64 l, .int .i64 h, .int .i64 m, .int .i64 s]] w fun e w' => ∃ A' c', e = .returned (.tuple #[.slice A' K.length c', .int .i64 dd]) ∧ Own 2 1 encI w' w.heap.size w'.heap.size A' K.length c' K ∧ Below w.heap.size w w' := by
  have HA := hide ha
  have HL := hide hl
  have HM := hide hM
  have HAb := hide hAb
  have hmf : ∀ (fn : Fn) (first cap : Array Value) (w : World), (Instr.makeFunc fn first cap).run Try.prog w = .ok (.func fn first cap) w := fun _ _ _ _ => rfl
  obtain ⟨w1, hw1⟩ : ∃ u, (w.alloc (.cells #[.slice A n c] 24)).alloc (.cells #[.int .i64 l, .int .i64 h, .int .i64 m, .int .i64 s] 26) = u := ⟨_, rfl⟩
  have hb1 : Below w.heap.size w w1 := by rw [← hw1]; exact ((Below.refl _ _).alloc (Nat.le_refl _) _).alloc (by simp) _
  have hz1 : w1.heap.size = w.heap.size + 2 := by rw [← hw1]; simp
  have k0 : Blk w1 w.heap.size 24 #[.slice A n c] := by rw [← hw1]; exact (Blk.new w 24 #[.slice A n c]).alloc _
  have k1 : LimC w1 (w.heap.size + 1) l h m s := by rw [← hw1]; exact ⟨by simp [go_sem], by simp [go_sem], by simp [go_sem], by simp [go_sem]⟩
  have HB1 := hide hb1
  have HK0 := hide k0
  have HK1 := hide k1
  have HZ1 := hide hz1
  have HW1 := hide hw1
  obtain ⟨cc, hcc⟩ : ∃ cc, blcode zs l h m s t = cc := ⟨_, rfl⟩
  obtain ⟨G, hG⟩ : ∃ G, allB zs l h m s t = G := ⟨_, rfl⟩
  have HCC := hide hcc
  unfold chL at hK
  unfold chC at hD
  rw [hG] at hK hD
  rw [hcc] at hD
  clear ha hl hM hAb hb1 hw1 k0 k1 hz1
  by_cases h0 : cc = 0
  · have hok := blcode_ok (hcc.trans h0)
    have hmem := fun (ds : List Int) (hd : ds ∈ allB zs l h m s t) => mem_good (hcc.trans h0) hd
    rw [hG] at hmem
    subst h0
    rw [if_pos rfl] at hD
    have hn6 : n ≤ 6 := by have := clays_six hok.1; have := HL.out; omega
    have hz := hok.1
    have HX := hide hok.2.1
    obtain ⟨ht1, ht2⟩ := hok.2.2
    have hGl : G = goodL (bgood zs l h m s) n [] t.toNat := by rw [← hG]; unfold allB; rw [if_pos hcc, HL.out]
    have hbig := goodL_six (bgood zs l h m s) hn6 (show t.toNat ≤ 12 by omega)
    rw [← hGl] at hbig
    have HGl := hide hGl
    have hneg : (cheap (priceL zs) G).2 < 0 ↔ G = [] := cheap_neg (fun ds hd => (price_in hz (hmem ds hd).1 ((hmem ds hd).2.trans HL.out) hn6).1)
    obtain ⟨M, hM⟩ : ∃ M, (cheap (priceL zs) G).2 = M := ⟨_, rfl⟩
    have hMb := cheap_bd (p := priceL zs) (L := G) (M := 60000000) (by omega) (fun ds hd => price_in hz (hmem ds hd).1 ((hmem ds hd).2.trans HL.out) hn6)
    rw [hM] at hMb hneg
    obtain ⟨hM0, hM1⟩ := hMb
    have HNEG := hide hneg
    have HMM := hide hM
    have HD := hide hD
    have HKK := hide hK
    clear hok hmem hGl hneg hM hD hK hcc hG
    go_enter Try.func7, Try.ntmps7
    go_wp2_with fail
    rw [HW1.out]
    refine (impl_blendsCode _ _ _ zs l h m s t w1 hn hnc HL.out (HA.out.below HB1.out) HM.out).mono ?_
    rintro e w2 ⟨rfl, hb2⟩
    rw [HCC.out]
    have hz2 : w.heap.size + 2 ≤ w2.heap.size := by have h1 := hb2.size; have h2 := HZ1.out; omega
    have r0 : w2.cell? ⟨w.heap.size, 0, none⟩ = some (.slice A n c) := (hb2.cell (p := ⟨w.heap.size, 0, none⟩) (by have := HZ1.out; show w.heap.size < _; omega)).trans (HK0.out.cell 0)
    have hl2 := HK1.out.below hb2 (by have := HZ1.out; omega)
    obtain ⟨r1, r2, r3, r4⟩ := hl2
    have HB2 := hide (HB1.out.trans (hb2.mono HB1.out.size))
    have HK2 := hide (HK0.out.below hb2 (by have := HZ1.out; omega))
    clear hb2
    obtain ⟨w3, hw3⟩ : ∃ u, ((w2.alloc (.cells #[] 2)).alloc (.cells #[.slice (some ⟨w2.heap.size, 0, none⟩) 0 0] 29)).alloc (.cells #[.int .i64 (-1)] 2) = u := ⟨_, rfl⟩
    have hk3 : Blk w3 (w2.heap.size + 1) 29 #[.slice (some ⟨w2.heap.size, 0, none⟩) 0 0] := by
      rw [← hw3]
      have h1 := Blk.new (w2.alloc (.cells #[] 2)) 29 #[.slice (some ⟨w2.heap.size, 0, none⟩) 0 0]
      rw [show (w2.alloc (.cells #[] 2)).heap.size = w2.heap.size + 1 from by simp] at h1
      exact h1.alloc _
    have hk4 : Blk w3 (w2.heap.size + 1 + 1) 2 #[.int .i64 (-1)] := by
      rw [← hw3]
      have h1 := Blk.new ((w2.alloc (.cells #[] 2)).alloc (.cells #[.slice (some ⟨w2.heap.size, 0, none⟩) 0 0] 29)) 2 #[.int .i64 (-1)]
      rw [show ((w2.alloc (.cells #[] 2)).alloc (.cells #[.slice (some ⟨w2.heap.size, 0, none⟩) 0 0] 29)).heap.size = w2.heap.size + 1 + 1 from by simp] at h1
      exact h1
    have hk5 : Blk w3 w.heap.size 24 #[.slice A n c] := by
      rw [← hw3]
      exact ((HK2.out.alloc _).alloc _).alloc _
    have hk6 : w3.ownsRow w.heap.size 2 1 (.slice (some ⟨w2.heap.size, 0, none⟩) 0 0) 0 (flat encI ([] : List Int)) := by
      rw [← hw3]
      exact ((own_empty w2 w.heap.size 1 2 (by omega)).alloc _).alloc _
    have hz3 : w3.heap.size = w2.heap.size + 3 := by rw [← hw3]; simp
    have hB3 : Below w.heap.size w w3 := by
      rw [← hw3]
      exact ((HB2.out.alloc HB2.out.size _).alloc (by simp; omega) _).alloc (by simp; omega) _
    have hB23 : Below w2.heap.size w2 w3 := by
      rw [← hw3]
      exact (((Below.refl _ _).alloc (Nat.le_refl _) _).alloc (by simp) _).alloc (by simp; omega) _
    have s0 := (hB23.cell (p := ⟨w.heap.size, 0, none⟩) (by show w.heap.size < _; omega)).trans r0
    have s1 := (hB23.cell (p := ⟨w.heap.size + 1, 0, none⟩) (by show w.heap.size + 1 < _; omega)).trans r1
    have s2 := (hB23.cell (p := ⟨w.heap.size + 1, 1, none⟩) (by show w.heap.size + 1 < _; omega)).trans r2
    have s3 := (hB23.cell (p := ⟨w.heap.size + 1, 2, none⟩) (by show w.heap.size + 1 < _; omega)).trans r3
    have s4 := (hB23.cell (p := ⟨w.heap.size + 1, 3, none⟩) (by show w.heap.size + 1 < _; omega)).trans r4
    rw [← hw3] at s0 s1 s2 s3 s4
    have hI3 : CInv w.heap.size w.heap.size (w2.heap.size + 1) A n c zs [] w3 :=
      ⟨some ⟨w2.heap.size, 0, none⟩, 0, hk5, hk3, hk4, hk6, (fun a ha => by obtain rfl := Option.some.inj ha; exact ⟨by show w2.heap.size ≠ w2.heap.size + 1; omega, by show w2.heap.size ≠ w2.heap.size + 1 + 1; omega⟩), (fun d hd => absurd hd (by simp))⟩
    have HI3 := hide hI3
    have HB3 := hide hB3
    have HW3 := hide hw3
    have HZ3 := hide hz3
    have HS3 := hide (show w.heap.size + 2 ≤ w2.heap.size from hz2)
    have HY := hide (show Yields3 41 (.pointer (some ⟨w.heap.size, 0, none⟩)) (.pointer (some ⟨w2.heap.size + 1 + 1, 0, none⟩)) (.pointer (some ⟨w2.heap.size + 1, 0, none⟩)) (w2.heap.size + 1) (w2.heap.size + 1 + 2) n A zs (fun L W => CInv w.heap.size w.heap.size (w2.heap.size + 1) A n c zs L W) 5000000 from by
      refine ⟨fun args W => by simp [go_sem], fun L W W' hs hI hb => hI.below hb, ?_⟩
      intro L ds D d W hs hI hlen hp hds hD hra hrd
      by_cases h1 : (cheap (priceL zs) L).2 < 0
      · exact cheap_neg' w.heap.size w.heap.size (w2.heap.size + 1) A D n c d zs L ds _ _ W hn6 HL.out hds hz hp (by omega) (by omega) hD hra hrd hI rfl rfl h1
      · by_cases h2 : priceL zs ds < (cheap (priceL zs) L).2
        · exact cheap_less w.heap.size w.heap.size (w2.heap.size + 1) A D n c d zs L ds _ _ W hn6 HL.out hds hz hp (by omega) (by omega) hD hra hrd hI rfl rfl h1 h2
        · exact cheap_keep w.heap.size w.heap.size (w2.heap.size + 1) A D n c d zs L ds _ _ W hn6 HL.out hds hz hp (by omega) (by omega) hD hra hrd hI rfl rfl h1 h2)
    clear hk3 hk4 hk5 hk6 hz3 hB3 hB23 hI3 hw3 hz2
    by_cases h1 : M < 0
    · skip
      go_wp2_with (first
        | (go_at_call 40
           go_must (rw [HW3.out])
           go_must (refine (impl_blends3 41 _ _ _ (w2.heap.size + 1) (w2.heap.size + 1 + 2) n c A zs l h m s _ 5000000 HY.out hn6 HL.out hz HX.out (fun a ha => .inl (by have h1 := HAb.out a ha; have h2 := HS3.out; omega)) n [] [] none 0 0 t.toNat t w3 (by omega) rfl (by omega) rfl (by omega) (by have := HZ3.out; omega) (.inl ⟨rfl, rfl, rfl⟩) (fun a ha => by cases ha) (HA.out.below HB3.out) (fun q => by simp at q) HI3.out (by rw [← HGl.out]; simp; omega)).mono ?_)
           rintro e w4 ⟨rfl, hi4, ht4⟩
           rw [List.nil_append, ← HGl.out] at hi4
           obtain ⟨E, de, z0, z1, z2, hE, hEb, hLs⟩ := hi4
           have y2 : w4.cell? ⟨w2.heap.size + 1 + 1, 0, none⟩ = some (.int .i64 M) := by rw [← HMM.out]; exact z2.cell 0
           have y1 : w4.cell? ⟨w2.heap.size + 1, 0, none⟩ = some (.slice E (cheap (priceL zs) G).1.length de) := z1.cell 0
           have HB4 := hide (HB3.out.trans (ht4.below (B := w.heap.size) (by have := HS3.out; omega) (by have := HZ3.out; have := HS3.out; omega)))
           have HE4 := hide hE
           clear ht4 z0 z1 z2 hE hEb hLs))
      have hg0 : G = [] := HNEG.out.1 h1
      have hDD := HD.out
      rw [hg0, if_pos (show ([] : List (List Int)).length = 0 from rfl)] at hDD
      have hKK := HKK.out
      rw [hg0] at hKK
      obtain rfl : K = [] := hKK.symm
      subst hDD
      clear hKK hg0
      go_wp2
      go_ret2
      exact ⟨none, 0, rfl, Own.nil (Nat.le_refl _), HB4.out⟩
    · skip
      go_wp2_with (first
        | (go_at_call 40
           go_must (rw [HW3.out])
           go_must (refine (impl_blends3 41 _ _ _ (w2.heap.size + 1) (w2.heap.size + 1 + 2) n c A zs l h m s _ 5000000 HY.out hn6 HL.out hz HX.out (fun a ha => .inl (by have h1 := HAb.out a ha; have h2 := HS3.out; omega)) n [] [] none 0 0 t.toNat t w3 (by omega) rfl (by omega) rfl (by omega) (by have := HZ3.out; omega) (.inl ⟨rfl, rfl, rfl⟩) (fun a ha => by cases ha) (HA.out.below HB3.out) (fun q => by simp at q) HI3.out (by rw [← HGl.out]; simp; omega)).mono ?_)
           rintro e w4 ⟨rfl, hi4, ht4⟩
           rw [List.nil_append, ← HGl.out] at hi4
           obtain ⟨E, de, z0, z1, z2, hE, hEb, hLs⟩ := hi4
           have y2 : w4.cell? ⟨w2.heap.size + 1 + 1, 0, none⟩ = some (.int .i64 M) := by rw [← HMM.out]; exact z2.cell 0
           have y1 : w4.cell? ⟨w2.heap.size + 1, 0, none⟩ = some (.slice E (cheap (priceL zs) G).1.length de) := z1.cell 0
           have HB4 := hide (HB3.out.trans (ht4.below (B := w.heap.size) (by have := HS3.out; omega) (by have := HZ3.out; have := HS3.out; omega)))
           have HE4 := hide hE
           clear ht4 z0 z1 z2 hE hEb hLs))
      have hg0 : G ≠ [] := fun q => by have := HNEG.out.2 q; omega
      have hDD := HD.out
      rw [if_neg (fun q => hg0 (List.length_eq_zero_iff.1 q))] at hDD
      have hKK := HKK.out
      subst hDD hKK
      clear hg0
      go_wp2
      go_ret2
      exact ⟨E, de, rfl, ⟨rfl, HE4.out, fun a ha => (own_block HE4.out a ha).2.2, Nat.le_refl _⟩, HB4.out⟩
  · have hg0 : G = [] := by rw [← hG]; unfold allB; rw [if_neg (by rw [hcc]; exact h0)]
    subst hg0
    rw [if_neg h0] at hD
    subst hD
    obtain rfl : K = [] := hK.symm
    have d0 : (cc == 0) = false := by simpa using h0
    clear hK hcc hG
    go_enter Try.func7, Try.ntmps7
    go_wp2_with fail
    rw [HW1.out]
    refine (impl_blendsCode _ _ _ zs l h m s t w1 hn hnc HL.out (HA.out.below HB1.out) HM.out).mono ?_
    rintro e w2 ⟨rfl, hb2⟩
    rw [HCC.out]
    have hz2 : w.heap.size + 2 ≤ w2.heap.size := by have h1 := hb2.size; have h2 := HZ1.out; omega
    have r0 : w2.cell? ⟨w.heap.size, 0, none⟩ = some (.slice A n c) := (hb2.cell (p := ⟨w.heap.size, 0, none⟩) (by have := HZ1.out; show w.heap.size < _; omega)).trans (HK0.out.cell 0)
    have hl2 := HK1.out.below hb2 (by have := HZ1.out; omega)
    obtain ⟨r1, r2, r3, r4⟩ := hl2
    have HB2 := hide (HB1.out.trans (hb2.mono HB1.out.size))
    have HK2 := hide (HK0.out.below hb2 (by have := HZ1.out; omega))
    clear hb2
    go_wp2
    go_ret2
    exact ⟨none, 0, rfl, Own.nil (Nat.le_refl _), HB2.out⟩
end Go.Proofs.Ytgobpleckeeheaa
