/-
  What is proved: a list of clays is valid, of the program and of the reference. Conditions: lengths that fit.
-/
import Derived.Test.YtfjdhjbfingofaaGreatDoorClayV
import Derived.Deep.RegionWith
namespace Go.Proofs.YtfjdhjbfingofaaGreatDoor
open Go.RowKit
set_option linter.unusedVariables false

def clayAt (zs : List Clay) (k : Nat) : Bool := match zs[k]? with | some z => z.ok && !(hasName (zs.take k) z.n) | none => true
def claysOk (zs : List Clay) : Bool := decide (zs.length ≤ 6) && (List.range zs.length).all (clayAt zs)
theorem clayAt_is {zs : List Clay} {k : Nat} {z : Clay} (h : zs[k]? = some z) : clayAt zs k = (z.ok && !(hasName (zs.take k) z.n)) := by
  unfold clayAt
  rw [h]
theorem claysOk_no {zs : List Clay} {k : Nat} (hk : k < zs.length) (h : clayAt zs k = false) : claysOk zs = false := by
  unfold claysOk
  rw [Bool.and_eq_false_iff]
  right
  rw [List.all_eq_false]
  exact ⟨k, List.mem_range.2 hk, by simp [h]⟩
theorem claysOk_yes {zs : List Clay} (h : ∀ k, k < zs.length → clayAt zs k = true) : claysOk zs = decide (zs.length ≤ 6) := by
  unfold claysOk
  rw [List.all_eq_true.2 (fun k hk => h k (List.mem_range.1 hk)), Bool.and_true]
theorem clay_at {zs : List Clay} {k : Nat} {z : Clay} (h : claysOk zs = true) (hz : zs[k]? = some z) : z.Ok := by
  unfold claysOk at h
  rw [Bool.and_eq_true, List.all_eq_true] at h
  have h2 := h.2 k (List.mem_range.2 (List.getElem?_eq_some_iff.1 hz).1)
  rw [clayAt_is hz, Bool.and_eq_true] at h2
  exact of_decide_eq_true h2.1
theorem clays_six {zs : List Clay} (h : claysOk zs = true) : zs.length ≤ 6 := by
  unfold claysOk at h
  rw [Bool.and_eq_true] at h
  exact of_decide_eq_true h.1
/-- The names fit in memory. -/
def Names (zs : List Clay) : Prop := ∀ (k : Nat) (z : Clay), zs[k]? = some z → z.n.size ≤ maxLen
theorem own_cap {α : Type} {t : TypeId} {k : Nat} {enc : α → List Value} {w : World} {lo hi n c : Nat} {A : Option Addr} {xs : List α} (h : Own t k enc w lo hi A n c xs) : n ≤ c := by
  rcases h.own.2 with ⟨h1, h2⟩ | ⟨g, cap, cur, h1, -, -, h2, -⟩
  · omega
  · cases h1
    exact h2
theorem names_of {w : World} {A : Option Addr} {n c : Nat} {zs : List Clay} (h : ArgRow Clay.enc Clay.Wf 5 w A n c zs) : Names zs := fun k z hz => (h.2.2.2.1 z (List.mem_of_getElem? hz)).1
set_option maxRecDepth 100000 in
set_option maxHeartbeats 1000000 in
theorem impl_validClays (A : Option Addr) (n c : Nat) (zs : List Clay) (w : World) (hn : n ≤ 16777216) (hnc : n ≤ c) (hl : zs.length = n) (h : Row Clay.enc 5 w A zs) (hm : Names zs) :
    Calls Tryz.prog 27 #[.slice A n c] w fun e w' => e = .returned (.bool (claysOk zs)) ∧ Below w.heap.size w w' := by
  have HA := hide h
  have HL := hide hl
  have HM := hide hm
  have hnm : n ≤ 9223372036854775807 := by omega
  clear h hl hm
  go_enter Tryz.func27, Tryz.ntmps27
  go_wp2
  go_loopw [7] (fun i wr => ∃ k : Nat, k ≤ n ∧ i = .int .i64 k ∧ Hid (∀ j, j < k → clayAt zs j = true) ∧ Hid (Below w.heap.size w wr)) (fun i _ => n - (intOf i).toNat)
  case atStart => exact ⟨0, by omega, rfl, hide (fun j hj => absurd hj (by omega)), hide (Below.refl _ _)⟩
  case round =>
    obtain ⟨k, hk, rfl, HS, HB⟩ := hrel
    by_cases hlt : k < n
    · obtain ⟨⟨x0, x1, x2, x3, x4⟩, hzk⟩ : ∃ z, zs[k]? = some z := ⟨zs[k]'(by have := HL.out; omega), List.getElem?_eq_getElem (by have := HL.out; omega)⟩
      obtain ⟨b, off, rfl, hb, a0, a1, a2, a3, a4⟩ := row_at_5 (HA.out.below HB.out) hzk rfl
      have hsz : x0.size ≤ maxLen := HM.out k _ hzk
      have HZ := hide (clayAt_is hzk)
      clear hzk
      have hki : (k : Int) < (n : Int) := by omega
      have HBe := hide (HB.out.alloc HB.out.size (.cells #[.string x0, .int .i64 x1, .int .i64 x2, .int .i64 x3, .int .i64 x4] 35))
      have HT := hide (show (zs.take k).length = k from by rw [List.length_take, HL.out]; omega)
      by_cases hok : Clay.ok ⟨x0, x1, x2, x3, x4⟩ = true
      · by_cases hh : hasName (zs.take k) x0 = true
        · have HN := hide (claysOk_no (by rw [HL.out]; exact hlt) (by rw [HZ.out]; simp [hok, hh]))
          go_wp2
          go_region_with (first
            | (go_at_call 45
               refine (impl_isClay x0 x1 x2 x3 x4 _ hsz).mono ?_
               rintro e v1 ⟨rfl, hb1⟩
               rw [hok]
               have HB1 := hide (HBe.out.drew.trans (hb1.mono HBe.out.size))
               have m0 := (hb1.cell (p := ⟨wr.heap.size, 0, none⟩) (by simp)).trans (show _ = some (.string x0) from by simp [go_sem])
               clear hb1)
            | (go_at_call 46
               refine (impl_hasClay _ _ _ (zs.take k) x0 _ (by omega) HT.out ((HA.out.below HB1.out).take k)).mono ?_
               rintro e v2 ⟨rfl, hb2⟩
               rw [hh]
               have HB2 := hide (HB1.out.trans (hb2.mono HB1.out.size))
               clear hb2))
          all_goals
            clear hok hh
            go_wp2
            go_ret
            exact ⟨by rw [HN.out]; rfl, HB2.out⟩
        · have hh' : hasName (zs.take k) x0 = false := by simpa using hh
          have HS' := hide (show ∀ j, j < k + 1 → clayAt zs j = true from fun j hj => by
            rcases Nat.lt_or_ge j k with h1 | h1
            · exact HS.out j h1
            · obtain rfl : j = k := by omega
              rw [HZ.out]
              simp [hok, hh'])
          go_wp2
          go_region_with (first
            | (go_at_call 45
               refine (impl_isClay x0 x1 x2 x3 x4 _ hsz).mono ?_
               rintro e v1 ⟨rfl, hb1⟩
               rw [hok]
               have HB1 := hide (HBe.out.drew.trans (hb1.mono HBe.out.size))
               have m0 := (hb1.cell (p := ⟨wr.heap.size, 0, none⟩) (by simp)).trans (show _ = some (.string x0) from by simp [go_sem])
               clear hb1)
            | (go_at_call 46
               refine (impl_hasClay _ _ _ (zs.take k) x0 _ (by omega) HT.out ((HA.out.below HB1.out).take k)).mono ?_
               rintro e v2 ⟨rfl, hb2⟩
               rw [hh']
               have HB2 := hide (HB1.out.trans (hb2.mono HB1.out.size))
               clear hb2))
          all_goals
            clear hok hh hh'
            go_wp2
            go_roundw
            case rel => exact ⟨k + 1, by omega, by go_num, HS', HB2⟩
            case measure => simp [intOf]; omega
      · have hok' : Clay.ok ⟨x0, x1, x2, x3, x4⟩ = false := by simpa using hok
        have HN := hide (claysOk_no (by rw [HL.out]; exact hlt) (by rw [HZ.out]; simp [hok']))
        go_wp2
        first
          | go_region_with (go_at_call 45
                            refine (impl_isClay x0 x1 x2 x3 x4 _ hsz).mono ?_
                            rintro e v1 ⟨rfl, hb1⟩
                            rw [hok']
                            have HB1 := hide (HBe.out.drew.trans (hb1.mono HBe.out.size))
                            clear hb1)
          | fail
        all_goals
          clear hok hok'
          go_wp2
          go_ret
          exact ⟨by rw [HN.out]; rfl, HB1.out⟩
    · obtain rfl : k = n := by omega
      have HN := hide (claysOk_yes (zs := zs) (fun j hj => HS.out j (by rw [← HL.out]; exact hj)))
      have HD := hide (show decide ((k : Int) ≤ 6) = claysOk zs from by rw [HN.out, HL.out]; exact decide_eq_decide.2 (by omega))
      go_wp2
      go_ret
      exact ⟨ret_bool HD.out, HB.out⟩
set_option maxRecDepth 100000 in
set_option maxHeartbeats 1000000 in
theorem spec_l03Ok (A : Option Addr) (n c : Nat) (zs : List Clay) (w : World) (hn : n ≤ 16777216) (hl : zs.length = n) (h : Row Clay.enc 5 w A zs) (hm : Names zs) :
    Calls Tryz.prog 48 #[.slice A n c] w fun e w' => e = .returned (.bool (claysOk zs)) ∧ Below w.heap.size w w' := by
  have HA := hide h
  have HL := hide hl
  have HM := hide hm
  have hnm : n ≤ 9223372036854775807 := by omega
  clear h hl hm
  go_enter Tryz.func48, Tryz.ntmps48
  go_wp2
  go_loopw [3] (fun i wr => ∃ k : Nat, k ≤ n ∧ i = .int .i64 k ∧ Hid (∀ j, j < k → clayAt zs j = true) ∧ Hid (Below w.heap.size w wr)) (fun i _ => n - (intOf i).toNat)
  case atStart => exact ⟨0, by omega, rfl, hide (fun j hj => absurd hj (by omega)), hide (Below.refl _ _)⟩
  case round =>
    obtain ⟨k, hk, rfl, HS, HB⟩ := hrel
    by_cases hlt : k < n
    · obtain ⟨⟨x0, x1, x2, x3, x4⟩, hzk⟩ : ∃ z, zs[k]? = some z := ⟨zs[k]'(by have := HL.out; omega), List.getElem?_eq_getElem (by have := HL.out; omega)⟩
      obtain ⟨b, off, rfl, hb, a0, a1, a2, a3, a4⟩ := row_at_5 (HA.out.below HB.out) hzk rfl
      have hsz : x0.size ≤ maxLen := HM.out k _ hzk
      have HZ := hide (clayAt_is hzk)
      clear hzk
      have hki : (k : Int) < (n : Int) := by omega
      have HT := hide (show (zs.take k).length = k from by rw [List.length_take, HL.out]; omega)
      by_cases hok : Clay.ok ⟨x0, x1, x2, x3, x4⟩ = true
      · go_wp2_with fail
        refine (spec_isClay x0 x1 x2 x3 x4 _ _ _ hsz a0 a1 a2 a3 a4).mono ?_
        rintro e v1 ⟨rfl, rfl⟩
        rw [hok]
        have HO := hide hok
        clear hok a1 a2 a3 a4
        go_wp2
        go_loopw [4] (fun i wi => ∃ j : Nat, j ≤ k ∧ i = .int .i64 j ∧ Hid (∀ (q : Nat) (x : Clay), q < j → (zs.take k)[q]? = some x → (x.n.toList == x0.toList) = false) ∧ Hid (Below w.heap.size w wi) ∧ wi.cell? ⟨b, off + k * 5, none⟩ = some (.string x0)) (fun i _ => k - (intOf i).toNat)
        case atStart => exact ⟨0, by omega, rfl, hide (fun q x hq => absurd hq (by omega)), HB, a0⟩
        case round =>
          clear HB a0 hb
          obtain ⟨j, hj, rfl, HQ, HB, a0⟩ := hrel
          by_cases hjk : j < k
          · obtain ⟨⟨y0, y1, y2, y3, y4⟩, hyk⟩ : ∃ z, zs[j]? = some z := ⟨zs[j]'(by have := HL.out; omega), List.getElem?_eq_getElem (by have := HL.out; omega)⟩
            obtain ⟨b', off', heq, hb', c0, c1, c2, c3, c4⟩ := row_at_5 (HA.out.below HB.out) hyk rfl
            cases heq
            have HY := hide (show (zs.take k)[j]? = some ⟨y0, y1, y2, y3, y4⟩ from by rw [List.getElem?_take, if_pos hjk, hyk])
            clear hyk
            have hji : (j : Int) < (k : Int) := by omega
            have hjn : (j : Int) < (n : Int) := by omega
            by_cases he : (y0.toList == x0.toList) = true
            · have HN := hide (claysOk_no (by rw [HL.out]; exact hlt) (by rw [HZ.out]; simp [hasName, any_some (f := fun z : Clay => z.n.toList == x0.toList) HY.out he]))
              go_wp2
              go_quiet (fail)
              go_wp2
              go_ret
              exact ⟨by rw [HN.out]; rfl, below_drewN HB.out _⟩
            · have he' : (y0.toList == x0.toList) = false := by simpa using he
              have HQ' := hide (any_more (f := fun z : Clay => z.n.toList == x0.toList) HQ.out HY.out he')
              clear he
              go_wp2
              go_quiet (fail)
              go_wp2
              go_roundw
              case rel => exact ⟨j + 1, by omega, by go_num, HQ', hide (below_drewN HB.out _), a0⟩
              case measure => simp [intOf]; omega
          · obtain rfl : j = k := by omega
            have HN := hide (any_none (f := fun z : Clay => z.n.toList == x0.toList) (zs := zs.take j) (fun q x hx => HQ.out q x (by have := (List.getElem?_eq_some_iff.1 hx).1; have := HT.out; omega) hx))
            have HS' := hide (show ∀ q, q < j + 1 → clayAt zs q = true from fun q hq => by
              rcases Nat.lt_or_ge q j with h1 | h1
              · exact HS.out q h1
              · obtain rfl : q = j := by omega
                rw [HZ.out]
                simp [HO.out, hasName, HN.out])
            go_wp2
            go_roundw
            case rel => exact ⟨j + 1, by omega, by go_num, HS', HB⟩
            case measure => simp [intOf]; omega
      · have hok' : Clay.ok ⟨x0, x1, x2, x3, x4⟩ = false := by simpa using hok
        have HN := hide (claysOk_no (by rw [HL.out]; exact hlt) (by rw [HZ.out]; simp [hok']))
        clear hok
        go_wp2_with fail
        refine (spec_isClay x0 x1 x2 x3 x4 _ _ _ hsz a0 a1 a2 a3 a4).mono ?_
        rintro e v1 ⟨rfl, rfl⟩
        rw [hok']
        clear hok'
        go_wp2
        go_ret
        exact ⟨by rw [HN.out]; rfl, HB.out⟩
    · obtain rfl : k = n := by omega
      have HN := hide (claysOk_yes (zs := zs) (fun j hj => HS.out j (by rw [← HL.out]; exact hj)))
      have HD := hide (show decide ((k : Int) ≤ 6) = claysOk zs from by rw [HN.out, HL.out]; exact decide_eq_decide.2 (by omega))
      go_wp2
      go_ret
      exact ⟨ret_bool HD.out, HB.out⟩
theorem spec_validClays (A : Option Addr) (n c : Nat) (zs : List Clay) (w : World) (hn : n ≤ 16777216) (hl : zs.length = n) (h : Row Clay.enc 5 w A zs) (hm : Names zs) :
    Calls Tryz.prog 28 #[.slice A n c] w fun e w' => e = .returned (.bool (claysOk zs)) ∧ Below w.heap.size w w' := by
  have HA := hide h
  have HL := hide hl
  have HM := hide hm
  clear h hl hm
  go_enter Tryz.func28, Tryz.ntmps28
  go_wp2_with fail
  refine (spec_l03Ok _ _ _ zs _ hn HL.out HA.out HM.out).mono ?_
  rintro e w1 ⟨rfl, hb1⟩
  have HB1 := hide hb1
  clear hb1
  go_wp2
  go_ret
  exact ⟨rfl, HB1.out⟩
end Go.Proofs.YtfjdhjbfingofaaGreatDoor
