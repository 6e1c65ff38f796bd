/-
  What is proved: the sum of values of clays, times their parts, of the program and of the reference. Conditions: valid clays and parts.
-/
import Derived.Test.YtfjdhjbfingofaaGreatDoorParts2
import Derived.Deep.RegionWith
namespace Go.Proofs.YtfjdhjbfingofaaGreatDoor
open Go.RowKit
set_option linter.unusedVariables false

def valAt (val : Clay → Int) (zs : List Clay) (k : Nat) : Int := match zs[k]? with | some z => val z | none => 0
theorem valAt_is {val : Clay → Int} {zs : List Clay} {k : Nat} {z : Clay} (h : zs[k]? = some z) : valAt val zs k = val z := by
  unfold valAt
  rw [h]
def totK (val : Clay → Int) (zs : List Clay) (ps : List Int) : Nat → Int
  | 0 => 0
  | k + 1 => totK val zs ps k + ps.getD k 0 * valAt val zs k
theorem totK_succ (val : Clay → Int) (zs : List Clay) (ps : List Int) (k : Nat) : totK val zs ps (k + 1) = totK val zs ps k + ps.getD k 0 * valAt val zs k := rfl
/-- A value of a clay that is never great. -/
def SmallV (val : Clay → Int) : Prop := ∀ z : Clay, z.Ok → 0 ≤ val z ∧ val z ≤ 10000
theorem mul_in {a b : Int} (ha : 0 ≤ a ∧ a ≤ 1000) (hb : 0 ≤ b ∧ b ≤ 10000) : 0 ≤ a * b ∧ a * b ≤ 10000000 :=
  ⟨Int.mul_nonneg ha.1 hb.1, Int.le_trans (Int.mul_le_mul ha.2 hb.2 hb.1 (by omega)) (by omega)⟩
theorem valAt_in {val : Clay → Int} {zs : List Clay} (hv : SmallV val) (hz : claysOk zs = true) (k : Nat) : 0 ≤ valAt val zs k ∧ valAt val zs k ≤ 10000 := by
  unfold valAt
  split
  · rename_i z hk
    exact hv z (clay_at hz hk)
  · exact ⟨Int.le_refl _, by decide⟩
theorem totK_in {val : Clay → Int} {zs : List Clay} {ps : List Int} (hv : SmallV val) (hz : claysOk zs = true) (hp : partsIn ps = true) (k : Nat) : 0 ≤ totK val zs ps k ∧ totK val zs ps k ≤ 10000000 * k := by
  induction k with
  | zero => exact ⟨Int.le_refl _, Int.le_refl _⟩
  | succ k ih =>
    have := mul_in (part_in hp k) (valAt_in hv hz k)
    rw [totK_succ]
    omega
set_option maxRecDepth 100000 in
set_option maxHeartbeats 1000000 in
theorem impl_blended (F : Nat) (val : Clay → Int) (he : ∀ (args : Array Value) (w : World), (callFunc F args).run Tryz.prog w = .ok (.enter F args) w) (hF : ∀ (x0 : ByteArray) (x1 x2 x3 x4 : Int) (w : World), Calls Tryz.prog F #[.agg #[.string x0, .int .i64 x1, .int .i64 x2, .int .i64 x3, .int .i64 x4]] w fun e w' => e = .returned (.int .i64 (val ⟨x0, x1, x2, x3, x4⟩)) ∧ Below w.heap.size w w') (hv : SmallV val)
    (A B : Option Addr) (n c d : Nat) (zs : List Clay) (ps : List Int) (w : World) (hn : n ≤ 6) (hl : zs.length = n) (hl2 : ps.length = n) (ha : Row Clay.enc 5 w A zs) (hb : Row encI 1 w B ps) (hz : claysOk zs = true) (hp : partsIn ps = true) :
    Calls Tryz.prog 63 #[.slice A n c, .slice B n d, .func (.func F) #[] #[]] w fun e w' => e = .returned (.int .i64 (totK val zs ps n)) ∧ Below w.heap.size w w' := by
  have HA := hide ha
  have HB := hide hb
  have HL := hide hl
  have HL2 := hide hl2
  clear ha hb hl hl2
  go_enter Tryz.func63, Tryz.ntmps63
  go_wp2
  go_loopw [7, 12] (fun s i wr => ∃ k : Nat, k ≤ n ∧ i = .int .i64 k ∧ s = .int .i64 (totK val zs ps k) ∧ Hid (Below w.heap.size w wr)) (fun _ i _ => n - (intOf i).toNat)
  case atStart => exact ⟨0, by omega, rfl, rfl, hide (Below.refl _ _)⟩
  case round =>
    obtain ⟨k, hk, rfl, rfl, HW⟩ := hrel
    by_cases hlt : k < n
    · obtain ⟨⟨x0, x1, x2, x3, x4⟩, hzk⟩ : ∃ z, zs[k]? = some z := ⟨zs[k]'(by have := HL.out; omega), List.getElem?_eq_getElem (by have := HL.out; omega)⟩
      obtain ⟨p, hpk⟩ : ∃ z, ps[k]? = some z := ⟨ps[k]'(by have := HL2.out; omega), List.getElem?_eq_getElem (by have := HL2.out; omega)⟩
      obtain ⟨b, off, rfl, hb, a0, a1, a2, a3, a4⟩ := row_at_5 (HA.out.below HW.out) hzk rfl
      obtain ⟨b', off', rfl, hb', c0⟩ := row_at_1 (HB.out.below HW.out) hpk rfl
      have HK := hide (show totK val zs ps (k + 1) = totK val zs ps k + p * val ⟨x0, x1, x2, x3, x4⟩ from by rw [totK_succ, getD_is hpk, valAt_is hzk])
      have ht := totK_in hv hz hp k
      have hm := mul_in (part_in hp k) (valAt_in hv hz k)
      rw [getD_is hpk, valAt_is hzk] at hm
      have HBe := hide (HW.out.alloc HW.out.size (.cells #[.string x0, .int .i64 x1, .int .i64 x2, .int .i64 x3, .int .i64 x4] 35))
      have c1 := (World.cell?_alloc_lt wr (.cells #[.string x0, .int .i64 x1, .int .i64 x2, .int .i64 x3, .int .i64 x4] 35) ⟨b', off' + k, none⟩ hb').trans c0
      clear hzk hpk
      have hki : (k : Int) < (n : Int) := by omega
      generalize totK val zs ps k = S at *
      have hf := hF x0 x1 x2 x3 x4
      generalize val ⟨x0, x1, x2, x3, x4⟩ = V at *
      have hw1 := Go.IntWalk.i64_in (p * V) ⟨by omega, by omega⟩
      have hw2 := Go.IntWalk.i64_in (S + p * V) ⟨by omega, by omega⟩
      have HF := hide hf
      clear hf
      go_wp2
      go_region_with (refine (HF.out _).mono ?_
                      rintro e v1 ⟨rfl, hb1⟩
                      have HB1 := hide (HBe.out.drew.trans (hb1.mono HBe.out.size))
                      have c2 := (hb1.cell (p := ⟨b', off' + k, none⟩) (by simp <;> omega)).trans c1
                      clear hb1)
      all_goals
        go_wp2
        go_roundw
        case rel => exact ⟨k + 1, by omega, by go_num, by rw [HK.out], HB1⟩
        case measure => simp [intOf]; omega
    · obtain rfl : k = n := by omega
      go_wp2
      go_ret
      exact ⟨rfl, HW.out⟩
set_option maxRecDepth 100000 in
set_option maxHeartbeats 1000000 in
theorem spec_l03Of (k : Nat) (hk : k < 4) (g off : Nat) (x0 : ByteArray) (x1 x2 x3 x4 : Int) (w : World) (hc0 : w.cell? ⟨g, off, none⟩ = some (.string x0)) (hc1 : w.cell? ⟨g, off + 1, none⟩ = some (.int .i64 x1)) (hc2 : w.cell? ⟨g, off + 2, none⟩ = some (.int .i64 x2)) (hc3 : w.cell? ⟨g, off + 3, none⟩ = some (.int .i64 x3)) (hc4 : w.cell? ⟨g, off + 4, none⟩ = some (.int .i64 x4)) :
    Calls Tryz.prog 83 #[.pointer (some ⟨g, off, none⟩), .int .i64 k] w fun e w' => e = .returned (.int .i64 (if k = 0 then x1 else if k = 1 then x2 else if k = 2 then x3 else x4)) ∧ w = w' := by
  match k, hk with
  | 0, _ =>
    go_enter Tryz.func83, Tryz.ntmps83
    go_wp2
    go_ret
    exact ⟨rfl, rfl⟩
  | 1, _ =>
    go_enter Tryz.func83, Tryz.ntmps83
    go_wp2
    go_ret
    exact ⟨rfl, rfl⟩
  | 2, _ =>
    go_enter Tryz.func83, Tryz.ntmps83
    go_wp2
    go_ret
    exact ⟨rfl, rfl⟩
  | 3, _ =>
    go_enter Tryz.func83, Tryz.ntmps83
    go_wp2
    go_ret
    exact ⟨rfl, rfl⟩
def valOf (k : Nat) (z : Clay) : Int := if k = 0 then z.s else if k = 1 then z.l else if k = 2 then z.d else z.p
theorem small_valOf (k : Nat) : SmallV (valOf k) := fun z hz => by
  obtain ⟨-, h1, h2, h3, h4⟩ := hz
  unfold valOf
  split
  · omega
  · split
    · omega
    · split
      · omega
      · omega
set_option maxRecDepth 100000 in
set_option maxHeartbeats 1000000 in
theorem spec_l03Total (q : Nat) (hq : q < 4) (A B : Option Addr) (n c d : Nat) (zs : List Clay) (ps : List Int) (w : World) (hn : n ≤ 6) (hl : zs.length = n) (hl2 : ps.length = n) (ha : Row Clay.enc 5 w A zs) (hb : Row encI 1 w B ps) (hz : claysOk zs = true) (hp : partsIn ps = true) :
    Calls Tryz.prog 65 #[.slice A n c, .slice B n d, .int .i64 q] w fun e w' => e = .returned (.int .i64 (totK (valOf q) zs ps n)) ∧ Below w.heap.size w w' := by
  have HA := hide ha
  have HB := hide hb
  have HL := hide hl
  have HL2 := hide hl2
  clear ha hb hl hl2
  go_enter Tryz.func65, Tryz.ntmps65
  go_wp2
  go_loopw [7, 8] (fun s i wr => ∃ k : Nat, k ≤ n ∧ i = .int .i64 k ∧ s = .int .i64 (totK (valOf q) zs ps k) ∧ Hid (Below w.heap.size w wr)) (fun _ i _ => n - (intOf i).toNat)
  case atStart => exact ⟨0, by omega, rfl, rfl, hide (Below.refl _ _)⟩
  case round =>
    obtain ⟨k, hk, rfl, rfl, HW⟩ := hrel
    by_cases hlt : k < n
    · obtain ⟨⟨x0, x1, x2, x3, x4⟩, hzk⟩ : ∃ z, zs[k]? = some z := ⟨zs[k]'(by have := HL.out; omega), List.getElem?_eq_getElem (by have := HL.out; omega)⟩
      obtain ⟨p, hpk⟩ : ∃ z, ps[k]? = some z := ⟨ps[k]'(by have := HL2.out; omega), List.getElem?_eq_getElem (by have := HL2.out; omega)⟩
      obtain ⟨b, off, rfl, hb, a0, a1, a2, a3, a4⟩ := row_at_5 (HA.out.below HW.out) hzk rfl
      obtain ⟨b', off', rfl, hb', c0⟩ := row_at_1 (HB.out.below HW.out) hpk rfl
      have HK := hide (show totK (valOf q) zs ps (k + 1) = totK (valOf q) zs ps k + p * valOf q ⟨x0, x1, x2, x3, x4⟩ from by rw [totK_succ, getD_is hpk, valAt_is hzk])
      have ht := totK_in (small_valOf q) hz hp k
      have hm := mul_in (part_in hp k) (valAt_in (small_valOf q) hz k)
      rw [getD_is hpk, valAt_is hzk] at hm
      clear hzk hpk
      have hki : (k : Int) < (n : Int) := by omega
      have hf := spec_l03Of q hq b (off + k * 5) x0 x1 x2 x3 x4 wr.drew a0 a1 a2 a3 a4
      rw [show (if q = 0 then x1 else if q = 1 then x2 else if q = 2 then x3 else x4) = valOf q ⟨x0, x1, x2, x3, x4⟩ from rfl] at hf
      generalize totK (valOf q) zs ps k = S at *
      generalize valOf q ⟨x0, x1, x2, x3, x4⟩ = V at *
      rw [Int.mul_comm] at hm
      have HK' := hide (HK.out.trans (by rw [Int.mul_comm]))
      have hw1 := Go.IntWalk.i64_in (V * p) ⟨by omega, by omega⟩
      have hw2 := Go.IntWalk.i64_in (S + V * p) ⟨by omega, by omega⟩
      have HF := hide hf
      clear hf
      go_wp2
      go_region_with (go_at_call 83
                      refine HF.out.mono ?_
                      rintro e v1 ⟨rfl, rfl⟩)
      all_goals
        go_wp2
        go_roundw
        case rel => exact ⟨k + 1, by omega, by go_num, by rw [HK'.out], hide (below_drewN HW.out 1)⟩
        case measure => simp [intOf]; omega
    · obtain rfl : k = n := by omega
      go_wp2
      go_ret
      exact ⟨rfl, HW.out⟩
end Go.Proofs.YtfjdhjbfingofaaGreatDoor
