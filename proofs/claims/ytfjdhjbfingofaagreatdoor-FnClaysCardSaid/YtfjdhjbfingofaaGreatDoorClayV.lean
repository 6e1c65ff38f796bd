/-
  What is proved: a list of clays is valid, of the program and of the reference. Conditions: lengths that fit.
-/
import Derived.Test.YtfjdhjbfingofaaGreatDoorClayOk
import Derived.Test.YtfjdhjbfingofaaGreatDoorJoinD
namespace Go.Proofs.YtfjdhjbfingofaaGreatDoor
open Go.RowKit
set_option linter.unusedVariables false

theorem Row.take {α : Type} {enc : α → List Value} {k : Nat} {w : World} {A : Option Addr} {xs : List α} (m : Nat) (h : Row enc k w A xs) : Row enc k w A (xs.take m) := fun hn => by
  obtain ⟨b, off, e, hb, hc⟩ := h (by rw [List.length_take] at hn; omega)
  refine ⟨b, off, e, hb, fun i x hx => hc i x ?_⟩
  rw [List.getElem?_take] at hx
  split at hx
  · exact hx
  · cases hx
def hasName (zs : List Clay) (nm : ByteArray) : Bool := zs.any fun z => z.n.toList == nm.toList
theorem any_more {α : Type} {f : α → Bool} {zs : List α} {k : Nat} {x : α} (h : ∀ (j : Nat) (x : α), j < k → zs[j]? = some x → f x = false) (hz : zs[k]? = some x) (hx : f x = false) : ∀ (j : Nat) (x : α), j < k + 1 → zs[j]? = some x → f x = false := fun j y hj hy => by
  rcases Nat.lt_or_ge j k with h1 | h1
  · exact h j y h1 hy
  · obtain rfl : j = k := by omega
    rw [hz] at hy
    obtain rfl := Option.some.inj hy
    exact hx
theorem any_none {α : Type} {f : α → Bool} {zs : List α} (h : ∀ (j : Nat) (x : α), zs[j]? = some x → f x = false) : zs.any f = false := by
  rw [List.any_eq_false]
  intro x hx
  obtain ⟨j, hj⟩ := List.getElem?_of_mem hx
  simp [h j x hj]
theorem any_some {α : Type} {f : α → Bool} {zs : List α} {k : Nat} {x : α} (hz : zs[k]? = some x) (hx : f x = true) : zs.any f = true :=
  List.any_eq_true.2 ⟨x, List.mem_of_getElem? hz, hx⟩
theorem impl_hasClay1 (x0 : ByteArray) (x1 x2 x3 x4 : Int) (nm : ByteArray) (g : Nat) (w : World) (hg : g < w.heap.size) (hc : w.cell? ⟨g, 0, none⟩ = some (.string nm)) :
    Calls Tryz.prog 71 #[.agg #[.string x0, .int .i64 x1, .int .i64 x2, .int .i64 x3, .int .i64 x4], .pointer (some ⟨g, 0, none⟩)] w fun e w' => e = .returned (.bool (x0.toList == nm.toList)) ∧ Below w.heap.size w w' := by
  go_enter Tryz.func71, Tryz.ntmps71
  have hcc := (World.cell?_alloc_lt w (.cells #[.string x0, .int .i64 x1, .int .i64 x2, .int .i64 x3, .int .i64 x4] 35) ⟨g, 0, none⟩ hg).trans hc
  go_wp2
  go_ret
  exact ⟨rfl, by go_grown⟩
set_option maxHeartbeats 1000000 in
theorem indexClay (A : Option Addr) (n c : Nat) (zs : List Clay) (nm : ByteArray) (g : Nat) (w : World) (hn : n ≤ 16777216) (hl : zs.length = n) (h : Row Clay.enc 5 w A zs) (hg : g < w.heap.size) (hc : w.cell? ⟨g, 0, none⟩ = some (.string nm)) :
    Calls Tryz.prog 86 #[.slice A n c, .func (.func 71) #[] #[.pointer (some ⟨g, 0, none⟩)]] w fun e w' => (∃ v : Int, e = .returned (.int .i64 v) ∧ decide (0 ≤ v) = hasName zs nm) ∧ Below w.heap.size w w' := by
  have HA := hide h
  have HL := hide hl
  have hnm : n ≤ 9223372036854775807 := by omega
  clear h hl
  unfold hasName
  go_enter Tryz.func86, Tryz.ntmps86
  go_wp2
  go_loopw [8] (fun i wr => ∃ k : Nat, k ≤ n ∧ i = .int .i64 k ∧ Hid (∀ j (x : Clay), j < k → zs[j]? = some x → (x.n.toList == nm.toList) = false) ∧ Hid (Below w.heap.size w wr)) (fun i _ => n - (intOf i).toNat)
  case atStart => exact ⟨0, by omega, rfl, hide (fun j x hj => absurd hj (by omega)), hide (Below.refl _ _)⟩
  case round =>
    obtain ⟨k, hk, rfl, HS, HB⟩ := hrel
    by_cases hlt : k < n
    · obtain ⟨⟨x0, x1, x2, x3, x4⟩, hzk⟩ : ∃ z, zs[k]? = some z := ⟨zs[k]'(by have := HL.out; omega), List.getElem?_eq_getElem (by have := HL.out; omega)⟩
      obtain ⟨b, off, rfl, hb, a0, a1, a2, a3, a4⟩ := row_at_5 (HA.out.below HB.out) hzk rfl
      have HZ := hide hzk
      clear hzk
      have hki : (k : Int) < (n : Int) := by omega
      have hcc := (HB.out.cell (p := ⟨g, 0, none⟩) hg).trans hc
      have hgg : g < wr.heap.size := Nat.lt_of_lt_of_le hg HB.out.size
      by_cases hok : (x0.toList == nm.toList) = true
      · have HN := hide (any_some (f := fun z : Clay => z.n.toList == nm.toList) HZ.out hok)
        go_wp2_with fail
        refine (impl_hasClay1 _ _ _ _ _ nm g _ hgg hcc).mono ?_
        rintro e w1 ⟨rfl, hb1⟩
        have HB1 := hide hb1
        clear hb1
        rw [hok]
        clear hok
        go_wp2
        go_ret
        exact ⟨⟨k, rfl, by rw [HN.out]; simp⟩, HB.out.trans (HB1.out.mono HB.out.size)⟩
      · have hok' : (x0.toList == nm.toList) = false := by simpa using hok
        have HS' := hide (any_more (f := fun z : Clay => z.n.toList == nm.toList) HS.out HZ.out hok')
        clear hok
        go_wp2_with fail
        refine (impl_hasClay1 _ _ _ _ _ nm g _ hgg hcc).mono ?_
        rintro e w1 ⟨rfl, hb1⟩
        have HB1 := hide hb1
        clear hb1
        rw [hok']
        clear hok'
        go_wp2
        go_roundw
        case rel => exact ⟨k + 1, by omega, by go_num, HS', hide (HB.out.trans (HB1.out.mono HB.out.size))⟩
        case measure => simp [intOf]; omega
    · have HN := hide (any_none (f := fun z : Clay => z.n.toList == nm.toList) (zs := zs) (fun j x hx => HS.out j x (by have := (List.getElem?_eq_some_iff.1 hx).1; have := HL.out; omega) hx))
      go_wp2
      go_ret
      exact ⟨⟨-1, rfl, by rw [HN.out]; decide⟩, HB.out⟩
theorem containsClay (A : Option Addr) (n c : Nat) (zs : List Clay) (nm : ByteArray) (g : Nat) (w : World) (hn : n ≤ 16777216) (hl : zs.length = n) (h : Row Clay.enc 5 w A zs) (hg : g < w.heap.size) (hc : w.cell? ⟨g, 0, none⟩ = some (.string nm)) :
    Calls Tryz.prog 70 #[.slice A n c, .func (.func 71) #[] #[.pointer (some ⟨g, 0, none⟩)]] w fun e w' => e = .returned (.bool (hasName zs nm)) ∧ Below w.heap.size w w' := by
  have HA := hide h
  have HL := hide hl
  clear h hl
  go_enter Tryz.func70, Tryz.ntmps70
  go_wp2_with fail
  refine (indexClay _ _ _ zs nm g _ hn HL.out HA.out hg hc).mono ?_
  rintro e w1 ⟨⟨v, rfl, hv⟩, hb1⟩
  have HV := hide hv
  have HB1 := hide hb1
  clear hv hb1
  go_wp2
  go_ret
  exact ⟨ret_bool HV.out, HB1.out⟩
theorem impl_hasClay (A : Option Addr) (n c : Nat) (zs : List Clay) (nm : ByteArray) (w : World) (hn : n ≤ 16777216) (hl : zs.length = n) (h : Row Clay.enc 5 w A zs) :
    Calls Tryz.prog 46 #[.slice A n c, .string nm] w fun e w' => e = .returned (.bool (hasName zs nm)) ∧ Below w.heap.size w w' := by
  have HA := hide h
  have HL := hide hl
  clear h hl
  go_enter Tryz.func46, Tryz.ntmps46
  have HB0 := hide ((Below.refl w.heap.size w).alloc (Nat.le_refl _) (.cells #[.string nm] 9))
  go_wp2_with fail
  refine (containsClay _ _ _ zs nm _ _ hn HL.out (HA.out.below HB0.out) (by simp) (by simp [World.cell?_alloc_new])).mono ?_
  rintro e w1 ⟨rfl, hb1⟩
  have HB1 := hide (HB0.out.trans (hb1.mono (by simp)))
  clear hb1
  go_wp2
  go_ret
  exact ⟨rfl, HB1.out⟩
end Go.Proofs.YtfjdhjbfingofaaGreatDoor
