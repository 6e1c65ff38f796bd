/-
  What is proved: contracts of the laws' own functions on lists of whole numbers: the comparison of equal lists, the marks. Conditions: lengths as named in each.
-/
import Derived.Test.YtfjnhocmkafnbaaProg
import Derived.Test.YtfjnhocmkafnbaaOwned
import Derived.Handy
import Derived.Lib.Hide
import Derived.BigQuiet
import Derived.Deep.QuietTactic
import Derived.StillTailTactics
import Derived.WalkSpells
namespace Go.Proofs.Ytfjnhocmkafnbaa
open Go.RowKit
set_option linter.unusedVariables false

def encI (x : Int) : List Value := [.int .i64 x]
/-- An empty list that was just made: '[]T{}'. -/
theorem own_empty (w : World) (base k : Nat) (t : TypeId) (hb : base ≤ w.heap.size) : (w.alloc (.cells #[] t)).ownsRow base t k (.slice (some ⟨w.heap.size, 0, none⟩) 0 0) 0 [] :=
  ⟨by simp, .inr ⟨w.heap.size, 0, #[], rfl, hb, (show (w.heap.push (.cells #[] t))[w.heap.size]? = _ from Array.getElem?_push_size), Nat.le_refl _, by unfold maxLen; omega, by simp, by simp⟩⟩
theorem cell_new_at (w : World) (v : Value) (t : TypeId) (s : Nat) (hs : w.heap.size = s) : ∀ (j : Nat) (u : Value), [v][j]? = some u → (w.alloc (.cells #[v] t)).cell? ((⟨s, 0, none⟩ : Addr).add j) = some u := by
  subst hs
  exact cell_one_new w v t
theorem flatI_push (xs : List Int) (x : Int) : flat encI xs ++ [.int .i64 x] = flat encI (xs ++ [x]) := by rw [flat_append]; rfl
theorem own_push {w : World} {base : Nat} {t : TypeId} {v : Value} {xs ys : List Int} {x : Int} (h : w.ownsRow base t 1 v (xs.length + 1) (flat encI xs ++ [.int .i64 x])) (hy : ys = xs ++ [x]) : w.ownsRow base t 1 v ys.length (flat encI ys) := by
  subst hy
  rw [← flatI_push, List.length_append]
  exact h
theorem flatI_map (xs : List Int) : flat encI xs = xs.map (Value.int .i64) := by
  induction xs with
  | nil => rfl
  | cons x xs ih => simp only [flat, List.flatMap_cons, List.map_cons] at ih ⊢; rw [ih]; rfl
theorem made_ints (n : Nat) : (madeCells (Value.int .i64 0).cells (n * 1)).toList = flat encI (List.replicate n 0) := by
  rw [flatI_map, List.map_replicate]
  apply List.ext_getElem <;> simp [madeCells, Value.cells, Nat.mod_one]
theorem own_int_at {w : World} {base n c g i : Nat} {t : TypeId} {xs : List Int} {x : Int} (h : w.ownsRow base t 1 (.slice (some ⟨g, 0, none⟩) n c) n (flat encI xs)) (hi : xs[i]? = some x) :
    w.cell? ⟨g, i, none⟩ = some (.int .i64 x) ∧ w.frozen? ⟨g, i, none⟩ = false := by
  have hl := h.1
  have hx := (List.getElem?_eq_some_iff.1 hi).1
  rw [flatI_map, List.length_map] at hl
  refine ⟨?_, h.frozenAt _⟩
  rw [h.cellAt i (by omega), flatI_map, List.getElem?_map, hi]
  rfl
theorem own_int_set {w : World} {base n c g i : Nat} {t : TypeId} {xs : List Int} (y : Int) (h : w.ownsRow base t 1 (.slice (some ⟨g, 0, none⟩) n c) n (flat encI xs)) (hi : i < n) :
    World.ownsRow (w.setCell ⟨g, i, none⟩ (.int .i64 y)) base t 1 (.slice (some ⟨g, 0, none⟩) n c) n (flat encI (xs.set i y)) ∧ w.grownBy (w.setCell ⟨g, i, none⟩ (.int .i64 y)) (some g) := by
  have s0 := h.stored i (.int .i64 y)
  rw [flatI_map, ← List.map_set, ← flatI_map] at s0
  exact ⟨s0.1, s0.2⟩
theorem below_push {w wr w1 : World} {v : Value} {o : Obj} {n : Nat} {L : List Value} {t : TypeId} {k : Nat} (hb : Below w.heap.size w wr) (hown : wr.ownsRow w.heap.size t k v n L) (hg : (wr.alloc o).grownBy w1 v.ownBlock) : Below w.heap.size w w1 :=
  (hb.alloc hb.size o).grown hg (by have := hb.size; simp; omega) (fun j hj => (hown.lt j hj).1)
set_option maxHeartbeats 1000000 in
theorem eqInt64S_same (A B : Option Addr) (n c d : Nat) (zs : List Int) (w : World) (hn : n ≤ 16777216) (hl : zs.length = n) (ha : Row encI 1 w A zs) (hb : Row encI 1 w B zs) :
    Calls Try.prog 27 #[.slice A n c, .slice B n d] w fun e w' => e = .returned (.bool true) ∧ ∃ q, w' = w.drewN q := by
  have HA := hide ha
  have HB := hide hb
  have HL := hide hl
  have hnm : n ≤ 9223372036854775807 := by omega
  clear ha hb hl
  go_enter Try.func27, Try.ntmps27
  go_wp2
  go_loopw [5] (fun i wr => ∃ k : Nat, k ≤ n ∧ i = .int .i64 k ∧ ∃ q, wr = w.drewN q) (fun i _ => n - (intOf i).toNat)
  case atStart => exact ⟨0, by omega, rfl, 0, rfl⟩
  case round =>
    obtain ⟨k, hk, rfl, q, rfl⟩ := hrel
    by_cases hlt : k < n
    · obtain ⟨x, hzk⟩ : ∃ z, zs[k]? = some z := ⟨zs[k]'(by have := HL.out; omega), List.getElem?_eq_getElem (by have := HL.out; omega)⟩
      obtain ⟨ba, offa, rfl, hba, a0⟩ := row_at_1 HA.out hzk rfl
      obtain ⟨bb, offb, rfl, hbb, b0⟩ := row_at_1 HB.out hzk rfl
      clear hzk
      have hki : (k : Int) < (n : Int) := by omega
      go_wp2
      go_quiet (fail)
      go_wp2
      go_roundw
      case rel => exact ⟨k + 1, by omega, by go_num, _, rfl⟩
      case measure => simp [intOf]; omega
    · go_wp2
      go_ret
      exact ⟨rfl, _, rfl⟩
/-- The marked elements, from k0 on. -/
def marksInt (k0 : Int) (n : Nat) : List Int := (List.range n).map fun i : Nat => k0 + (i : Int)
theorem marksInt_at (k0 : Int) (n i : Nat) (h : i < n) : (marksInt k0 n)[i]? = some (k0 + (i : Int)) := by
  unfold marksInt
  rw [List.getElem?_map, List.getElem?_range h]
  rfl
theorem marksInt_length (k0 : Int) (n : Nat) : (marksInt k0 n).length = n := by simp [marksInt]
set_option maxHeartbeats 1000000 in
theorem markInt64S_ok (g base n c : Nat) (k0 : Int) (L : List Value) (w : World) (hn : n ≤ 16777216) (h0 : 0 ≤ k0) (h1 : k0 ≤ 1000000000000) (h : w.ownsRow base 2 1 (.slice (some ⟨g, 0, none⟩) n c) n L) :
    Calls Try.prog 29 #[.slice (some ⟨g, 0, none⟩) n c, .int .i64 k0] w fun e w' => e = .returned (.int .i64 (k0 + n)) ∧ w'.ownsRow base 2 1 (.slice (some ⟨g, 0, none⟩) n c) n (flat encI (marksInt k0 n)) ∧ w.grownBy w' (some g) := by
  have HA := hide h
  have hnm : n ≤ 9223372036854775807 := by omega
  clear h
  go_enter Try.func29, Try.ntmps29
  go_wp2
  go_loopw [1, 5] (fun q i wr => ∃ k : Nat, k ≤ n ∧ i = .int .i64 k ∧ q = .int .i64 (k0 + k) ∧ Hid (∃ Z : List Value, Z.length = (n - k) * 1 ∧ wr.ownsRow base 2 1 (.slice (some ⟨g, 0, none⟩) n c) n (flat encI ((marksInt k0 n).take k) ++ Z)) ∧ Hid (w.grownBy wr (some g))) (fun _ i _ => n - (intOf i).toNat)
  case atStart => exact ⟨0, by omega, rfl, by simp, hide ⟨_, HA.out.1.trans (by rw [Nat.sub_zero]), by simpa [flat] using HA.out⟩, hide (World.grownBy.refl _ _)⟩
  case round =>
    obtain ⟨k, hk, rfl, rfl, HO, HB⟩ := hrel
    by_cases hlt : k < n
    · obtain ⟨Z, hZ, hown⟩ := HO.out
      obtain ⟨o0, p0, q0⟩ := own_at_1 hown hlt
      have hg := own_lt hown
      have HW := hide hown
      have HZl := hide hZ
      clear hZ hown
      go_wp2
      go_roundw
      case rel =>
        have h1 := own_store_1 (.int .i64 (k0 + (k : Int))) HW.out hlt
        have h2 := fill_step (enc := encI) (k := 1) (fun _ => rfl) (marksInt k0 n) k _ Z (marksInt_at k0 n k hlt)
        refine ⟨k + 1, by omega, by go_num, int_eq (by omega), hide ⟨Z.drop 1, by rw [List.length_drop, HZl.out]; omega, ?_⟩, hide (grown_trans HB.out h1.2)⟩
        rw [← h2, Nat.mul_one]
        exact h1.1
      case measure => simp [intOf]; omega
    · obtain ⟨Z, hZ, hown⟩ := HO.out
      have hz0 : Z = [] := List.eq_nil_of_length_eq_zero (by rw [hZ]; omega)
      have htk : (marksInt k0 n).take k = marksInt k0 n := List.take_of_length_le (by rw [marksInt_length]; omega)
      rw [hz0, htk, List.append_nil] at hown
      have HW := hide hown
      obtain rfl : k = n := by omega
      clear hZ hown hz0 htk
      go_wp2
      go_ret
      exact ⟨rfl, HW.out, HB.out⟩
set_option maxHeartbeats 400000 in
theorem markInt64S_own (lo hi : Nat) (A : Option Addr) (n c : Nat) (k0 : Int) (xs : List Int) (w : World) (hn : n ≤ 16777216) (h0 : 0 ≤ k0) (h1 : k0 ≤ 1000000000000) (h : Own 2 1 encI w lo hi A n c xs) :
    Calls Try.prog 29 #[.slice A n c, .int .i64 k0] w fun e w' => e = .returned (.int .i64 (k0 + n)) ∧ Own 2 1 encI w' lo hi A n c (marksInt k0 n) ∧ Touch lo hi w w' := by
  rcases h.head with ⟨rfl, rfl, rfl⟩ | ⟨g, rfl, hg1, hg2⟩
  · have HI := hide h.hi_le
    clear h
    go_enter Try.func29, Try.ntmps29
    go_wp2
    refine wp_loop_rounds 1 ?_
    rw [rounds_succ]
    go_wp2
    go_ret
    exact ⟨ret_int (by omega), Own.nil HI.out, Touch.refl _ _ _⟩
  · refine (markInt64S_ok g lo n c k0 _ w hn h0 h1 h.own).mono fun e w' ⟨he, ho, hb⟩ => ⟨he, ⟨marksInt_length _ _, ho, h.up, Nat.le_trans h.hi_le hb.size⟩, Touch.of_grown hb hg1 hg2⟩
set_option maxHeartbeats 1000000 in
theorem heldInt64S_ok (A : Option Addr) (n c : Nat) (k0 : Int) (w : World) (hn : n ≤ 16777216) (h0 : 0 ≤ k0) (h1 : k0 ≤ 1000000000000) (h : Row encI 1 w A (marksInt k0 n)) :
    Calls Try.prog 30 #[.slice A n c, .int .i64 k0] w fun e w' => e = .returned (.int .i64 (k0 + n)) ∧ w = w' := by
  have HA := hide h
  have hnm : n ≤ 9223372036854775807 := by omega
  clear h
  go_enter Try.func30, Try.ntmps30
  go_wp2
  go_loop [1, 5] (fun q i => ∃ k : Nat, k ≤ n ∧ i = .int .i64 k ∧ q = .int .i64 (k0 + k)) (fun _ i => n - (intOf i).toNat)
  case atStart => exact ⟨0, by omega, rfl, by simp⟩
  case round =>
    obtain ⟨k, hk, rfl, rfl⟩ := hrel
    by_cases hlt : k < n
    · obtain ⟨b, off, rfl, hb, a0⟩ := row_at_1 HA.out (marksInt_at k0 n k hlt) rfl
      go_wp2
      go_round
      case rel => exact ⟨k + 1, by omega, by go_num, int_eq (by omega)⟩
      case measure => simp [intOf]; omega
    · obtain rfl : k = n := by omega
      go_wp2
      go_ret
      exact ⟨rfl, rfl⟩
end Go.Proofs.Ytfjnhocmkafnbaa
