/-
  What is proved: lists of strings in memory: marks, comparison. Conditions: lengths as named in each.
-/
import Derived.Test.YtjoepnmmcagggaaDoorIntS
import Derived.Test.YtjoepnmmcagggaaDoorMarkText
import Derived.Deep.RegionHeld3
namespace Go.Proofs.YtjoepnmmcagggaaDoor
open Go.RowKit
set_option linter.unusedVariables false

def encS (x : ByteArray) : List Value := [.string x]
theorem flatS_push (xs : List ByteArray) (x : ByteArray) : flat encS xs ++ [.string x] = flat encS (xs ++ [x]) := by rw [flat_append]; rfl
theorem own_pushS {w : World} {base : Nat} {t : TypeId} {v : Value} {xs ys : List ByteArray} {x : ByteArray} (h : w.ownsRow base t 1 v (xs.length + 1) (flat encS xs ++ [.string x])) (hy : ys = xs ++ [x]) : w.ownsRow base t 1 v ys.length (flat encS ys) := by
  subst hy
  rw [← flatS_push, List.length_append]
  exact h
theorem info_Str : (Tryd.prog.info? 9).map (fun i => (i.zero, i.size, i.bytes)) = some (some (.string ⟨#[]⟩), 1, 16) := by kernel_rfl
theorem below_push2 {a wr w1 : World} {B : Nat} {v : Value} {o : Obj} {n : Nat} {L : List Value} {t : TypeId} {k : Nat} (hb : Below B a wr) (hB : B ≤ a.heap.size) (hown : wr.ownsRow B t k v n L) (hg : (wr.alloc o).grownBy w1 v.ownBlock) : Below B a w1 :=
  (hb.alloc (Nat.le_trans hB hb.size) o).grown hg (by have := hb.size; simp; omega) (fun j hj => (hown.lt j hj).1)
theorem own_empty_here (w : World) (base k : Nat) (t : TypeId) (g : Nat) (hg : w.heap.size = g) (hb : base ≤ w.heap.size) : (w.alloc (.cells #[] t)).ownsRow base t k (.slice (some ⟨g, 0, none⟩) 0 0) 0 [] := by
  subst hg
  exact own_empty w base k t hb
set_option maxHeartbeats 1000000 in
theorem eqStringS_same (A B : Option Addr) (n c d : Nat) (zs : List ByteArray) (w : World) (hn : n ≤ 16777216) (hl : zs.length = n) (ha : Row encS 1 w A zs) (hb : Row encS 1 w B zs) :
    Calls Tryd.prog 27 #[.slice A n c, .slice B n d] w fun e w' => e = .returned (.bool true) ∧ ∃ q, w' = w.drewN q := by
  have HA := hide ha
  have HB := hide hb
  have HL := hide hl
  have hnm : n ≤ 9223372036854775807 := by omega
  clear ha hb hl
  go_enter Tryd.func27, Tryd.ntmps27
  go_wp2
  go_loopw [5] (fun i wr => ∃ k : Nat, k ≤ n ∧ i = .int .i64 k ∧ ∃ q, wr = w.drewN q) (fun i _ => n - (intOf i).toNat)
  case atStart => exact ⟨0, by omega, rfl, 0, rfl⟩
  case round =>
    obtain ⟨k, hk, rfl, q, rfl⟩ := hrel
    by_cases hlt : k < n
    · obtain ⟨x, hzk⟩ : ∃ z, zs[k]? = some z := ⟨zs[k]'(by have := HL.out; omega), List.getElem?_eq_getElem (by have := HL.out; omega)⟩
      obtain ⟨ba, offa, rfl, hba, a0⟩ := row_at_1 HA.out hzk rfl
      obtain ⟨bb, offb, rfl, hbb, b0⟩ := row_at_1 HB.out hzk rfl
      clear hzk
      have hki : (k : Int) < (n : Int) := by omega
      have hneq : ∀ s : ByteArray, (s.toList != s.toList) = false := fun s => by simp
      go_wp2
      go_quiet (fail)
      go_wp2
      go_roundw
      case rel => exact ⟨k + 1, by omega, by go_num, _, rfl⟩
      case measure => simp [intOf]; omega
    · go_wp2
      go_ret
      exact ⟨rfl, _, rfl⟩
/-- The marked elements, from k0 on. -/
def marksStr (k0 : Int) (n : Nat) : List ByteArray := (List.range n).map fun i : Nat => markT (k0 + (i : Int))
theorem marksStr_at (k0 : Int) (n i : Nat) (h : i < n) : (marksStr k0 n)[i]? = some (markT (k0 + (i : Int))) := by
  unfold marksStr
  rw [List.getElem?_map, List.getElem?_range h]
  rfl
theorem marksStr_length (k0 : Int) (n : Nat) : (marksStr k0 n).length = n := by simp [marksStr]
set_option maxRecDepth 100000 in
set_option maxHeartbeats 1000000 in
theorem markStringS_ok (g base n c : Nat) (k0 : Int) (L : List Value) (w : World) (hn : n ≤ 16777216) (h0 : 0 < k0) (h1 : k0 ≤ 1000000000000) (h : w.ownsRow base 9 1 (.slice (some ⟨g, 0, none⟩) n c) n L) :
    Calls Tryd.prog 28 #[.slice (some ⟨g, 0, none⟩) n c, .int .i64 k0] w fun e w' => e = .returned (.int .i64 (k0 + n)) ∧ w'.ownsRow base 9 1 (.slice (some ⟨g, 0, none⟩) n c) n (flat encS (marksStr k0 n)) ∧ w.grownBy w' (some g) := by
  have HA := hide h
  have hnm : n ≤ 9223372036854775807 := by omega
  clear h
  go_enter Tryd.func28, Tryd.ntmps28
  go_wp2
  go_loopw [1, 5] (fun q i wr => ∃ k : Nat, k ≤ n ∧ i = .int .i64 k ∧ q = .int .i64 (k0 + k) ∧ Hid (∃ Z : List Value, Z.length = (n - k) * 1 ∧ wr.ownsRow base 9 1 (.slice (some ⟨g, 0, none⟩) n c) n (flat encS ((marksStr k0 n).take k) ++ Z)) ∧ Hid (w.grownBy wr (some g))) (fun _ i _ => n - (intOf i).toNat)
  case atStart => exact ⟨0, by omega, rfl, by simp, hide ⟨_, HA.out.1.trans (by rw [Nat.sub_zero]), by simpa [flat] using HA.out⟩, hide (World.grownBy.refl _ _)⟩
  case round =>
    obtain ⟨k, hk, rfl, rfl, HO, HB⟩ := hrel
    by_cases hlt : k < n
    · obtain ⟨Z, hZ, hown⟩ := HO.out
      have hg := own_lt hown
      have HW := hide hown
      have HZl := hide hZ
      clear hZ hown
      go_wp2_with fail
      refine (markText_ok (k0 + (k : Int)) _ (by omega) (by omega)).mono ?_
      rintro e w2 ⟨rfl, hb2⟩
      have hs2 := hb2.size
      have HW2 := hide (own_below HW.out hb2)
      have HG2 := hide (grown_trans HB.out (grown_of_below hb2))
      obtain ⟨o0, p0, q0⟩ := own_at_1 HW2.out hlt
      clear hb2
      go_wp2
      go_roundw
      case rel =>
        have s1 := own_store_1 (.string (markT (k0 + (k : Int)))) HW2.out hlt
        have h2 := fill_step (enc := encS) (k := 1) (fun _ => rfl) (marksStr k0 n) k _ Z (marksStr_at k0 n k hlt)
        refine ⟨k + 1, by omega, by go_num, int_eq (by omega), hide ⟨Z.drop 1, by rw [List.length_drop, HZl.out]; omega, ?_⟩, hide (grown_trans HG2.out s1.2)⟩
        rw [← h2, Nat.mul_one]
        exact s1.1
      case measure => simp [intOf]; omega
    · obtain ⟨Z, hZ, hown⟩ := HO.out
      have hz0 : Z = [] := List.eq_nil_of_length_eq_zero (by rw [hZ]; omega)
      have htk : (marksStr k0 n).take k = marksStr k0 n := List.take_of_length_le (by rw [marksStr_length]; omega)
      rw [hz0, htk, List.append_nil] at hown
      have HW := hide hown
      obtain rfl : k = n := by omega
      clear hZ hown hz0 htk
      go_wp2
      go_ret
      exact ⟨rfl, HW.out, HB.out⟩
set_option maxHeartbeats 400000 in
theorem markStringS_own (lo hi : Nat) (A : Option Addr) (n c : Nat) (k0 : Int) (xs : List ByteArray) (w : World) (hn : n ≤ 16777216) (h0 : 0 < k0) (h1 : k0 ≤ 1000000000000) (h : Own 9 1 encS w lo hi A n c xs) :
    Calls Tryd.prog 28 #[.slice A n c, .int .i64 k0] w fun e w' => e = .returned (.int .i64 (k0 + n)) ∧ Own 9 1 encS w' lo hi A n c (marksStr k0 n) ∧ Touch lo hi w w' := by
  rcases h.head with ⟨rfl, rfl, rfl⟩ | ⟨g, rfl, hg1, hg2⟩
  · have HI := hide h.hi_le
    clear h
    go_enter Tryd.func28, Tryd.ntmps28
    go_wp2
    refine wp_loop_rounds 1 ?_
    rw [rounds_succ]
    go_wp2
    go_ret
    exact ⟨ret_int (by omega), Own.nil HI.out, Touch.refl _ _ _⟩
  · refine (markStringS_ok g lo n c k0 _ w hn h0 h1 h.own).mono fun e w' ⟨he, ho, hb⟩ => ⟨he, ⟨marksStr_length _ _, ho, h.up, Nat.le_trans h.hi_le hb.size⟩, Touch.of_grown hb hg1 hg2⟩
set_option maxRecDepth 100000 in
set_option maxHeartbeats 2000000 in
theorem heldStringS_ok (A : Option Addr) (n c : Nat) (k0 : Int) (w : World) (hn : n ≤ 16777216) (h0 : 0 < k0) (h1 : k0 ≤ 1000000000000) (h : Row encS 1 w A (marksStr k0 n)) :
    Calls Tryd.prog 29 #[.slice A n c, .int .i64 k0] w fun e w' => e = .returned (.int .i64 (k0 + n)) ∧ Below w.heap.size w w' := by
  have HA := hide h
  have hnm : n ≤ 9223372036854775807 := by omega
  clear h
  go_enter Tryd.func29, Tryd.ntmps29
  go_wp2
  go_loopw [1, 5] (fun q i wr => ∃ k : Nat, k ≤ n ∧ i = .int .i64 k ∧ q = .int .i64 (k0 + k) ∧ Hid (Below w.heap.size w wr)) (fun _ i _ => n - (intOf i).toNat)
  case atStart => exact ⟨0, by omega, rfl, by simp, hide (Below.refl _ _)⟩
  case round =>
    obtain ⟨k, hk, rfl, rfl, HB⟩ := hrel
    by_cases hlt : k < n
    · obtain ⟨b, off, rfl, hb, a0⟩ := row_at_1 (HA.out.below HB.out) (marksStr_at k0 n k hlt) rfl
      have hki : (k : Int) < (n : Int) := by omega
      have hneq : ∀ s : ByteArray, (s.toList != s.toList) = false := fun s => by simp
      go_wp2
      go_region_held3 (fun w' => w'.cell? ⟨b, off + k, none⟩ = some (.string (markT (k0 + (k : Int)))))
        (first
          | go_keep
          | exact a0)
        (first
          | (go_at_call 65
             refine (markText_ok (k0 + (k : Int)) _ (by omega) (by omega)).mono ?_
             rintro e w2 ⟨rfl, hb2⟩
             replace a0 := (hb2.cell (p := ⟨b, off + k, none⟩) hb).trans a0
             have HB2 := hide (HB.out.drew.trans (hb2.mono HB.out.size))
             clear hb2))
      go_wp2
      go_roundw
      case rel => exact ⟨k + 1, by omega, by go_num, int_eq (by omega), HB2⟩
      case measure => simp [intOf]; omega
    · obtain rfl : k = n := by omega
      go_wp2
      go_ret
      exact ⟨rfl, HB.out⟩
end Go.Proofs.YtjoepnmmcagggaaDoor
