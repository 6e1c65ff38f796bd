/-
  What is proved: the distance of two numbers, the first size that is off, of the program and of the reference. Conditions: sizes in a small range.
-/
import Derived.Test.YtakckjmkjplbfaaFired2
import Derived.StillTailTactics
namespace Go.Proofs.Ytakckjmkjplbfaa
open Go.RowKit
set_option linter.unusedVariables false

def absI (n : Int) : Int := if n < 0 then -n else n
theorem absI_bound {x y : Int} (hx : 0 ≤ x ∧ x ≤ 100000) (hy : 0 ≤ y ∧ y ≤ 100000) : 0 ≤ absI (x - y) ∧ absI (x - y) ≤ 100000 := by
  unfold absI
  split <;> omega
theorem fired_bound {a s : Int} (ha : 0 ≤ a ∧ a ≤ 100000) (hs : 0 ≤ s ∧ s ≤ 1000) : 0 ≤ firedI a s ∧ firedI a s ≤ 100000 :=
  ⟨fired_nonneg a s ha.1 hs.2, Int.le_trans (fired_le a s ha.1 hs.1) ha.2⟩
def faultS (a b c l wd h s off : Int) : ByteArray := if off < absI (firedI a s - l) then ⟨#[108, 101, 110, 103, 116, 104]⟩ else if off < absI (firedI b s - wd) then ⟨#[119, 105, 100, 116, 104]⟩ else if off < absI (firedI c s - h) then ⟨#[104, 101, 105, 103, 104, 116]⟩ else ⟨#[110, 111, 110, 101]⟩
theorem impl_apart (x y : Int) (w : World) (hx : 0 ≤ x ∧ x ≤ 100000) (hy : 0 ≤ y ∧ y ≤ 100000) :
    Calls Try.prog 62 #[.int .i64 x, .int .i64 y] w fun e w' => e = .returned (.int .i64 (absI (x - y))) ∧ w = w' := by
  go_enter Try.func62, Try.ntmps62
  go_wp2
  all_goals go_ret
  all_goals exact ⟨ret_int (by unfold absI; split <;> omega), rfl⟩
theorem spec_l02Size (n : Int) (w : World) (h : -100000 ≤ n ∧ n ≤ 100000) :
    Calls Try.prog 78 #[.int .i64 n] w fun e w' => e = .returned (.int .i64 (absI n)) ∧ w = w' := by
  unfold absI
  by_cases h0 : n < 0
  · rw [if_pos h0]
    go_enter Try.func78, Try.ntmps78
    go_wp2
    go_ret
    exact ⟨rfl, rfl⟩
  · rw [if_neg h0]
    go_enter Try.func78, Try.ntmps78
    go_wp2
    go_ret
    exact ⟨rfl, rfl⟩
set_option maxHeartbeats 1000000 in
theorem spec_fault_0 (a b c d l wd h j s off : Int) (p o : Nat) (w : World) (hc0 : w.cell? ⟨p, o, none⟩ = some (.int .i64 a)) (hc1 : w.cell? ⟨p, o + 1, none⟩ = some (.int .i64 b)) (hc2 : w.cell? ⟨p, o + 2, none⟩ = some (.int .i64 c)) (hc3 : w.cell? ⟨p, o + 3, none⟩ = some (.int .i64 d)) (hp : p < w.heap.size) (ha : 0 ≤ a ∧ a ≤ 100000) (hb : 0 ≤ b ∧ b ≤ 100000) (hc : 0 ≤ c ∧ c ≤ 100000) (hs : 0 ≤ s ∧ s ≤ 1000) (hl : 0 ≤ l ∧ l ≤ 100000) (hwd : 0 ≤ wd ∧ wd ≤ 100000) (hh : 0 ≤ h ∧ h ≤ 100000) (t0 : off < absI (firedI a s - l)) :
    Calls Try.prog 58 #[.pointer (some ⟨p, o, none⟩), .agg #[.int .i64 l, .int .i64 wd, .int .i64 h, .int .i64 j], .int .i64 s, .int .i64 off] w fun e w' => e = .returned (.string ⟨#[108, 101, 110, 103, 116, 104]⟩) ∧ Below w.heap.size w w' := by
  have fa := fired_bound ha hs
  have fb := fired_bound hb hs
  have fc := fired_bound hc hs
  have hp1 : p < (w.alloc (.cells #[.int .i64 l, .int .i64 wd, .int .i64 h, .int .i64 j] 44)).heap.size := by simp; omega
  have k0 := (World.cell?_alloc_lt w (.cells #[.int .i64 l, .int .i64 wd, .int .i64 h, .int .i64 j] 44) ⟨p, o, none⟩ hp).trans hc0
  have k1 := (World.cell?_alloc_lt w (.cells #[.int .i64 l, .int .i64 wd, .int .i64 h, .int .i64 j] 44) ⟨p, o + 1, none⟩ hp).trans hc1
  have k2 := (World.cell?_alloc_lt w (.cells #[.int .i64 l, .int .i64 wd, .int .i64 h, .int .i64 j] 44) ⟨p, o + 2, none⟩ hp).trans hc2
  have k3 := (World.cell?_alloc_lt w (.cells #[.int .i64 l, .int .i64 wd, .int .i64 h, .int .i64 j] 44) ⟨p, o + 3, none⟩ hp).trans hc3
  have hall := spec_l05All a b c d s p o (w.alloc (.cells #[.int .i64 l, .int .i64 wd, .int .i64 h, .int .i64 j] 44)) k0 k1 k2 k3 hp1 ha hb hc hs
  have HALL := hide hall
  clear hc0 hc1 hc2 hc3 k0 k1 k2 k3 hp1 hall hp
  go_enter Try.func58, Try.ntmps58
  go_wp2_with fail
  refine HALL.out.mono ?_
  rintro e w1 ⟨A', c', rfl, ho, hb1⟩
  rcases ho.head with ⟨_, hq, _⟩ | ⟨g, rfl, hg1, hg2⟩
  · omega
  obtain ⟨e0, -⟩ := own_int_at (i := 0) ho.own rfl
  obtain ⟨e1, -⟩ := own_int_at (i := 1) ho.own rfl
  obtain ⟨e2, -⟩ := own_int_at (i := 2) ho.own rfl
  have hz : w.heap.size < w1.heap.size := by have := hb1.size; simp at this; omega
  have q0 : w1.cell? ⟨w.heap.size, 0, none⟩ = some (.int .i64 l) := (hb1.cell (p := ⟨w.heap.size, 0, none⟩) (by simp)).trans (by simp [World.cell?_alloc_new])
  have q1 : w1.cell? ⟨w.heap.size, 1, none⟩ = some (.int .i64 wd) := (hb1.cell (p := ⟨w.heap.size, 1, none⟩) (by simp)).trans (by simp [World.cell?_alloc_new])
  have q2 : w1.cell? ⟨w.heap.size, 2, none⟩ = some (.int .i64 h) := (hb1.cell (p := ⟨w.heap.size, 2, none⟩) (by simp)).trans (by simp [World.cell?_alloc_new])
  have HB := hide (((Below.refl w.heap.size w).alloc (Nat.le_refl _) (.cells #[.int .i64 l, .int .i64 wd, .int .i64 h, .int .i64 j] 44)).trans (hb1.mono (by simp)))
  clear ho hb1
  generalize firedI a s = A0 at *
  generalize firedI b s = B0 at *
  generalize firedI c s = C0 at *
  have v0 := Go.IntWalk.i64_in (A0 - l) ⟨by omega, by omega⟩
  have v1 := Go.IntWalk.i64_in (B0 - wd) ⟨by omega, by omega⟩
  have v2 := Go.IntWalk.i64_in (C0 - h) ⟨by omega, by omega⟩
  go_wp2
  refine wp_region_still_tail 9 (by kernel_rfl) (by kernel_rfl) ?_
  simp only [List.take_succ_cons, List.take_zero, List.drop_succ_cons, List.drop_zero]
  still_step
  still_step
  still_step
  still_step
  still_step
  still_step
  still_call ((spec_l02Size (A0 - l) _ ⟨by omega, by omega⟩).mono fun _ _ hh => ⟨hh.1, hh.2.symm⟩)
  repeat still_step
  refine wpStill_nil ?_
  change wpList _ _ _ _ _ w1.drew
  go_wp2
  go_ret
  exact ⟨rfl, HB.out.drew⟩
set_option maxHeartbeats 1000000 in
theorem spec_fault_1 (a b c d l wd h j s off : Int) (p o : Nat) (w : World) (hc0 : w.cell? ⟨p, o, none⟩ = some (.int .i64 a)) (hc1 : w.cell? ⟨p, o + 1, none⟩ = some (.int .i64 b)) (hc2 : w.cell? ⟨p, o + 2, none⟩ = some (.int .i64 c)) (hc3 : w.cell? ⟨p, o + 3, none⟩ = some (.int .i64 d)) (hp : p < w.heap.size) (ha : 0 ≤ a ∧ a ≤ 100000) (hb : 0 ≤ b ∧ b ≤ 100000) (hc : 0 ≤ c ∧ c ≤ 100000) (hs : 0 ≤ s ∧ s ≤ 1000) (hl : 0 ≤ l ∧ l ≤ 100000) (hwd : 0 ≤ wd ∧ wd ≤ 100000) (hh : 0 ≤ h ∧ h ≤ 100000) (t0 : ¬ (off < absI (firedI a s - l))) (t1 : off < absI (firedI b s - wd)) :
    Calls Try.prog 58 #[.pointer (some ⟨p, o, none⟩), .agg #[.int .i64 l, .int .i64 wd, .int .i64 h, .int .i64 j], .int .i64 s, .int .i64 off] w fun e w' => e = .returned (.string ⟨#[119, 105, 100, 116, 104]⟩) ∧ Below w.heap.size w w' := by
  have fa := fired_bound ha hs
  have fb := fired_bound hb hs
  have fc := fired_bound hc hs
  have hp1 : p < (w.alloc (.cells #[.int .i64 l, .int .i64 wd, .int .i64 h, .int .i64 j] 44)).heap.size := by simp; omega
  have k0 := (World.cell?_alloc_lt w (.cells #[.int .i64 l, .int .i64 wd, .int .i64 h, .int .i64 j] 44) ⟨p, o, none⟩ hp).trans hc0
  have k1 := (World.cell?_alloc_lt w (.cells #[.int .i64 l, .int .i64 wd, .int .i64 h, .int .i64 j] 44) ⟨p, o + 1, none⟩ hp).trans hc1
  have k2 := (World.cell?_alloc_lt w (.cells #[.int .i64 l, .int .i64 wd, .int .i64 h, .int .i64 j] 44) ⟨p, o + 2, none⟩ hp).trans hc2
  have k3 := (World.cell?_alloc_lt w (.cells #[.int .i64 l, .int .i64 wd, .int .i64 h, .int .i64 j] 44) ⟨p, o + 3, none⟩ hp).trans hc3
  have hall := spec_l05All a b c d s p o (w.alloc (.cells #[.int .i64 l, .int .i64 wd, .int .i64 h, .int .i64 j] 44)) k0 k1 k2 k3 hp1 ha hb hc hs
  have HALL := hide hall
  clear hc0 hc1 hc2 hc3 k0 k1 k2 k3 hp1 hall hp
  go_enter Try.func58, Try.ntmps58
  go_wp2_with fail
  refine HALL.out.mono ?_
  rintro e w1 ⟨A', c', rfl, ho, hb1⟩
  rcases ho.head with ⟨_, hq, _⟩ | ⟨g, rfl, hg1, hg2⟩
  · omega
  obtain ⟨e0, -⟩ := own_int_at (i := 0) ho.own rfl
  obtain ⟨e1, -⟩ := own_int_at (i := 1) ho.own rfl
  obtain ⟨e2, -⟩ := own_int_at (i := 2) ho.own rfl
  have hz : w.heap.size < w1.heap.size := by have := hb1.size; simp at this; omega
  have q0 : w1.cell? ⟨w.heap.size, 0, none⟩ = some (.int .i64 l) := (hb1.cell (p := ⟨w.heap.size, 0, none⟩) (by simp)).trans (by simp [World.cell?_alloc_new])
  have q1 : w1.cell? ⟨w.heap.size, 1, none⟩ = some (.int .i64 wd) := (hb1.cell (p := ⟨w.heap.size, 1, none⟩) (by simp)).trans (by simp [World.cell?_alloc_new])
  have q2 : w1.cell? ⟨w.heap.size, 2, none⟩ = some (.int .i64 h) := (hb1.cell (p := ⟨w.heap.size, 2, none⟩) (by simp)).trans (by simp [World.cell?_alloc_new])
  have HB := hide (((Below.refl w.heap.size w).alloc (Nat.le_refl _) (.cells #[.int .i64 l, .int .i64 wd, .int .i64 h, .int .i64 j] 44)).trans (hb1.mono (by simp)))
  clear ho hb1
  generalize firedI a s = A0 at *
  generalize firedI b s = B0 at *
  generalize firedI c s = C0 at *
  have v0 := Go.IntWalk.i64_in (A0 - l) ⟨by omega, by omega⟩
  have v1 := Go.IntWalk.i64_in (B0 - wd) ⟨by omega, by omega⟩
  have v2 := Go.IntWalk.i64_in (C0 - h) ⟨by omega, by omega⟩
  go_wp2
  refine wp_region_still_tail 9 (by kernel_rfl) (by kernel_rfl) ?_
  simp only [List.take_succ_cons, List.take_zero, List.drop_succ_cons, List.drop_zero]
  still_step
  still_step
  still_step
  still_step
  still_step
  still_step
  still_call ((spec_l02Size (A0 - l) _ ⟨by omega, by omega⟩).mono fun _ _ hh => ⟨hh.1, hh.2.symm⟩)
  repeat still_step
  refine wpStill_nil ?_
  change wpList _ _ _ _ _ w1.drew
  generalize hw2 : w1.drew = w2
  replace e0 := (show w1.drew.cell? _ = _ from e0)
  rw [hw2] at e0
  replace e1 := (show w1.drew.cell? _ = _ from e1)
  rw [hw2] at e1
  replace e2 := (show w1.drew.cell? _ = _ from e2)
  rw [hw2] at e2
  replace q0 := (show w1.drew.cell? _ = _ from q0)
  rw [hw2] at q0
  replace q1 := (show w1.drew.cell? _ = _ from q1)
  rw [hw2] at q1
  replace q2 := (show w1.drew.cell? _ = _ from q2)
  rw [hw2] at q2
  have HB := hide (by have h := HB.out.drew; rw [hw2] at h; exact h)
  clear hw2
  go_wp2
  refine wp_region_still_tail 9 (by kernel_rfl) (by kernel_rfl) ?_
  simp only [List.take_succ_cons, List.take_zero, List.drop_succ_cons, List.drop_zero]
  still_step
  still_step
  still_step
  still_step
  still_step
  still_step
  still_call ((spec_l02Size (B0 - wd) _ ⟨by omega, by omega⟩).mono fun _ _ hh => ⟨hh.1, hh.2.symm⟩)
  repeat still_step
  refine wpStill_nil ?_
  change wpList _ _ _ _ _ w2.drew
  go_wp2
  go_ret
  exact ⟨rfl, HB.out.drew⟩
set_option maxHeartbeats 1000000 in
theorem spec_fault_2 (a b c d l wd h j s off : Int) (p o : Nat) (w : World) (hc0 : w.cell? ⟨p, o, none⟩ = some (.int .i64 a)) (hc1 : w.cell? ⟨p, o + 1, none⟩ = some (.int .i64 b)) (hc2 : w.cell? ⟨p, o + 2, none⟩ = some (.int .i64 c)) (hc3 : w.cell? ⟨p, o + 3, none⟩ = some (.int .i64 d)) (hp : p < w.heap.size) (ha : 0 ≤ a ∧ a ≤ 100000) (hb : 0 ≤ b ∧ b ≤ 100000) (hc : 0 ≤ c ∧ c ≤ 100000) (hs : 0 ≤ s ∧ s ≤ 1000) (hl : 0 ≤ l ∧ l ≤ 100000) (hwd : 0 ≤ wd ∧ wd ≤ 100000) (hh : 0 ≤ h ∧ h ≤ 100000) (t0 : ¬ (off < absI (firedI a s - l))) (t1 : ¬ (off < absI (firedI b s - wd))) (t2 : off < absI (firedI c s - h)) :
    Calls Try.prog 58 #[.pointer (some ⟨p, o, none⟩), .agg #[.int .i64 l, .int .i64 wd, .int .i64 h, .int .i64 j], .int .i64 s, .int .i64 off] w fun e w' => e = .returned (.string ⟨#[104, 101, 105, 103, 104, 116]⟩) ∧ Below w.heap.size w w' := by
  have fa := fired_bound ha hs
  have fb := fired_bound hb hs
  have fc := fired_bound hc hs
  have hp1 : p < (w.alloc (.cells #[.int .i64 l, .int .i64 wd, .int .i64 h, .int .i64 j] 44)).heap.size := by simp; omega
  have k0 := (World.cell?_alloc_lt w (.cells #[.int .i64 l, .int .i64 wd, .int .i64 h, .int .i64 j] 44) ⟨p, o, none⟩ hp).trans hc0
  have k1 := (World.cell?_alloc_lt w (.cells #[.int .i64 l, .int .i64 wd, .int .i64 h, .int .i64 j] 44) ⟨p, o + 1, none⟩ hp).trans hc1
  have k2 := (World.cell?_alloc_lt w (.cells #[.int .i64 l, .int .i64 wd, .int .i64 h, .int .i64 j] 44) ⟨p, o + 2, none⟩ hp).trans hc2
  have k3 := (World.cell?_alloc_lt w (.cells #[.int .i64 l, .int .i64 wd, .int .i64 h, .int .i64 j] 44) ⟨p, o + 3, none⟩ hp).trans hc3
  have hall := spec_l05All a b c d s p o (w.alloc (.cells #[.int .i64 l, .int .i64 wd, .int .i64 h, .int .i64 j] 44)) k0 k1 k2 k3 hp1 ha hb hc hs
  have HALL := hide hall
  clear hc0 hc1 hc2 hc3 k0 k1 k2 k3 hp1 hall hp
  go_enter Try.func58, Try.ntmps58
  go_wp2_with fail
  refine HALL.out.mono ?_
  rintro e w1 ⟨A', c', rfl, ho, hb1⟩
  rcases ho.head with ⟨_, hq, _⟩ | ⟨g, rfl, hg1, hg2⟩
  · omega
  obtain ⟨e0, -⟩ := own_int_at (i := 0) ho.own rfl
  obtain ⟨e1, -⟩ := own_int_at (i := 1) ho.own rfl
  obtain ⟨e2, -⟩ := own_int_at (i := 2) ho.own rfl
  have hz : w.heap.size < w1.heap.size := by have := hb1.size; simp at this; omega
  have q0 : w1.cell? ⟨w.heap.size, 0, none⟩ = some (.int .i64 l) := (hb1.cell (p := ⟨w.heap.size, 0, none⟩) (by simp)).trans (by simp [World.cell?_alloc_new])
  have q1 : w1.cell? ⟨w.heap.size, 1, none⟩ = some (.int .i64 wd) := (hb1.cell (p := ⟨w.heap.size, 1, none⟩) (by simp)).trans (by simp [World.cell?_alloc_new])
  have q2 : w1.cell? ⟨w.heap.size, 2, none⟩ = some (.int .i64 h) := (hb1.cell (p := ⟨w.heap.size, 2, none⟩) (by simp)).trans (by simp [World.cell?_alloc_new])
  have HB := hide (((Below.refl w.heap.size w).alloc (Nat.le_refl _) (.cells #[.int .i64 l, .int .i64 wd, .int .i64 h, .int .i64 j] 44)).trans (hb1.mono (by simp)))
  clear ho hb1
  generalize firedI a s = A0 at *
  generalize firedI b s = B0 at *
  generalize firedI c s = C0 at *
  have v0 := Go.IntWalk.i64_in (A0 - l) ⟨by omega, by omega⟩
  have v1 := Go.IntWalk.i64_in (B0 - wd) ⟨by omega, by omega⟩
  have v2 := Go.IntWalk.i64_in (C0 - h) ⟨by omega, by omega⟩
  go_wp2
  refine wp_region_still_tail 9 (by kernel_rfl) (by kernel_rfl) ?_
  simp only [List.take_succ_cons, List.take_zero, List.drop_succ_cons, List.drop_zero]
  still_step
  still_step
  still_step
  still_step
  still_step
  still_step
  still_call ((spec_l02Size (A0 - l) _ ⟨by omega, by omega⟩).mono fun _ _ hh => ⟨hh.1, hh.2.symm⟩)
  repeat still_step
  refine wpStill_nil ?_
  change wpList _ _ _ _ _ w1.drew
  generalize hw2 : w1.drew = w2
  replace e0 := (show w1.drew.cell? _ = _ from e0)
  rw [hw2] at e0
  replace e1 := (show w1.drew.cell? _ = _ from e1)
  rw [hw2] at e1
  replace e2 := (show w1.drew.cell? _ = _ from e2)
  rw [hw2] at e2
  replace q0 := (show w1.drew.cell? _ = _ from q0)
  rw [hw2] at q0
  replace q1 := (show w1.drew.cell? _ = _ from q1)
  rw [hw2] at q1
  replace q2 := (show w1.drew.cell? _ = _ from q2)
  rw [hw2] at q2
  have HB := hide (by have h := HB.out.drew; rw [hw2] at h; exact h)
  clear hw2
  go_wp2
  refine wp_region_still_tail 9 (by kernel_rfl) (by kernel_rfl) ?_
  simp only [List.take_succ_cons, List.take_zero, List.drop_succ_cons, List.drop_zero]
  still_step
  still_step
  still_step
  still_step
  still_step
  still_step
  still_call ((spec_l02Size (B0 - wd) _ ⟨by omega, by omega⟩).mono fun _ _ hh => ⟨hh.1, hh.2.symm⟩)
  repeat still_step
  refine wpStill_nil ?_
  change wpList _ _ _ _ _ w2.drew
  generalize hw3 : w2.drew = w3
  replace e0 := (show w2.drew.cell? _ = _ from e0)
  rw [hw3] at e0
  replace e1 := (show w2.drew.cell? _ = _ from e1)
  rw [hw3] at e1
  replace e2 := (show w2.drew.cell? _ = _ from e2)
  rw [hw3] at e2
  replace q0 := (show w2.drew.cell? _ = _ from q0)
  rw [hw3] at q0
  replace q1 := (show w2.drew.cell? _ = _ from q1)
  rw [hw3] at q1
  replace q2 := (show w2.drew.cell? _ = _ from q2)
  rw [hw3] at q2
  have HB := hide (by have h := HB.out.drew; rw [hw3] at h; exact h)
  clear hw3
  go_wp2
  refine wp_region_still_tail 9 (by kernel_rfl) (by kernel_rfl) ?_
  simp only [List.take_succ_cons, List.take_zero, List.drop_succ_cons, List.drop_zero]
  still_step
  still_step
  still_step
  still_step
  still_step
  still_step
  still_call ((spec_l02Size (C0 - h) _ ⟨by omega, by omega⟩).mono fun _ _ hh => ⟨hh.1, hh.2.symm⟩)
  repeat still_step
  refine wpStill_nil ?_
  change wpList _ _ _ _ _ w3.drew
  go_wp2
  go_ret
  exact ⟨rfl, HB.out.drew⟩
set_option maxHeartbeats 1000000 in
theorem spec_fault_3 (a b c d l wd h j s off : Int) (p o : Nat) (w : World) (hc0 : w.cell? ⟨p, o, none⟩ = some (.int .i64 a)) (hc1 : w.cell? ⟨p, o + 1, none⟩ = some (.int .i64 b)) (hc2 : w.cell? ⟨p, o + 2, none⟩ = some (.int .i64 c)) (hc3 : w.cell? ⟨p, o + 3, none⟩ = some (.int .i64 d)) (hp : p < w.heap.size) (ha : 0 ≤ a ∧ a ≤ 100000) (hb : 0 ≤ b ∧ b ≤ 100000) (hc : 0 ≤ c ∧ c ≤ 100000) (hs : 0 ≤ s ∧ s ≤ 1000) (hl : 0 ≤ l ∧ l ≤ 100000) (hwd : 0 ≤ wd ∧ wd ≤ 100000) (hh : 0 ≤ h ∧ h ≤ 100000) (t0 : ¬ (off < absI (firedI a s - l))) (t1 : ¬ (off < absI (firedI b s - wd))) (t2 : ¬ (off < absI (firedI c s - h))) :
    Calls Try.prog 58 #[.pointer (some ⟨p, o, none⟩), .agg #[.int .i64 l, .int .i64 wd, .int .i64 h, .int .i64 j], .int .i64 s, .int .i64 off] w fun e w' => e = .returned (.string ⟨#[110, 111, 110, 101]⟩) ∧ Below w.heap.size w w' := by
  have fa := fired_bound ha hs
  have fb := fired_bound hb hs
  have fc := fired_bound hc hs
  have hp1 : p < (w.alloc (.cells #[.int .i64 l, .int .i64 wd, .int .i64 h, .int .i64 j] 44)).heap.size := by simp; omega
  have k0 := (World.cell?_alloc_lt w (.cells #[.int .i64 l, .int .i64 wd, .int .i64 h, .int .i64 j] 44) ⟨p, o, none⟩ hp).trans hc0
  have k1 := (World.cell?_alloc_lt w (.cells #[.int .i64 l, .int .i64 wd, .int .i64 h, .int .i64 j] 44) ⟨p, o + 1, none⟩ hp).trans hc1
  have k2 := (World.cell?_alloc_lt w (.cells #[.int .i64 l, .int .i64 wd, .int .i64 h, .int .i64 j] 44) ⟨p, o + 2, none⟩ hp).trans hc2
  have k3 := (World.cell?_alloc_lt w (.cells #[.int .i64 l, .int .i64 wd, .int .i64 h, .int .i64 j] 44) ⟨p, o + 3, none⟩ hp).trans hc3
  have hall := spec_l05All a b c d s p o (w.alloc (.cells #[.int .i64 l, .int .i64 wd, .int .i64 h, .int .i64 j] 44)) k0 k1 k2 k3 hp1 ha hb hc hs
  have HALL := hide hall
  clear hc0 hc1 hc2 hc3 k0 k1 k2 k3 hp1 hall hp
  go_enter Try.func58, Try.ntmps58
  go_wp2_with fail
  refine HALL.out.mono ?_
  rintro e w1 ⟨A', c', rfl, ho, hb1⟩
  rcases ho.head with ⟨_, hq, _⟩ | ⟨g, rfl, hg1, hg2⟩
  · omega
  obtain ⟨e0, -⟩ := own_int_at (i := 0) ho.own rfl
  obtain ⟨e1, -⟩ := own_int_at (i := 1) ho.own rfl
  obtain ⟨e2, -⟩ := own_int_at (i := 2) ho.own rfl
  have hz : w.heap.size < w1.heap.size := by have := hb1.size; simp at this; omega
  have q0 : w1.cell? ⟨w.heap.size, 0, none⟩ = some (.int .i64 l) := (hb1.cell (p := ⟨w.heap.size, 0, none⟩) (by simp)).trans (by simp [World.cell?_alloc_new])
  have q1 : w1.cell? ⟨w.heap.size, 1, none⟩ = some (.int .i64 wd) := (hb1.cell (p := ⟨w.heap.size, 1, none⟩) (by simp)).trans (by simp [World.cell?_alloc_new])
  have q2 : w1.cell? ⟨w.heap.size, 2, none⟩ = some (.int .i64 h) := (hb1.cell (p := ⟨w.heap.size, 2, none⟩) (by simp)).trans (by simp [World.cell?_alloc_new])
  have HB := hide (((Below.refl w.heap.size w).alloc (Nat.le_refl _) (.cells #[.int .i64 l, .int .i64 wd, .int .i64 h, .int .i64 j] 44)).trans (hb1.mono (by simp)))
  clear ho hb1
  generalize firedI a s = A0 at *
  generalize firedI b s = B0 at *
  generalize firedI c s = C0 at *
  have v0 := Go.IntWalk.i64_in (A0 - l) ⟨by omega, by omega⟩
  have v1 := Go.IntWalk.i64_in (B0 - wd) ⟨by omega, by omega⟩
  have v2 := Go.IntWalk.i64_in (C0 - h) ⟨by omega, by omega⟩
  go_wp2
  refine wp_region_still_tail 9 (by kernel_rfl) (by kernel_rfl) ?_
  simp only [List.take_succ_cons, List.take_zero, List.drop_succ_cons, List.drop_zero]
  still_step
  still_step
  still_step
  still_step
  still_step
  still_step
  still_call ((spec_l02Size (A0 - l) _ ⟨by omega, by omega⟩).mono fun _ _ hh => ⟨hh.1, hh.2.symm⟩)
  repeat still_step
  refine wpStill_nil ?_
  change wpList _ _ _ _ _ w1.drew
  generalize hw2 : w1.drew = w2
  replace e0 := (show w1.drew.cell? _ = _ from e0)
  rw [hw2] at e0
  replace e1 := (show w1.drew.cell? _ = _ from e1)
  rw [hw2] at e1
  replace e2 := (show w1.drew.cell? _ = _ from e2)
  rw [hw2] at e2
  replace q0 := (show w1.drew.cell? _ = _ from q0)
  rw [hw2] at q0
  replace q1 := (show w1.drew.cell? _ = _ from q1)
  rw [hw2] at q1
  replace q2 := (show w1.drew.cell? _ = _ from q2)
  rw [hw2] at q2
  have HB := hide (by have h := HB.out.drew; rw [hw2] at h; exact h)
  clear hw2
  go_wp2
  refine wp_region_still_tail 9 (by kernel_rfl) (by kernel_rfl) ?_
  simp only [List.take_succ_cons, List.take_zero, List.drop_succ_cons, List.drop_zero]
  still_step
  still_step
  still_step
  still_step
  still_step
  still_step
  still_call ((spec_l02Size (B0 - wd) _ ⟨by omega, by omega⟩).mono fun _ _ hh => ⟨hh.1, hh.2.symm⟩)
  repeat still_step
  refine wpStill_nil ?_
  change wpList _ _ _ _ _ w2.drew
  generalize hw3 : w2.drew = w3
  replace e0 := (show w2.drew.cell? _ = _ from e0)
  rw [hw3] at e0
  replace e1 := (show w2.drew.cell? _ = _ from e1)
  rw [hw3] at e1
  replace e2 := (show w2.drew.cell? _ = _ from e2)
  rw [hw3] at e2
  replace q0 := (show w2.drew.cell? _ = _ from q0)
  rw [hw3] at q0
  replace q1 := (show w2.drew.cell? _ = _ from q1)
  rw [hw3] at q1
  replace q2 := (show w2.drew.cell? _ = _ from q2)
  rw [hw3] at q2
  have HB := hide (by have h := HB.out.drew; rw [hw3] at h; exact h)
  clear hw3
  go_wp2
  refine wp_region_still_tail 9 (by kernel_rfl) (by kernel_rfl) ?_
  simp only [List.take_succ_cons, List.take_zero, List.drop_succ_cons, List.drop_zero]
  still_step
  still_step
  still_step
  still_step
  still_step
  still_step
  still_call ((spec_l02Size (C0 - h) _ ⟨by omega, by omega⟩).mono fun _ _ hh => ⟨hh.1, hh.2.symm⟩)
  repeat still_step
  refine wpStill_nil ?_
  change wpList _ _ _ _ _ w3.drew
  go_wp2
  go_ret
  exact ⟨rfl, HB.out.drew⟩
end Go.Proofs.Ytakckjmkjplbfaa
