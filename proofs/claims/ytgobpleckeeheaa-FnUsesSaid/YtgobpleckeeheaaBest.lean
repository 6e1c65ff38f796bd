/-
  What is proved: the sum of the differences of all sizes, of the reference. Conditions: sizes in a small range.
-/
import Derived.Test.YtgobpleckeeheaaFault
namespace Go.Proofs.Ytgobpleckeeheaa
open Go.RowKit
set_option linter.unusedVariables false

def offI (a b c l wd h s : Int) : Int := absI (firedI a s - l) + absI (firedI b s - wd) + absI (firedI c s - h)
set_option maxRecDepth 100000 in
set_option maxHeartbeats 1000000 in
theorem spec_l05Off (a b c d l wd h j s : Int) (p o : Nat) (w : World) (hc0 : w.cell? ⟨p, o, none⟩ = some (.int .i64 a)) (hc1 : w.cell? ⟨p, o + 1, none⟩ = some (.int .i64 b)) (hc2 : w.cell? ⟨p, o + 2, none⟩ = some (.int .i64 c)) (hc3 : w.cell? ⟨p, o + 3, none⟩ = some (.int .i64 d)) (hp : p < w.heap.size) (ha : 0 ≤ a ∧ a ≤ 100000) (hb : 0 ≤ b ∧ b ≤ 100000) (hc : 0 ≤ c ∧ c ≤ 100000) (hs : 0 ≤ s ∧ s ≤ 1000) (hl : 0 ≤ l ∧ l ≤ 100000) (hwd : 0 ≤ wd ∧ wd ≤ 100000) (hh : 0 ≤ h ∧ h ≤ 100000) :
    Calls Try.prog 83 #[.pointer (some ⟨p, o, none⟩), .agg #[.int .i64 l, .int .i64 wd, .int .i64 h, .int .i64 j], .int .i64 s] w fun e w' => e = .returned (.int .i64 (offI a b c l wd h s)) ∧ Below w.heap.size w w' := by
  unfold offI
  have fa := fired_bound ha hs
  have fb := fired_bound hb hs
  have fc := fired_bound hc hs
  have hp1 : p < (w.alloc (.cells #[.int .i64 l, .int .i64 wd, .int .i64 h, .int .i64 j] 55)).heap.size := by simp; omega
  have k0 := (World.cell?_alloc_lt w (.cells #[.int .i64 l, .int .i64 wd, .int .i64 h, .int .i64 j] 55) ⟨p, o, none⟩ hp).trans hc0
  have k1 := (World.cell?_alloc_lt w (.cells #[.int .i64 l, .int .i64 wd, .int .i64 h, .int .i64 j] 55) ⟨p, o + 1, none⟩ hp).trans hc1
  have k2 := (World.cell?_alloc_lt w (.cells #[.int .i64 l, .int .i64 wd, .int .i64 h, .int .i64 j] 55) ⟨p, o + 2, none⟩ hp).trans hc2
  have k3 := (World.cell?_alloc_lt w (.cells #[.int .i64 l, .int .i64 wd, .int .i64 h, .int .i64 j] 55) ⟨p, o + 3, none⟩ hp).trans hc3
  have hall := spec_l05All a b c d s p o (w.alloc (.cells #[.int .i64 l, .int .i64 wd, .int .i64 h, .int .i64 j] 55)) k0 k1 k2 k3 hp1 ha hb hc hs
  have HALL := hide hall
  clear hc0 hc1 hc2 hc3 k0 k1 k2 k3 hp1 hall hp
  go_enter Try.func83, Try.ntmps83
  go_wp2_with fail
  refine HALL.out.mono ?_
  rintro e w1 ⟨A', c', rfl, ho, hb1⟩
  rcases ho.head with ⟨_, hq, _⟩ | ⟨g, rfl, hg1, hg2⟩
  · omega
  obtain ⟨e0, -⟩ := own_int_at (i := 0) ho.own rfl
  obtain ⟨e1, -⟩ := own_int_at (i := 1) ho.own rfl
  obtain ⟨e2, -⟩ := own_int_at (i := 2) ho.own rfl
  have hz : w.heap.size < w1.heap.size := by have := hb1.size; simp at this; omega
  have q0 : w1.cell? ⟨w.heap.size, 0, none⟩ = some (.int .i64 l) := (hb1.cell (p := ⟨w.heap.size, 0, none⟩) (by simp)).trans (by simp [World.cell?_alloc_new])
  have q1 : w1.cell? ⟨w.heap.size, 1, none⟩ = some (.int .i64 wd) := (hb1.cell (p := ⟨w.heap.size, 1, none⟩) (by simp)).trans (by simp [World.cell?_alloc_new])
  have q2 : w1.cell? ⟨w.heap.size, 2, none⟩ = some (.int .i64 h) := (hb1.cell (p := ⟨w.heap.size, 2, none⟩) (by simp)).trans (by simp [World.cell?_alloc_new])
  have HB := hide (((Below.refl w.heap.size w).alloc (Nat.le_refl _) (.cells #[.int .i64 l, .int .i64 wd, .int .i64 h, .int .i64 j] 55)).trans (hb1.mono (by simp)))
  clear ho hb1
  have n0 := absI_bound fa hl
  have n1 := absI_bound fb hwd
  have n2 := absI_bound fc hh
  generalize hA0 : firedI a s = A0 at *
  generalize hB0 : firedI b s = B0 at *
  generalize hC0 : firedI c s = C0 at *
  have v0 := Go.IntWalk.i64_in (A0 - l) ⟨by omega, by omega⟩
  have v1 := Go.IntWalk.i64_in (B0 - wd) ⟨by omega, by omega⟩
  have v2 := Go.IntWalk.i64_in (C0 - h) ⟨by omega, by omega⟩
  have x0 := Go.IntWalk.i64_in (absI (A0 - l) + absI (B0 - wd)) ⟨by omega, by omega⟩
  have x1 := Go.IntWalk.i64_in (absI (A0 - l) + absI (B0 - wd) + absI (C0 - h)) ⟨by omega, by omega⟩
  go_wp2
  refine wp_region_still_tail 23 (by kernel_rfl) (by kernel_rfl) ?_
  simp only [List.take_succ_cons, List.take_zero, List.drop_succ_cons, List.drop_zero]
  still_step
  still_step
  still_step
  still_step
  still_step
  still_step
  still_call ((spec_l02Size (A0 - l) _ ⟨by omega, by omega⟩).mono fun _ _ hh => ⟨hh.1, hh.2.symm⟩)
  still_step
  still_step
  still_step
  still_step
  still_step
  still_step
  still_call ((spec_l02Size (B0 - wd) _ ⟨by omega, by omega⟩).mono fun _ _ hh => ⟨hh.1, hh.2.symm⟩)
  still_step
  still_step
  still_step
  still_step
  still_step
  still_step
  still_step
  still_call ((spec_l02Size (C0 - h) _ ⟨by omega, by omega⟩).mono fun _ _ hh => ⟨hh.1, hh.2.symm⟩)
  repeat still_step
  refine wpStill_nil ?_
  change wpList _ _ _ _ _ w1.drew
  go_wp2
  go_ret
  refine ⟨?_, HB.out.drew⟩
  subst hA0 hB0 hC0
  rfl
end Go.Proofs.Ytgobpleckeeheaa
