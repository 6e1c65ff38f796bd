/-
  What is proved: what the reference draws as one clay. Conditions: as for the source.
-/
import Derived.Test.YtgobpleckeeheaaAmong
namespace Go.Proofs.Ytgobpleckeeheaa
open Go.RowKit
set_option linter.unusedVariables false

theorem five_cells {w : World} {g : Nat} {t : TypeId} {x0 x1 x2 x3 x4 : Value} (h : Blk w g t #[x0, x1, x2, x3, x4]) :
    w.cell? ⟨g, 0, none⟩ = some x0 ∧ w.cell? ⟨g, 1, none⟩ = some x1 ∧ w.cell? ⟨g, 2, none⟩ = some x2 ∧ w.cell? ⟨g, 3, none⟩ = some x3 ∧ w.cell? ⟨g, 4, none⟩ = some x4 ∧
    w.frozen? ⟨g, 0, none⟩ = false ∧ w.frozen? ⟨g, 1, none⟩ = false ∧ w.frozen? ⟨g, 2, none⟩ = false ∧ w.frozen? ⟨g, 3, none⟩ = false ∧ w.frozen? ⟨g, 4, none⟩ = false :=
  ⟨h.cell 0, h.cell 1, h.cell 2, h.cell 3, h.cell 4, h.frozen 0, h.frozen 1, h.frozen 2, h.frozen 3, h.frozen 4⟩
set_option maxRecDepth 100000 in
set_option maxHeartbeats 2000000 in
theorem src_l03New (nm : ByteArray) (w0 w : World) (b : Nat) (A : Option Addr) (n c k : Nat) (z : List Int) (hk : k < 1099511627700) (ha : ArgInts .u8 w0 A n c z) (hs : Src w0 w b A n c k) :
    Calls Try.prog 57 #[.pointer (some ⟨b, 0, none⟩), .string nm] w fun e w' => ∃ (v1 v2 v3 v4 : Int) (k' : Nat), (0 ≤ v1 ∧ v1 < 20 ∧ 0 ≤ v2 ∧ v2 < 20 ∧ 0 ≤ v3 ∧ v3 < 30 ∧ 0 ≤ v4 ∧ v4 < 40) ∧ e = .returned (.agg #[.string nm, .int .i64 (40 + 5 * v1), .int .i64 (10 * v2), .int .i64 (20 * v3), .int .i64 (10 * v4)]) ∧ k' ≤ k + 8 ∧ Src w0 w' b A n c k' ∧ Only b w w' := by
  have HA := hide ha
  have hbl := hs.lt
  have hba := hs.base
  have hw0 : w0.heap.size ≤ w.heap.size := hs.2.1.size
  have HS := hide (hs.alloc (.cells #[.string ⟨#[]⟩, .int .i64 0, .int .i64 0, .int .i64 0, .int .i64 0] 39))
  have HR := hide (Blk.new w 39 #[.string ⟨#[]⟩, .int .i64 0, .int .i64 0, .int .i64 0, .int .i64 0])
  have hn0 : w.heap.size ≠ b := by omega
  clear ha hs
  go_enter Try.func57, Try.ntmps57
  go_wp2_with fail
  refine (src_pick w0 _ b A n c k z 20 (by omega) (by omega) (by omega) HA.out HS.out).mono ?_
  rintro e w1 ⟨v1, k1, hv1, hv1', rfl, hk1, hs1, ho1⟩
  have hz1 : w.heap.size < w1.heap.size := by have := ho1.size; simp at this; omega
  have hn1 : w1.heap.size ≠ b := by omega
  have hwa : w0.heap.size ≤ w1.heap.size := by omega
  have HO1 := hide ((((Only.refl b w).alloc _).trans ho1).alloc (.cells #[.string nm, .int .i64 (40 + 5 * v1), .int .i64 0, .int .i64 0, .int .i64 0] 39))
  have HR1 := hide ((ho1.blk HR.out hn0).alloc (.cells #[.string nm, .int .i64 (40 + 5 * v1), .int .i64 0, .int .i64 0, .int .i64 0] 39))
  have HS1 := hide (hs1.alloc (.cells #[.string nm, .int .i64 (40 + 5 * v1), .int .i64 0, .int .i64 0, .int .i64 0] 39))
  have HF1 := hide (Blk.new w1 39 #[.string nm, .int .i64 (40 + 5 * v1), .int .i64 0, .int .i64 0, .int .i64 0])
  clear hs1 ho1
  go_wp2_with fail
  refine (src_pick w0 _ b A n c k1 z 20 (by omega) (by omega) (by omega) HA.out HS1.out).mono ?_
  rintro e w2 ⟨v2, k2, hv2, hv2', rfl, hk2, hs2, ho2⟩
  have hz2 : w1.heap.size < w2.heap.size := by have := ho2.size; simp at this; omega
  have hF2 := ho2.blk HF1.out hn1
  obtain ⟨a0, a1, a2, a3, a4, g0, g1, g2, g3, g4⟩ := five_cells hF2
  have HR2 := hide ((ho2.blk HR1.out hn0).far (p := ⟨w1.heap.size, 2, none⟩) (by show w.heap.size ≠ w1.heap.size; omega) (.int .i64 (10 * v2)))
  have HS2 := hide (hs2.set_ (p := ⟨w1.heap.size, 2, none⟩) hn1 hwa (.int .i64 (10 * v2)))
  have HO2 := hide ((HO1.out.trans ho2).set_ (p := ⟨w1.heap.size, 2, none⟩) (.inr (by show w.heap.size ≤ w1.heap.size; omega)) (.int .i64 (10 * v2)))
  have HF2 := hide (hF2.set_ 2 (.int .i64 (10 * v2)))
  clear hs2 ho2 hF2
  go_wp2_with fail
  refine (src_pick w0 _ b A n c k2 z 30 (by omega) (by omega) (by omega) HA.out HS2.out).mono ?_
  rintro e w3 ⟨v3, k3, hv3, hv3', rfl, hk3, hs3, ho3⟩
  have hz3 : w1.heap.size < w3.heap.size := by have := ho3.size; simp at this; omega
  clear a0 a1 a2 a3 a4 g0 g1 g2 g3 g4
  have hF3 := ho3.blk HF2.out hn1
  obtain ⟨a0, a1, a2, a3, a4, g0, g1, g2, g3, g4⟩ := five_cells hF3
  have HR3 := hide ((ho3.blk HR2.out hn0).far (p := ⟨w1.heap.size, 3, none⟩) (by show w.heap.size ≠ w1.heap.size; omega) (.int .i64 (20 * v3)))
  have HS3 := hide (hs3.set_ (p := ⟨w1.heap.size, 3, none⟩) hn1 hwa (.int .i64 (20 * v3)))
  have HO3 := hide ((HO2.out.trans ho3).set_ (p := ⟨w1.heap.size, 3, none⟩) (.inr (by show w.heap.size ≤ w1.heap.size; omega)) (.int .i64 (20 * v3)))
  have HF3 := hide (hF3.set_ 3 (.int .i64 (20 * v3)))
  clear hs3 ho3 hF3
  go_wp2_with fail
  refine (src_pick w0 _ b A n c k3 z 40 (by omega) (by omega) (by omega) HA.out HS3.out).mono ?_
  rintro e w4 ⟨v4, k4, hv4, hv4', rfl, hk4, hs4, ho4⟩
  have hz4 : w1.heap.size < w4.heap.size := by have := ho4.size; simp at this; omega
  clear a0 a1 a2 a3 a4 g0 g1 g2 g3 g4
  have hF4 := ho4.blk HF3.out hn1
  obtain ⟨a0, a1, a2, a3, a4, g0, g1, g2, g3, g4⟩ := five_cells hF4
  have hR4 := ho4.blk HR3.out hn0
  obtain ⟨r0, r1, r2, r3, r4, q0, q1, q2, q3, q4⟩ := five_cells hR4
  have HS4 := hide (hs4.set_ (p := ⟨w1.heap.size, 4, none⟩) hn1 hwa (.int .i64 (10 * v4)))
  have HO4 := hide ((HO3.out.trans ho4).set_ (p := ⟨w1.heap.size, 4, none⟩) (.inr (by show w.heap.size ≤ w1.heap.size; omega)) (.int .i64 (10 * v4)))
  clear hs4 ho4 hF4 hR4
  go_wp2
  refine bodyPost_ret (v := .agg #[.string nm, .int .i64 (40 + 5 * v1), .int .i64 (10 * v2), .int .i64 (20 * v3), .int .i64 (10 * v4)]) ?_ rfl ?_
  · simp [results, Try.results57, go_sem, r0, r1, r2, r3, r4]
  · exact ⟨v1, v2, v3, v4, k4, ⟨hv1, hv1', hv2, hv2', hv3, hv3', hv4, hv4'⟩, rfl, by omega, (((((HS4.out.set_ (p := ⟨w.heap.size, 0, none⟩) hn0 hw0 _).set_ (p := ⟨w.heap.size, 1, none⟩) hn0 hw0 _).set_ (p := ⟨w.heap.size, 2, none⟩) hn0 hw0 _).set_ (p := ⟨w.heap.size, 3, none⟩) hn0 hw0 _).set_ (p := ⟨w.heap.size, 4, none⟩) hn0 hw0 _), (((((HO4.out.set_ (p := ⟨w.heap.size, 0, none⟩) (.inr (Nat.le_refl _)) _).set_ (p := ⟨w.heap.size, 1, none⟩) (.inr (Nat.le_refl _)) _).set_ (p := ⟨w.heap.size, 2, none⟩) (.inr (Nat.le_refl _)) _).set_ (p := ⟨w.heap.size, 3, none⟩) (.inr (Nat.le_refl _)) _).set_ (p := ⟨w.heap.size, 4, none⟩) (.inr (Nat.le_refl _)) _)⟩
end Go.Proofs.Ytgobpleckeeheaa
