/-
  What is proved: the law FnExactSizeFault returns true and changes nothing that was there, for every input. No conditions beyond the arguments' own ranges.
-/
import Derived.Test.YtakckjmkjplbfaaFault3
import Derived.Deep.RegionWith
namespace Go.Proofs.Ytakckjmkjplbfaa
open Go.RowKit
set_option linter.unusedVariables false

set_option maxHeartbeats 20000000 in
theorem fnExactSizeFaultWalk (a0p a0q a0r a0s : Int) (a1p a1q a1r a1s : Int) (a2 : Int) (a3 : Int) (w : World) (w0p : (Lit.int .i64 a0p).wf = true) (w0q : (Lit.int .i64 a0q).wf = true) (w0r : (Lit.int .i64 a0r).wf = true) (w0s : (Lit.int .i64 a0s).wf = true) (w1p : (Lit.int .i64 a1p).wf = true) (w1q : (Lit.int .i64 a1q).wf = true) (w1r : (Lit.int .i64 a1r).wf = true) (w1s : (Lit.int .i64 a1s).wf = true) (w2 : (Lit.int .i64 a2).wf = true) (w3 : (Lit.int .i64 a3).wf = true) :
    Calls Try.prog 6 #[.agg #[.int .i64 a0p, .int .i64 a0q, .int .i64 a0r, .int .i64 a0s], .agg #[.int .i64 a1p, .int .i64 a1q, .int .i64 a1r, .int .i64 a1s], .int .i64 a2, .int .i64 a3] w fun e w' => e = .returned (.bool true) ∧ Below w.heap.size w w' := by
  clear w0p w0q w0r w0s w1p w1q w1r w1s w2 w3
  obtain ⟨K, hK⟩ : ∃ K, sfS a0p a0q a0r a0s a1p a1q a1r a1s a2 a3 = K := ⟨_, rfl⟩
  obtain ⟨cc, hC⟩ : ∃ cc, sfC a0p a0q a0r a0s a1p a1q a1r a1s a2 a3 = cc := ⟨_, rfl⟩
  have HK := hide hK
  have HC := hide hC
  clear hK hC
  go_enter Try.func6, Try.ntmps6
  go_wp2
  go_region_with (first
    | (go_at_call 20
       refine (toMould_ok _ _ _ _ _).mono ?_
       rintro e v1 ⟨rfl, hb⟩
       have hzv1 := hb.size
       simp at hzv1
       have c0 := (hb.cell (p := ⟨w.heap.size, 0, none⟩) (by simp <;> omega)).trans (show _ = some (.int .i64 a0p) from by simp [go_sem])
       have c1 := (hb.cell (p := ⟨w.heap.size, 1, none⟩) (by simp <;> omega)).trans (show _ = some (.int .i64 a0q) from by simp [go_sem])
       have c2 := (hb.cell (p := ⟨w.heap.size, 2, none⟩) (by simp <;> omega)).trans (show _ = some (.int .i64 a0r) from by simp [go_sem])
       have c3 := (hb.cell (p := ⟨w.heap.size, 3, none⟩) (by simp <;> omega)).trans (show _ = some (.int .i64 a0s) from by simp [go_sem])
       have d0 := (hb.cell (p := ⟨w.heap.size + 1, 0, none⟩) (by simp <;> omega)).trans (show _ = some (.int .i64 a1p) from by simp [go_sem])
       have d1 := (hb.cell (p := ⟨w.heap.size + 1, 1, none⟩) (by simp <;> omega)).trans (show _ = some (.int .i64 a1q) from by simp [go_sem])
       have d2 := (hb.cell (p := ⟨w.heap.size + 1, 2, none⟩) (by simp <;> omega)).trans (show _ = some (.int .i64 a1r) from by simp [go_sem])
       have d3 := (hb.cell (p := ⟨w.heap.size + 1, 3, none⟩) (by simp <;> omega)).trans (show _ = some (.int .i64 a1s) from by simp [go_sem])
       have HBv1 := hide ((((Below.refl w.heap.size w).alloc (Nat.le_refl _) (.cells #[.int .i64 a0p, .int .i64 a0q, .int .i64 a0r, .int .i64 a0s] 31)).alloc (by simp) (.cells #[.int .i64 a1p, .int .i64 a1q, .int .i64 a1r, .int .i64 a1s] 41)).drew.trans (hb.mono (by simp <;> omega)))
       clear hb)
    | (go_at_call 26
       refine (toFormat_ok _ _ _ _ _).mono ?_
       rintro e v2 ⟨rfl, hb⟩
       have hzv2 := hb.size
       replace c0 := (hb.cell (p := ⟨w.heap.size, 0, none⟩) (by first | omega | (simp; omega))).trans c0
       replace c1 := (hb.cell (p := ⟨w.heap.size, 1, none⟩) (by first | omega | (simp; omega))).trans c1
       replace c2 := (hb.cell (p := ⟨w.heap.size, 2, none⟩) (by first | omega | (simp; omega))).trans c2
       replace c3 := (hb.cell (p := ⟨w.heap.size, 3, none⟩) (by first | omega | (simp; omega))).trans c3
       replace d0 := (hb.cell (p := ⟨w.heap.size + 1, 0, none⟩) (by first | omega | (simp; omega))).trans d0
       replace d1 := (hb.cell (p := ⟨w.heap.size + 1, 1, none⟩) (by first | omega | (simp; omega))).trans d1
       replace d2 := (hb.cell (p := ⟨w.heap.size + 1, 2, none⟩) (by first | omega | (simp; omega))).trans d2
       replace d3 := (hb.cell (p := ⟨w.heap.size + 1, 3, none⟩) (by first | omega | (simp; omega))).trans d3
       have HBv2 := hide (HBv1.out.trans (hb.mono HBv1.out.size))
       clear hb)
    | (go_at_call 25
       refine (spec_sf _ _ _ _ _ _ _ _ _ _ K cc _ HK.out HC.out).mono ?_
       rintro e v3 ⟨rfl, hb⟩
       have hzv3 := hb.size
       replace c0 := (hb.cell (p := ⟨w.heap.size, 0, none⟩) (by first | omega | (simp; omega))).trans c0
       replace c1 := (hb.cell (p := ⟨w.heap.size, 1, none⟩) (by first | omega | (simp; omega))).trans c1
       replace c2 := (hb.cell (p := ⟨w.heap.size, 2, none⟩) (by first | omega | (simp; omega))).trans c2
       replace c3 := (hb.cell (p := ⟨w.heap.size, 3, none⟩) (by first | omega | (simp; omega))).trans c3
       replace d0 := (hb.cell (p := ⟨w.heap.size + 1, 0, none⟩) (by first | omega | (simp; omega))).trans d0
       replace d1 := (hb.cell (p := ⟨w.heap.size + 1, 1, none⟩) (by first | omega | (simp; omega))).trans d1
       replace d2 := (hb.cell (p := ⟨w.heap.size + 1, 2, none⟩) (by first | omega | (simp; omega))).trans d2
       replace d3 := (hb.cell (p := ⟨w.heap.size + 1, 3, none⟩) (by first | omega | (simp; omega))).trans d3
       have HBv3 := hide (HBv2.out.trans (hb.mono HBv2.out.size))
       clear hb))
  all_goals
    go_wp2
    go_region_with (first
      | (go_at_call 20
         refine (toMould_ok _ _ _ _ _).mono ?_
         rintro e v4 ⟨rfl, hb⟩
         have hzv4 := hb.size
         simp at hzv4
         replace c0 := (hb.cell (p := ⟨w.heap.size, 0, none⟩) (by first | omega | (simp; omega))).trans c0
         replace c1 := (hb.cell (p := ⟨w.heap.size, 1, none⟩) (by first | omega | (simp; omega))).trans c1
         replace c2 := (hb.cell (p := ⟨w.heap.size, 2, none⟩) (by first | omega | (simp; omega))).trans c2
         replace c3 := (hb.cell (p := ⟨w.heap.size, 3, none⟩) (by first | omega | (simp; omega))).trans c3
         replace d0 := (hb.cell (p := ⟨w.heap.size + 1, 0, none⟩) (by first | omega | (simp; omega))).trans d0
         replace d1 := (hb.cell (p := ⟨w.heap.size + 1, 1, none⟩) (by first | omega | (simp; omega))).trans d1
         replace d2 := (hb.cell (p := ⟨w.heap.size + 1, 2, none⟩) (by first | omega | (simp; omega))).trans d2
         replace d3 := (hb.cell (p := ⟨w.heap.size + 1, 3, none⟩) (by first | omega | (simp; omega))).trans d3
         have HBv4 := hide (HBv3.out.drew.trans (hb.mono (by first | exact HBv3.out.size | (simp; omega))))
         clear hb)
      | (go_at_call 26
         refine (toFormat_ok _ _ _ _ _).mono ?_
         rintro e v5 ⟨rfl, hb⟩
         have hzv5 := hb.size
         replace c0 := (hb.cell (p := ⟨w.heap.size, 0, none⟩) (by first | omega | (simp; omega))).trans c0
         replace c1 := (hb.cell (p := ⟨w.heap.size, 1, none⟩) (by first | omega | (simp; omega))).trans c1
         replace c2 := (hb.cell (p := ⟨w.heap.size, 2, none⟩) (by first | omega | (simp; omega))).trans c2
         replace c3 := (hb.cell (p := ⟨w.heap.size, 3, none⟩) (by first | omega | (simp; omega))).trans c3
         replace d0 := (hb.cell (p := ⟨w.heap.size + 1, 0, none⟩) (by first | omega | (simp; omega))).trans d0
         replace d1 := (hb.cell (p := ⟨w.heap.size + 1, 1, none⟩) (by first | omega | (simp; omega))).trans d1
         replace d2 := (hb.cell (p := ⟨w.heap.size + 1, 2, none⟩) (by first | omega | (simp; omega))).trans d2
         replace d3 := (hb.cell (p := ⟨w.heap.size + 1, 3, none⟩) (by first | omega | (simp; omega))).trans d3
         have HBv5 := hide (HBv4.out.trans (hb.mono HBv4.out.size))
         clear hb)
      | (go_at_call 27
         refine (impl_sf _ _ _ _ _ _ _ _ _ _ K cc _ HK.out HC.out).mono ?_
         rintro e v6 ⟨rfl, hb⟩
         have hzv6 := hb.size
         replace c0 := (hb.cell (p := ⟨w.heap.size, 0, none⟩) (by first | omega | (simp; omega))).trans c0
         replace c1 := (hb.cell (p := ⟨w.heap.size, 1, none⟩) (by first | omega | (simp; omega))).trans c1
         replace c2 := (hb.cell (p := ⟨w.heap.size, 2, none⟩) (by first | omega | (simp; omega))).trans c2
         replace c3 := (hb.cell (p := ⟨w.heap.size, 3, none⟩) (by first | omega | (simp; omega))).trans c3
         replace d0 := (hb.cell (p := ⟨w.heap.size + 1, 0, none⟩) (by first | omega | (simp; omega))).trans d0
         replace d1 := (hb.cell (p := ⟨w.heap.size + 1, 1, none⟩) (by first | omega | (simp; omega))).trans d1
         replace d2 := (hb.cell (p := ⟨w.heap.size + 1, 2, none⟩) (by first | omega | (simp; omega))).trans d2
         replace d3 := (hb.cell (p := ⟨w.heap.size + 1, 3, none⟩) (by first | omega | (simp; omega))).trans d3
         have HBv6 := hide (HBv5.out.trans (hb.mono HBv5.out.size))
         clear hb))
  all_goals
    go_wp2
    go_ret
    exact ⟨rfl, HBv6.out⟩
end Go.Proofs.Ytakckjmkjplbfaa
