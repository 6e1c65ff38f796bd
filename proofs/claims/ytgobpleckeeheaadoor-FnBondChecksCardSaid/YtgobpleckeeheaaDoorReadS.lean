/-
  What is proved: a bond read off a text by the reference. Condition: a length that fits.
-/
import Derived.Test.YtgobpleckeeheaaDoorCheck
namespace Go.Proofs.YtgobpleckeeheaaDoor
open Go.RowKit Go.PlainAid
set_option linter.unusedVariables false

set_option maxRecDepth 100000 in
set_option maxHeartbeats 2000000 in
theorem spec_readBond (t : ByteArray) (w : World) (hs : t.size ≤ 1048576) : Calls Tryd.prog 24 #[.string t] w (ReadPost t w) := by
  have HB0 := hide ((Below.refl w.heap.size w).alloc (Nat.le_refl _) (.cells #[.string ⟨#[]⟩, .slice none 0 0] 26))
  by_cases h : 400 < t.size
  · have HF := hide (okT_false (fun q => absurd (okT_size (t := t) q) (by omega)))
    have hd : decide (400 < (t.size : Int)) = true := by simp; omega
    clear h
    go_enter Tryd.func24, Tryd.ntmps24
    go_wp2
    refine bodyPost_ret (v := .tuple #[.agg #[.string ⟨#[]⟩, .slice none 0 0], .bool false]) ?_ rfl (readPost_no HF.out rfl ?_)
    · simp [results, Tryd.results24, go_sem]
    · have BX := HB0.out
      go_grown
  · have hd : decide (400 < (t.size : Int)) = false := by simp; omega
    clear h
    go_enter Tryd.func24, Tryd.ntmps24
    go_wp2_with fail
    refine (spec_l04Check t _ hs).mono ?_
    rintro e w1 ⟨A, c, B, d, rfl, ho, hp, hb1⟩
    have HB1 := hide (HB0.out.trans (hb1.mono (by simp)))
    have r0 := (hb1.cell (p := ⟨w.heap.size, 0, none⟩) (by simp)).trans (show _ = some (.string ⟨#[]⟩) from by simp [go_sem])
    have r1 := (hb1.cell (p := ⟨w.heap.size, 1, none⟩) (by simp)).trans (show _ = some (.slice none 0 0) from by simp [go_sem])
    have x0 := ((bcell hb1).2 w.heap.size 0 (by simp)).trans (show _ = false from by simp [go_sem])
    have x1 := ((bcell hb1).2 w.heap.size 1 (by simp)).trans (show _ = false from by simp [go_sem])
    have hz : w.heap.size < w1.heap.size := by have := hb1.size; simp at this; omega
    have HO := hide ho
    have hlen : ((((bads t).length : Nat) : Int) == 0) = okT t := by
      cases hk : okT t with
      | true => rw [bads_nil.2 hk]; rfl
      | false =>
        rw [beq_eq_false_iff_ne]
        intro q
        have h0 : bads t = [] := List.eq_nil_of_length_eq_zero (by omega)
        rw [bads_nil.1 h0] at hk
        cases hk
    have hlen2 : ((bads t).length == 0) = okT t := by
      rw [← hlen, Bool.eq_iff_iff]
      simp
    clear hb1 ho hp
    generalize hN : readN t = rn at *
    generalize hZ : readZ t = rz at *
    generalize hK : okT t = ok at *
    generalize (bads t).length = m at *
    have HN := hide hN
    have HZ := hide hZ
    have HK := hide hK
    clear hN hZ hK
    cases ok
    all_goals
      go_wp2
      refine bodyPost_ret (v := .tuple #[.agg #[.string rn, .slice A rz.length c], .bool _]) ?_ rfl ⟨A, c, by rw [HN.out, HZ.out, HK.out], ?_, ?_⟩
      · have e0 := (World.cell?_alloc_lt ((w1.setCell ⟨w.heap.size, 0, none⟩ (.string rn)).setCell ⟨w.heap.size, 1, none⟩ (.slice A rz.length c)) (.cells #[.string rn, .slice A rz.length c] 26) ⟨w.heap.size, 0, none⟩ (by simpa using hz))
        have e1 := (World.cell?_alloc_lt ((w1.setCell ⟨w.heap.size, 0, none⟩ (.string rn)).setCell ⟨w.heap.size, 1, none⟩ (.slice A rz.length c)) (.cells #[.string rn, .slice A rz.length c] 26) ⟨w.heap.size, 1, none⟩ (by simpa using hz))
        simp [results, Tryd.results24, go_sem, e0, e1, r0, r1]
      · rw [HZ.out]
        refine ⟨rfl, own_low1' ((ownsRow_setCell_below (ownsRow_setCell_below HO.out.own (a := ⟨w.heap.size, 0, none⟩) (by simp) _) (a := ⟨w.heap.size, 1, none⟩) (by simp) _).alloc _) (by simp), fun a ha => ?_, by simp⟩
        have := HO.out.up a ha
        simp
        omega
      · have BX := HB1.out
        go_grown
end Go.Proofs.YtgobpleckeeheaaDoor
