/-
  What is proved: a text's bond and its problems, of the reference. Condition: a length that fits.
-/
import Derived.Test.YtlokmkiicmpccaaDoorCheckI
namespace Go.Proofs.YtlokmkiicmpccaaDoor
open Go.RowKit Go.PlainAid
set_option linter.unusedVariables false

set_option maxRecDepth 100000 in
set_option maxHeartbeats 2000000 in
theorem spec_checkBond (t : ByteArray) (w : World) (hs : t.size ≤ 1048576) : Calls Tryd.prog 21 #[.string t] w (BondPost t w) := by
  have HB0 := hide ((Below.refl w.heap.size w).alloc (Nat.le_refl _) (.cells #[.string ⟨#[]⟩, .slice none 0 0] 29))
  by_cases h : 400 < t.size
  · have hd : decide (400 < (t.size : Int)) = true := by simp; omega
    go_enter Tryd.func21, Tryd.ntmps21
    go_wp2
    refine bodyPost_ret (v := .tuple #[.agg #[.string ⟨#[]⟩, .slice none 0 0], .slice none 0 0, .int .i64 5]) ?_ rfl (bondPost_long h rfl ?_)
    · simp [results, Tryd.results21, go_sem]
    · have BX := HB0.out
      go_grown
  · have hd : decide (400 < (t.size : Int)) = false := by simp; omega
    have HL := hide h
    clear h
    go_enter Tryd.func21, Tryd.ntmps21
    go_wp2_with fail
    refine (spec_l04Check t _ hs).mono ?_
    rintro e w1 ⟨A, c, B, d, rfl, ho, hp, hb1⟩
    have HB1 := hide (HB0.out.trans (hb1.mono (by simp)))
    have r0 := (hb1.cell (p := ⟨w.heap.size, 0, none⟩) (by simp)).trans (show _ = some (.string ⟨#[]⟩) from by simp [go_sem])
    have r1 := (hb1.cell (p := ⟨w.heap.size, 1, none⟩) (by simp)).trans (show _ = some (.slice none 0 0) from by simp [go_sem])
    have x0 := ((bcell hb1).2 w.heap.size 0 (by simp)).trans (show _ = false from by simp [go_sem])
    have x1 := ((bcell hb1).2 w.heap.size 1 (by simp)).trans (show _ = false from by simp [go_sem])
    have hz : w.heap.size < w1.heap.size := by have := hb1.size; simp at this; omega
    have HO := hide ho
    have HP := hide hp
    clear hb1 ho hp
    obtain ⟨rn, hN⟩ : ∃ r, readN t = r := ⟨_, rfl⟩
    obtain ⟨rz, hZ⟩ : ∃ r, readZ t = r := ⟨_, rfl⟩
    obtain ⟨bs, hS⟩ : ∃ r, bads t = r := ⟨_, rfl⟩
    obtain ⟨nz, hnz⟩ : ∃ r, rz.length = r := ⟨_, rfl⟩
    obtain ⟨nb, hnb⟩ : ∃ r, bs.length = r := ⟨_, rfl⟩
    rw [hN, hZ, hS, hnz, hnb]
    rw [hZ, hnz] at HO
    rw [hS, hnb] at HP
    have HN := hide hN
    have HZ := hide hZ
    have HS := hide (show badsP t = bs from (if_neg HL.out).trans hS)
    have HNZ := hide hnz
    have HNB := hide hnb
    clear hN hZ hS hnz hnb
    go_wp2
    refine bodyPost_ret (v := .tuple #[.agg #[.string rn, .slice A nz c], .slice B nb d, .int .i64 0]) ?_ rfl ⟨A, c, B, d, by rw [HN.out, HZ.out, HS.out, HNZ.out, HNB.out, if_neg HL.out], ?_, ?_, ?_⟩
    · have e0 := (World.cell?_alloc_lt ((w1.setCell ⟨w.heap.size, 0, none⟩ (.string rn)).setCell ⟨w.heap.size, 1, none⟩ (.slice A nz c)) (.cells #[.string rn, .slice A nz c] 29) ⟨w.heap.size, 0, none⟩ (by simpa using hz))
      have e1 := (World.cell?_alloc_lt ((w1.setCell ⟨w.heap.size, 0, none⟩ (.string rn)).setCell ⟨w.heap.size, 1, none⟩ (.slice A nz c)) (.cells #[.string rn, .slice A nz c] 29) ⟨w.heap.size, 1, none⟩ (by simpa using hz))
      simp [results, Tryd.results21, go_sem, e0, e1, r0, r1]
    · rw [HZ.out, HNZ.out]
      refine ⟨HNZ.out, own_low1' ((ownsRow_setCell_below (ownsRow_setCell_below HO.out.own (a := ⟨w.heap.size, 0, none⟩) (by simp) _) (a := ⟨w.heap.size, 1, none⟩) (by simp) _).alloc _) (by simp), fun a ha => ?_, by simp⟩
      have := HO.out.up a ha
      simp
      omega
    · rw [HS.out, HNB.out]
      refine ⟨HNB.out, own_low1' ((ownsRow_setCell_below (ownsRow_setCell_below HP.out.own (a := ⟨w.heap.size, 0, none⟩) (by simp) _) (a := ⟨w.heap.size, 1, none⟩) (by simp) _).alloc _) (by simp), fun a ha => ?_, by simp⟩
      have := HP.out.up a ha
      simp
      omega
    · have BX := HB1.out
      go_grown
end Go.Proofs.YtlokmkiicmpccaaDoor
