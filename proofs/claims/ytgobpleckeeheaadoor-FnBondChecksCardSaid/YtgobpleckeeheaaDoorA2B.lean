/-
  What is proved: the bond that the reference draws from a code is valid and lies in memory of its own. Condition: the code is an argument.
-/
import Derived.Test.YtgobpleckeeheaaDoorDrawB3
namespace Go.Proofs.YtgobpleckeeheaaDoor
open Go.RowKit Go.PlainAid
set_option linter.unusedVariables false

/-- What A2Bond gives. -/
def IsBond (w : World) (e : Ending) (w' : World) : Prop :=
  ∃ (s : ByteArray) (zs : List Course) (B : Option Addr) (d : Nat), bondOk s zs = true ∧ e = .returned (.agg #[.string s, .slice B zs.length d]) ∧ Own 33 2 Course.enc w' w.heap.size w'.heap.size B zs.length d zs ∧ Below w.heap.size w w'
set_option maxHeartbeats 1000000 in
theorem a2Bond (w : World) (A : Option Addr) (n c : Nat) (z : List Int) (ha : ArgInts .u8 w A n c z) :
    Calls Tryd.prog 5 #[.slice A n c] w (IsBond w) := by
  have HA := hide (ha.below ((Below.refl _ _).alloc (Nat.le_refl _) (.cells #[.string ⟨#[]⟩, .slice none 0 0] 26)))
  have HR := hide (Blk.new w 26 #[.string ⟨#[]⟩, .slice none 0 0])
  clear ha
  go_enter Tryd.func5, Tryd.ntmps5
  go_wp2_with fail
  refine (src_from _ _ _ _).mono ?_
  rintro e w1 ⟨rfl, hw1⟩
  obtain ⟨hs, hb1⟩ := src_start _ _ _ _ _ hw1
  have hsz : (w.alloc (.cells #[.string ⟨#[]⟩, .slice none 0 0] 26)).heap.size = w.heap.size + 1 := by simp
  rw [hsz] at hs hb1
  have hz1 : w1.heap.size = w.heap.size + 2 := by rw [← hw1]; simp
  have HS := hide hs
  have HB1 := hide hb1
  have HR1 := hide (HR.out.below hb1 (Nat.lt_succ_self _))
  clear hs hb1 hw1 hsz
  go_wp2_with fail
  refine (src_l04Draw _ _ _ A n c 0 z (by omega) HA.out HS.out).mono ?_
  rintro e w2 ⟨s, zs, B, d, k', hbo, rfl, ho, hk', hs2, ho2⟩
  have HBO := hide hbo
  have HOW := hide ho
  have HB2 := hide (HB1.out.trans (ho2.below (Nat.le_refl _) (by omega)))
  obtain ⟨r0, r1, x0, x1⟩ := two_cells (ho2.blk HR1.out (by omega))
  have hz2 : w.heap.size < w2.heap.size := by have := ho2.size; omega
  have hz3 : w.heap.size < w1.heap.size := by omega
  obtain ⟨nz, hnz⟩ : ∃ r, zs.length = r := ⟨_, rfl⟩
  rw [hnz]
  rw [hnz] at HOW
  have HNZ := hide hnz
  clear hbo ho hs2 ho2 hnz hz1
  go_wp2
  refine bodyPost_ret (v := .agg #[.string s, .slice B nz d]) ?_ rfl ⟨s, zs, B, d, HBO.out, by rw [HNZ.out], ?_, ?_⟩
  · simp [results, Tryd.results5, go_sem, r0, r1]
  · rw [HNZ.out]
    refine ⟨HNZ.out, own_low1' (ownsRow_setCell_below (ownsRow_setCell_below HOW.out.own (a := ⟨w.heap.size, 0, none⟩) hz3 _) (a := ⟨w.heap.size, 1, none⟩) hz3 _) (by omega), fun a ha => ?_, by simp⟩
    have := HOW.out.up a ha
    simp
    omega
  · have B0 : Below w.heap.size w w2 := ((Below.refl w.heap.size w).alloc (Nat.le_refl _) (.cells #[.string ⟨#[]⟩, .slice none 0 0] 26)).trans (HB2.out.mono (Nat.le_succ _))
    go_grown
end Go.Proofs.YtgobpleckeeheaaDoor
