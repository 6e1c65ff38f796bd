/-
  What is proved: a clay added to a list: one contract each, of the program and of the reference. Conditions: lengths that fit.
-/
import Derived.Test.YtfjdhjbfingofaaGreatDoorAdd
namespace Go.Proofs.YtfjdhjbfingofaaGreatDoor
open Go.RowKit
set_option linter.unusedVariables false

theorem touch_cell {lo hi b i : Nat} {w w' : World} (h : Touch lo hi w w') (h1 : b < lo) (h2 : b < w.heap.size) : w'.cell? ⟨b, i, none⟩ = w.cell? ⟨b, i, none⟩ :=
  World.cell?_of_block (h.block b h2 (.inl h1))
theorem impl_add (b off n c : Nat) (zs : List Clay) (x0 : ByteArray) (x1 x2 x3 x4 : Int) (w : World) (hn : n ≤ 16777216) (hnc : n ≤ c) (hl : zs.length = n) (ha : Row Clay.enc 5 w (some ⟨b, off, none⟩) zs) (hM : Names zs) (hs : x0.size ≤ maxLen) :
    Calls Tryz.prog 15 #[.slice (some ⟨b, off, none⟩) n c, .agg #[.string x0, .int .i64 x1, .int .i64 x2, .int .i64 x3, .int .i64 x4]] w fun e w' => ∃ A' c', e = .returned (.tuple #[.slice A' (addL zs ⟨x0, x1, x2, x3, x4⟩).length c', .int .i64 (addC zs ⟨x0, x1, x2, x3, x4⟩)]) ∧ Own 35 5 Clay.enc w' w.heap.size w'.heap.size A' (addL zs ⟨x0, x1, x2, x3, x4⟩).length c' (addL zs ⟨x0, x1, x2, x3, x4⟩) ∧ Below w.heap.size w w' := by
  have hle : zs.length ≤ 6 ∨ claysOk zs = false := by
    cases h : claysOk zs
    · exact .inr rfl
    · exact .inl (clays_six h)
  by_cases h1 : claysOk zs = true
  case neg =>
    rw [show addL zs ⟨x0, x1, x2, x3, x4⟩ = [] from if_neg (fun q => h1 q.1), show addC zs ⟨x0, x1, x2, x3, x4⟩ = 1 from if_neg h1]
    exact impl_add_bad b off n c zs x0 x1 x2 x3 x4 w hn hnc hl ha hM hs (by simpa using h1)
  by_cases h2 : Clay.ok ⟨x0, x1, x2, x3, x4⟩ = true
  case neg =>
    rw [show addL zs ⟨x0, x1, x2, x3, x4⟩ = [] from if_neg (fun q => h2 q.2.1), show addC zs ⟨x0, x1, x2, x3, x4⟩ = 2 from (if_pos h1).trans (if_neg h2)]
    exact impl_add_range b off n c zs x0 x1 x2 x3 x4 w hn hnc hl ha hM hs h1 (by simpa using h2)
  by_cases h3 : hasName zs x0 = true
  · rw [show addL zs ⟨x0, x1, x2, x3, x4⟩ = [] from if_neg (fun q => by have := q.2.2.1; rw [show (Clay.n ⟨x0, x1, x2, x3, x4⟩) = x0 from rfl, h3] at this; cases this), show addC zs ⟨x0, x1, x2, x3, x4⟩ = 4 from (if_pos h1).trans ((if_pos h2).trans (if_pos h3))]
    exact impl_add_has b off n c zs x0 x1 x2 x3 x4 w hn hnc hl ha hM hs h1 h2 h3
  have h3' : hasName zs x0 = false := by simpa using h3
  by_cases h4 : zs.length < 6
  · rw [show addL zs ⟨x0, x1, x2, x3, x4⟩ = zs ++ [⟨x0, x1, x2, x3, x4⟩] from if_pos ⟨h1, h2, h3', h4⟩, show addC zs ⟨x0, x1, x2, x3, x4⟩ = 0 from (if_pos h1).trans ((if_pos h2).trans ((if_neg h3).trans (if_pos h4))), List.length_append, hl]
    exact impl_add_yes b off n c zs x0 x1 x2 x3 x4 w hn hnc hl ha hM hs h1 h2 h3' (by omega)
  · rw [show addL zs ⟨x0, x1, x2, x3, x4⟩ = [] from if_neg (fun q => h4 q.2.2.2), show addC zs ⟨x0, x1, x2, x3, x4⟩ = 5 from (if_pos h1).trans ((if_pos h2).trans ((if_neg h3).trans (if_neg h4)))]
    exact impl_add_full b off n c zs x0 x1 x2 x3 x4 w hn hnc hl ha hM hs h1 h2 h3' (by rcases hle with q | q; omega; rw [h1] at q; cases q)
theorem impl_add' (K : List Clay) (cc : Int) (b off n c : Nat) (zs : List Clay) (x0 : ByteArray) (x1 x2 x3 x4 : Int) (w : World) (hn : n ≤ 16777216) (hnc : n ≤ c) (hl : zs.length = n) (ha : Row Clay.enc 5 w (some ⟨b, off, none⟩) zs) (hM : Names zs) (hs : x0.size ≤ maxLen) (hK : addL zs ⟨x0, x1, x2, x3, x4⟩ = K) (hC : addC zs ⟨x0, x1, x2, x3, x4⟩ = cc) :
    Calls Tryz.prog 15 #[.slice (some ⟨b, off, none⟩) n c, .agg #[.string x0, .int .i64 x1, .int .i64 x2, .int .i64 x3, .int .i64 x4]] w fun e w' => ∃ A' c', e = .returned (.tuple #[.slice A' K.length c', .int .i64 cc]) ∧ Own 35 5 Clay.enc w' w.heap.size w'.heap.size A' K.length c' K ∧ Below w.heap.size w w' := by
  subst hK hC
  exact impl_add b off n c zs x0 x1 x2 x3 x4 w hn hnc hl ha hM hs
theorem spec_add (b off n c : Nat) (zs : List Clay) (x0 : ByteArray) (x1 x2 x3 x4 : Int) (w : World) (hn : n ≤ 16777216) (hnc : n ≤ c) (hl : zs.length = n) (ha : Row Clay.enc 5 w (some ⟨b, off, none⟩) zs) (hM : Names zs) (hs : x0.size ≤ maxLen) :
    Calls Tryz.prog 16 #[.slice (some ⟨b, off, none⟩) n c, .agg #[.string x0, .int .i64 x1, .int .i64 x2, .int .i64 x3, .int .i64 x4]] w fun e w' => ∃ A' c', e = .returned (.tuple #[.slice A' (addL zs ⟨x0, x1, x2, x3, x4⟩).length c', .int .i64 (addC zs ⟨x0, x1, x2, x3, x4⟩)]) ∧ Own 35 5 Clay.enc w' w.heap.size w'.heap.size A' (addL zs ⟨x0, x1, x2, x3, x4⟩).length c' (addL zs ⟨x0, x1, x2, x3, x4⟩) ∧ Below w.heap.size w w' := by
  have hle : zs.length ≤ 6 ∨ claysOk zs = false := by
    cases h : claysOk zs
    · exact .inr rfl
    · exact .inl (clays_six h)
  by_cases h1 : claysOk zs = true
  case neg =>
    rw [show addL zs ⟨x0, x1, x2, x3, x4⟩ = [] from if_neg (fun q => h1 q.1), show addC zs ⟨x0, x1, x2, x3, x4⟩ = 1 from if_neg h1]
    exact spec_add_bad b off n c zs x0 x1 x2 x3 x4 w hn hnc hl ha hM hs (by simpa using h1)
  by_cases h2 : Clay.ok ⟨x0, x1, x2, x3, x4⟩ = true
  case neg =>
    rw [show addL zs ⟨x0, x1, x2, x3, x4⟩ = [] from if_neg (fun q => h2 q.2.1), show addC zs ⟨x0, x1, x2, x3, x4⟩ = 2 from (if_pos h1).trans (if_neg h2)]
    exact spec_add_range b off n c zs x0 x1 x2 x3 x4 w hn hnc hl ha hM hs h1 (by simpa using h2)
  by_cases h3 : hasName zs x0 = true
  · rw [show addL zs ⟨x0, x1, x2, x3, x4⟩ = [] from if_neg (fun q => by have := q.2.2.1; rw [show (Clay.n ⟨x0, x1, x2, x3, x4⟩) = x0 from rfl, h3] at this; cases this), show addC zs ⟨x0, x1, x2, x3, x4⟩ = 4 from (if_pos h1).trans ((if_pos h2).trans (if_pos h3))]
    exact spec_add_has b off n c zs x0 x1 x2 x3 x4 w hn hnc hl ha hM hs h1 h2 h3
  have h3' : hasName zs x0 = false := by simpa using h3
  by_cases h4 : zs.length < 6
  · rw [show addL zs ⟨x0, x1, x2, x3, x4⟩ = zs ++ [⟨x0, x1, x2, x3, x4⟩] from if_pos ⟨h1, h2, h3', h4⟩, show addC zs ⟨x0, x1, x2, x3, x4⟩ = 0 from (if_pos h1).trans ((if_pos h2).trans ((if_neg h3).trans (if_pos h4))), List.length_append, hl]
    exact spec_add_yes b off n c zs x0 x1 x2 x3 x4 w hn hnc hl ha hM hs h1 h2 h3' (by omega)
  · rw [show addL zs ⟨x0, x1, x2, x3, x4⟩ = [] from if_neg (fun q => h4 q.2.2.2), show addC zs ⟨x0, x1, x2, x3, x4⟩ = 5 from (if_pos h1).trans ((if_pos h2).trans ((if_neg h3).trans (if_neg h4)))]
    exact spec_add_full b off n c zs x0 x1 x2 x3 x4 w hn hnc hl ha hM hs h1 h2 h3' (by rcases hle with q | q; omega; rw [h1] at q; cases q)
theorem spec_add' (K : List Clay) (cc : Int) (b off n c : Nat) (zs : List Clay) (x0 : ByteArray) (x1 x2 x3 x4 : Int) (w : World) (hn : n ≤ 16777216) (hnc : n ≤ c) (hl : zs.length = n) (ha : Row Clay.enc 5 w (some ⟨b, off, none⟩) zs) (hM : Names zs) (hs : x0.size ≤ maxLen) (hK : addL zs ⟨x0, x1, x2, x3, x4⟩ = K) (hC : addC zs ⟨x0, x1, x2, x3, x4⟩ = cc) :
    Calls Tryz.prog 16 #[.slice (some ⟨b, off, none⟩) n c, .agg #[.string x0, .int .i64 x1, .int .i64 x2, .int .i64 x3, .int .i64 x4]] w fun e w' => ∃ A' c', e = .returned (.tuple #[.slice A' K.length c', .int .i64 cc]) ∧ Own 35 5 Clay.enc w' w.heap.size w'.heap.size A' K.length c' K ∧ Below w.heap.size w w' := by
  subst hK hC
  exact spec_add b off n c zs x0 x1 x2 x3 x4 w hn hnc hl ha hM hs
end Go.Proofs.YtfjdhjbfingofaaGreatDoor
