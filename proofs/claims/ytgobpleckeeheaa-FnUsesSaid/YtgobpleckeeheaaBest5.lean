/-
  What is proved: the best mould, of the program and of the reference: one contract each. Conditions: lengths that fit.
-/
import Derived.Test.YtgobpleckeeheaaBest4
namespace Go.Proofs.Ytgobpleckeeheaa
open Go.RowKit
set_option linter.unusedVariables false

def bestOk (zs : List Mould) (l wd h j s : Int) : Prop := (mouldsOk zs = true ∧ fmtB l wd h j = true) ∧ (0 ≤ s ∧ s ≤ 200) ∧ 0 < zs.length
instance (zs : List Mould) (l wd h j s : Int) : Decidable (bestOk zs l wd h j s) := by unfold bestOk; infer_instance
def bestV (zs : List Mould) (l wd h j s : Int) : Int := if bestOk zs l wd h j s then nearK zs l wd h s zs.length else 0
def bestC (zs : List Mould) (l wd h j s : Int) : Int := if mouldsOk zs = true ∧ fmtB l wd h j = true then (if 0 ≤ s ∧ s ≤ 200 then (if 0 < zs.length then 0 else 3) else 2) else 1
theorem spec_best (A : Option Addr) (n c : Nat) (zs : List Mould) (l wd h j s : Int) (w : World) (hn : n ≤ 16777216) (hl : zs.length = n) (hr : Row Mould.enc 4 w A zs) :
    Calls Try.prog 25 #[.slice A n c, .agg #[.int .i64 l, .int .i64 wd, .int .i64 h, .int .i64 j], .int .i64 s] w fun e w' => e = .returned (.tuple #[.int .i64 (bestV zs l wd h j s), .int .i64 (bestC zs l wd h j s)]) ∧ Below w.heap.size w w' := by
  unfold bestV bestC
  by_cases hv : mouldsOk zs = true
  · by_cases hf : fmtB l wd h j = true
    · by_cases hs : 0 ≤ s ∧ s ≤ 200
      · by_cases hp : 0 < zs.length
        · rw [if_pos (show bestOk zs l wd h j s from ⟨⟨hv, hf⟩, hs, hp⟩), if_pos (And.intro hv hf), if_pos hs, if_pos hp, hl]
          exact spec_best_yes A n c zs l wd h j s w hn hl hr hv hf hs.1 hs.2 (by omega)
        · rw [if_neg (fun q : bestOk zs l wd h j s => hp q.2.2), if_pos (And.intro hv hf), if_pos hs, if_neg hp]
          exact spec_best_none A n c zs l wd h j s w hn hl hr hv hf hs (by omega)
      · rw [if_neg (fun q : bestOk zs l wd h j s => hs q.2.1), if_pos (And.intro hv hf), if_neg hs]
        exact spec_best_range A n c zs l wd h j s w hn hl hr hv hf hs
    · rw [if_neg (fun q : bestOk zs l wd h j s => hf q.1.2), if_neg (fun q : mouldsOk zs = true ∧ fmtB l wd h j = true => hf q.2)]
      exact spec_best_bad2 A n c zs l wd h j s w hn hl hr hv (by simpa using hf)
  · rw [if_neg (fun q : bestOk zs l wd h j s => hv q.1.1), if_neg (fun q : mouldsOk zs = true ∧ fmtB l wd h j = true => hv q.1)]
    exact spec_best_bad1 A n c zs l wd h j s w hn hl hr (by simpa using hv)
theorem spec_best' (A : Option Addr) (n c : Nat) (zs : List Mould) (l wd h j s : Int) (K cc : Int) (w : World) (hK : bestV zs l wd h j s = K) (hC : bestC zs l wd h j s = cc) (hn : n ≤ 16777216) (hl : zs.length = n) (hr : Row Mould.enc 4 w A zs) :
    Calls Try.prog 25 #[.slice A n c, .agg #[.int .i64 l, .int .i64 wd, .int .i64 h, .int .i64 j], .int .i64 s] w fun e w' => e = .returned (.tuple #[.int .i64 K, .int .i64 cc]) ∧ Below w.heap.size w w' := by
  subst hK hC
  exact spec_best A n c zs l wd h j s w hn hl hr
theorem impl_best (A : Option Addr) (n c : Nat) (zs : List Mould) (l wd h j s : Int) (w : World) (hn : n ≤ 16777216) (hl : zs.length = n) (hr : Row Mould.enc 4 w A zs) :
    Calls Try.prog 24 #[.slice A n c, .agg #[.int .i64 l, .int .i64 wd, .int .i64 h, .int .i64 j], .int .i64 s] w fun e w' => e = .returned (.tuple #[.int .i64 (bestV zs l wd h j s), .int .i64 (bestC zs l wd h j s)]) ∧ Below w.heap.size w w' := by
  unfold bestV bestC
  by_cases hv : mouldsOk zs = true
  · by_cases hf : fmtB l wd h j = true
    · by_cases hs : 0 ≤ s ∧ s ≤ 200
      · by_cases hp : 0 < zs.length
        · rw [if_pos (show bestOk zs l wd h j s from ⟨⟨hv, hf⟩, hs, hp⟩), if_pos (And.intro hv hf), if_pos hs, if_pos hp, hl]
          exact impl_best_yes A n c zs l wd h j s w hn hl hr hv hf hs (by omega)
        · rw [if_neg (fun q : bestOk zs l wd h j s => hp q.2.2), if_pos (And.intro hv hf), if_pos hs, if_neg hp]
          exact impl_best_none A n c zs l wd h j s w hn hl hr hv hf hs (by omega)
      · rw [if_neg (fun q : bestOk zs l wd h j s => hs q.2.1), if_pos (And.intro hv hf), if_neg hs]
        exact impl_best_range A n c zs l wd h j s w hn hl hr hv hf hs
    · rw [if_neg (fun q : bestOk zs l wd h j s => hf q.1.2), if_neg (fun q : mouldsOk zs = true ∧ fmtB l wd h j = true => hf q.2)]
      exact impl_best_bad2 A n c zs l wd h j s w hn hl hr hv (by simpa using hf)
  · rw [if_neg (fun q : bestOk zs l wd h j s => hv q.1.1), if_neg (fun q : mouldsOk zs = true ∧ fmtB l wd h j = true => hv q.1)]
    exact impl_best_bad1 A n c zs l wd h j s w hn hl hr (by simpa using hv)
theorem impl_best' (A : Option Addr) (n c : Nat) (zs : List Mould) (l wd h j s : Int) (K cc : Int) (w : World) (hK : bestV zs l wd h j s = K) (hC : bestC zs l wd h j s = cc) (hn : n ≤ 16777216) (hl : zs.length = n) (hr : Row Mould.enc 4 w A zs) :
    Calls Try.prog 24 #[.slice A n c, .agg #[.int .i64 l, .int .i64 wd, .int .i64 h, .int .i64 j], .int .i64 s] w fun e w' => e = .returned (.tuple #[.int .i64 K, .int .i64 cc]) ∧ Below w.heap.size w w' := by
  subst hK hC
  exact impl_best A n c zs l wd h j s w hn hl hr
end Go.Proofs.Ytgobpleckeeheaa
