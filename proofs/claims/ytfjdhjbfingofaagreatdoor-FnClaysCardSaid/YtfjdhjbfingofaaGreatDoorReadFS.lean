/-
  What is proved: a format and a mould read off texts by the reference. Condition: a length that fits.
-/
import Derived.Test.YtfjdhjbfingofaaGreatDoorReadFI
namespace Go.Proofs.YtfjdhjbfingofaaGreatDoor
open Go.RowKit Go.PlainAid
set_option linter.unusedVariables false

theorem num_false {x : List UInt8} (h : numB (ba x) = false) : numL x = none := by
  unfold numB at h
  rw [ba_data] at h
  cases hx : numL x with
  | none => rfl
  | some v => rw [hx] at h; cases h
theorem num_true {x : List UInt8} {v : Int} (h : numB (ba x) = true) (hv : numV (ba x) = v) : numL x = some v := by
  unfold numB at h
  unfold numV at hv
  rw [ba_data] at h hv
  cases hx : numL x with
  | none => rw [hx] at h; cases h
  | some u => rw [hx] at hv; rw [← hv]; rfl
theorem numV_I64 {x : List UInt8} : I64 (numV (ba x)) := by
  unfold numV
  rw [ba_data]
  cases hx : numL x with
  | none => unfold I64; simp
  | some u =>
    have := (num_iff.1 hx).2
    unfold Small at this
    unfold I64
    simp
    omega
theorem fmt_val {x y z b : List UInt8} {p q r j : Int} (h1 : numL x = some p) (h2 : numL y = some q) (h3 : numL z = some r) (h4 : numL b = some j) (h : fmtB p q r j = false) : ∀ p q r j, numL x = some p → numL y = some q → numL z = some r → numL b = some j → fmtB p q r j = false := by
  intro p' q' r' j' e1 e2 e3 e4
  rw [h1] at e1; rw [h2] at e2; rw [h3] at e3; rw [h4] at e4
  cases e1; cases e2; cases e3; cases e4
  exact h
theorem mld_val {x y z b : List UInt8} {p q r j : Int} (h1 : numL x = some p) (h2 : numL y = some q) (h3 : numL z = some r) (h4 : numL b = some j) (h : mldB p q r j = false) : ∀ p q r j, numL x = some p → numL y = some q → numL z = some r → numL b = some j → mldB p q r j = false := by
  intro p' q' r' j' e1 e2 e3 e4
  rw [h1] at e1; rw [h2] at e2; rw [h3] at e3; rw [h4] at e4
  cases e1; cases e2; cases e3; cases e4
  exact h
theorem splB_of {c : UInt8} {s : ByteArray} {xs : List (List UInt8)} (h : spl c s.data.toList = xs) : splB c s = xs.map ba := by
  unfold splB
  rw [h]
end Go.Proofs.YtfjdhjbfingofaaGreatDoor
