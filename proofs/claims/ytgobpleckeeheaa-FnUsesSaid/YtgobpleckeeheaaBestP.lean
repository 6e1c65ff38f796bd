/-
  What is proved: the nearest mould of a list as a plain number. No program in sight. No conditions.
-/
import Derived.Test.YtgobpleckeeheaaBest
namespace Go.Proofs.Ytgobpleckeeheaa
open Go.RowKit
set_option linter.unusedVariables false

def offAt (zs : List Mould) (l wd h s : Int) (i : Nat) : Int := match zs[i]? with | some z => offI z.l z.w z.h l wd h s | none => 0
def usedAt (zs : List Mould) (i : Nat) : Int := match zs[i]? with | some z => z.u | none => 0
/-- The mould i goes before the mould j. -/
def Nearer (zs : List Mould) (l wd h s : Int) (i j : Nat) : Prop := offAt zs l wd h s i < offAt zs l wd h s j ∨ (offAt zs l wd h s i = offAt zs l wd h s j ∧ usedAt zs i < usedAt zs j)
instance (zs : List Mould) (l wd h s : Int) (i j : Nat) : Decidable (Nearer zs l wd h s i j) := by unfold Nearer; infer_instance
def nearK (zs : List Mould) (l wd h s : Int) : Nat → Nat
  | 0 => 0
  | k + 1 => if Nearer zs l wd h s k (nearK zs l wd h s k) then k else nearK zs l wd h s k
theorem nearK_lt (zs : List Mould) (l wd h s : Int) (k n : Nat) (hk : k ≤ n) (hn : 0 < n) : nearK zs l wd h s k < n := by
  induction k with
  | zero => exact hn
  | succ k ih =>
    unfold nearK
    split
    · omega
    · exact ih (by omega)
theorem nearK_one (zs : List Mould) (l wd h s : Int) : nearK zs l wd h s 1 = 0 := by
  unfold nearK
  split <;> rfl
theorem offAt_is {zs : List Mould} {l wd h s : Int} {i : Nat} {z : Mould} (hz : zs[i]? = some z) : offAt zs l wd h s i = offI z.l z.w z.h l wd h s := by
  unfold offAt
  rw [hz]
theorem usedAt_is {zs : List Mould} {i : Nat} {z : Mould} (hz : zs[i]? = some z) : usedAt zs i = z.u := by
  unfold usedAt
  rw [hz]
end Go.Proofs.Ytgobpleckeeheaa
