/-
  What is proved: FiredSize of the program and of the reference, one contract each. No conditions.
-/
import Derived.Test.YtgobpleckeeheaaFired
import Derived.Test.YtgobpleckeeheaaMouldFor
import Derived.Test.YtgobpleckeeheaaRowSet
namespace Go.Proofs.Ytgobpleckeeheaa
open Go.RowKit
set_option linter.unusedVariables false

theorem own_lower {α : Type} {t : TypeId} {k : Nat} {enc : α → List Value} {w : World} {lo lo' hi n c : Nat} {A : Option Addr} {xs : List α} (h : Own t k enc w lo hi A n c xs) (hb : lo' ≤ lo) : Own t k enc w lo' hi A n c xs :=
  ⟨h.len, own_weak h.own hb, h.up, h.hi_le⟩
def fsL (a b c d s : Int) : List Int := if Mould.Ok ⟨a, b, c, d⟩ ∧ 0 ≤ s ∧ s ≤ 200 then [firedI a s, firedI b s, firedI c s] else []
def fsC (a b c d s : Int) : Int := if Mould.Ok ⟨a, b, c, d⟩ then (if 0 ≤ s ∧ s ≤ 200 then 0 else 2) else 1
theorem fsL_len (a b c d s : Int) : (fsL a b c d s).length ≤ 3 := by
  unfold fsL
  split
  · exact Nat.le_refl _
  · exact Nat.zero_le _
theorem own_mould_one (w : World) (t : TypeId) (a b c d : Int) : Own t 4 Mould.enc (w.alloc (.cells #[.int .i64 a, .int .i64 b, .int .i64 c, .int .i64 d] t)) w.heap.size (w.heap.size + 1) (some ⟨w.heap.size, 0, none⟩) 1 1 [(⟨a, b, c, d⟩ : Mould)] :=
  ⟨rfl, ⟨rfl, .inr ⟨w.heap.size, 1, _, rfl, Nat.le_refl _, (show (w.heap.push _)[w.heap.size]? = _ from Array.getElem?_push_size), Nat.le_refl _, by unfold maxLen; omega, rfl, rfl⟩⟩, (fun x hx => by obtain rfl := Option.some.inj hx; exact Nat.lt_succ_self _), by simp⟩
end Go.Proofs.Ytgobpleckeeheaa
