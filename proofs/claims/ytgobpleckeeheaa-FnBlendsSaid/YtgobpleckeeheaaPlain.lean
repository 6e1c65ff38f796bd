/-
  What is proved: plain facts on numbers and lists that the walks use. No program in sight. No conditions.
-/
import Derived.Below
import Derived.Calls
import Derived.Deep.Draws
namespace Go.Proofs.Ytgobpleckeeheaa
open Go.RowKit

theorem ret_bool {a b : Bool} (h : a = b) : Ending.returned (.bool a) = .returned (.bool b) := by rw [h]
theorem ret_int {k : IntKind} {a b : Int} (h : a = b) : Ending.returned (.int k a) = .returned (.int k b) := by rw [h]
theorem below_drewN {B : Nat} {a w : World} (h : Below B a w) (n : Nat) : Below B a (w.drewN n) := ⟨h.os, h.tape, h.output, h.size, h.block⟩
theorem quiet_below {P : Program} {f : FuncId} {args : Array Value} {w : World} {v : Ending} (h : Calls P f args w fun e w' => e = v ∧ ∃ q, w' = w.drewN q) : Calls P f args w fun e w' => e = v ∧ Below w.heap.size w w' :=
  h.mono fun e w' ⟨he, q, hq⟩ => ⟨he, by rw [hq]; exact below_drewN (Below.refl _ _) q⟩
theorem hide {p : Prop} (h : p) : Hid p := h
theorem unhide {p : Prop} (h : Hid p) : p := h
/-- What a call left below the old size: each old cell and mark reads as it did. -/
theorem bcell {W w1 : World} (hb : Below W.heap.size W w1) : (∀ b o, b < W.heap.size → w1.cell? ⟨b, o, none⟩ = W.cell? ⟨b, o, none⟩) ∧ (∀ b o, b < W.heap.size → w1.frozen? ⟨b, o, none⟩ = W.frozen? ⟨b, o, none⟩) :=
  ⟨fun b o h => hb.cell (p := ⟨b, o, none⟩) h, fun b o h => hb.frozen (p := ⟨b, o, none⟩) h⟩

/-- A valid format. -/
def FmtOk (l w h j : Int) : Prop := 100 ≤ l ∧ l ≤ 500 ∧ 50 ≤ w ∧ w ≤ 250 ∧ 30 ≤ h ∧ h ≤ 150 ∧ 0 ≤ j ∧ j ≤ 20 ∧ w < l
instance (l w h j : Int) : Decidable (FmtOk l w h j) := by unfold FmtOk; infer_instance
def fmtB (l w h j : Int) : Bool := decide (FmtOk l w h j)
/-- The code of a format and a number in a range. -/
def fcode (l w h j n lo hi : Int) : Int := if fmtB l w h j = true then (if lo ≤ n ∧ n ≤ hi then 0 else 2) else 1
def heightOf (l w h j n : Int) : Int := if fcode l w h j n 1 200 = 0 then n * (h + j) - j else 0
def quartersIn (l w h j n : Int) : Int := if fcode l w h j n 0 100000 = 0 then 4 * (n + j) / (l + j) else 0
def coursesIn (l w h j n : Int) : Int := if fcode l w h j n 0 100000 = 0 then (n + j) / (h + j) else 0
def lengthNum (l w h j n : Int) : Int := if fcode l w h j n 1 200 = 0 then (n * (l + j) - 4 * j) / Int.gcd (n * (l + j) - 4 * j) 4 else 0
def lengthDen (l w h j n : Int) : Int := if fcode l w h j n 1 200 = 0 then 4 / Int.gcd (n * (l + j) - 4 * j) 4 else 0
def volIn (l w h j : Int) : Int := if fmtB l w h j = true then l * w * h else 0
def volOut (l w h j : Int) : Int := if fmtB l w h j = true then (l + j) * (w + j) * (h + j) else 0
def modB (l w h j : Int) : Bool := fmtB l w h j && (l == 2 * w + j)
def volCode (l w h j : Int) : Int := if fmtB l w h j = true then 0 else 1
theorem mul_bd (a b A B : Int) (ha : 0 ≤ a) (hA : a ≤ A) (hb : 0 ≤ b) (hB : b ≤ B) (hAB : 0 ≤ A) : 0 ≤ a * b ∧ a * b ≤ A * B :=
  ⟨Int.mul_nonneg ha hb, Int.mul_le_mul hA hB hb hAB⟩
theorem le_mul1 (n a : Int) (ha : 0 ≤ a) (hn : 1 ≤ n) : a ≤ n * a := by
  have h := Int.mul_le_mul_of_nonneg_right hn ha
  omega
theorem fcode_ok {l w h j n lo hi : Int} (e : fcode l w h j n lo hi = 0) : FmtOk l w h j ∧ lo ≤ n ∧ n ≤ hi := by
  unfold fcode at e
  by_cases h1 : fmtB l w h j = true
  · rw [if_pos h1] at e
    by_cases h2 : lo ≤ n ∧ n ≤ hi
    · exact ⟨of_decide_eq_true h1, h2⟩
    · rw [if_neg h2] at e; omega
  · rw [if_neg h1] at e; omega

end Go.Proofs.Ytgobpleckeeheaa
