/-
  What is proved: one number and one text of a list, drawn by the reference. Conditions: as for the source.
-/
import Derived.Test.YtgobpleckeeheaaSrc2
import Derived.Test.YtgobpleckeeheaaIntS
import Derived.Test.YtgobpleckeeheaaOwned
namespace Go.Proofs.Ytgobpleckeeheaa
open Go.RowKit
set_option linter.unusedVariables false

theorem row_only {α : Type} {enc : α → List Value} {k b : Nat} {w w' : World} {A : Option Addr} {xs : List α} (h : Row enc k w A xs) (ho : Only b w w') (hne : ∀ a, A = some a → a.block ≠ b) : Row enc k w' A xs :=
  h.grown (row := some b) ⟨ho.os, ho.tape, ho.output, ho.size, fun i hi hn => ho.block i hi (fun e => hn (by rw [e]))⟩ (fun a g h1 h2 => by
    injection h2 with h2
    subst h2
    exact hne a h1)
/-- A list of one-cell elements, laid as a block. -/
theorem row_lits {α : Type} {enc : α → List Value} {w : World} {g : Nat} {t : TypeId} {cs : Array Value} {f : α → Value} (he : ∀ x, enc x = [f x]) (xs : List α) (h : Blk w g t cs) (hc : cs.toList = xs.map f) : Row enc 1 w (some ⟨g, 0, none⟩) xs :=
  fun _ => ⟨g, 0, rfl, h.lt, fun i x hi j v hv => by
    rw [he] at hv
    have hj : j = 0 := by
      have := (List.getElem?_eq_some_iff.1 hv).1
      simp at this
      exact this
    subst hj
    obtain rfl : f x = v := by simpa using hv
    rw [Nat.zero_add, Nat.mul_one, Nat.add_zero, h.cell, ← Array.getElem?_toList, hc, List.getElem?_map, hi]
    rfl⟩
set_option maxHeartbeats 1000000 in
theorem src_among (w0 w : World) (b : Nat) (A : Option Addr) (n c k : Nat) (z : List Int) (g m d : Nat) (xs : List Int) (hx : xs.length = m) (hm : 1 ≤ m) (hm2 : m ≤ 100) (hg : g ≠ b) (hr : Row encI 1 w (some ⟨g, 0, none⟩) xs) (hk : k < 1099511627774) (ha : ArgInts .u8 w0 A n c z) (hs : Src w0 w b A n c k) :
    Calls Try.prog 60 #[.pointer (some ⟨b, 0, none⟩), .slice (some ⟨g, 0, none⟩) m d] w fun e w' => ∃ (x : Int) (k' : Nat), x ∈ xs ∧ e = .returned (.int .i64 x) ∧ k' ≤ k + 2 ∧ Src w0 w' b A n c k' ∧ Only b w w' := by
  have HA := hide ha
  have HS := hide hs
  have HR := hide hr
  clear ha hs hr
  go_enter Try.func60, Try.ntmps60
  go_wp2_with fail
  refine (src_pick w0 _ b A n c k z (m : Int) (by omega) (by omega) hk HA.out HS.out).mono ?_
  rintro e w1 ⟨v, k1, hv0, hv1, rfl, hk1, hs1, ho1⟩
  obtain ⟨i, rfl⟩ := Int.eq_ofNat_of_zero_le hv0
  have hi : i < xs.length := by omega
  obtain ⟨b2, off2, e2, hb2, a1⟩ := row_at_1 (row_only HR.out ho1 (fun a h => by injection h with h; subst h; exact hg)) (List.getElem?_eq_getElem hi) rfl
  obtain ⟨rfl, rfl⟩ : b2 = g ∧ off2 = 0 := by injection e2 with e2; injection e2 with e1 e3 e4; exact ⟨e1.symm, e3.symm⟩
  rw [Nat.zero_add] at a1
  have hmem : xs[i] ∈ xs := List.getElem_mem hi
  generalize xs[i] = x at *
  have HX := hide hmem
  have HS1 := hide hs1
  have HO1 := hide ho1
  clear hs1 ho1 hmem e2
  go_wp2
  go_ret
  exact ⟨x, k1, HX.out, rfl, hk1, HS1.out, HO1.out⟩
/-- The list is a literal, laid just before. -/
theorem src_amongL (xs : List Int) (cs : Array Value) (t : TypeId) (hc : cs.toList = xs.map (Value.int .i64)) (w0 v : World) (b : Nat) (A : Option Addr) (n c k : Nat) (z : List Int) (m : Nat) (hx : xs.length = m) (hm : 1 ≤ m) (hm2 : m ≤ 100) (hk : k < 1099511627774) (ha : ArgInts .u8 w0 A n c z) (hs : Src w0 v b A n c k) (g d : Nat) (hg : g = v.heap.size) :
    Calls Try.prog 60 #[.pointer (some ⟨b, 0, none⟩), .slice (some ⟨g, 0, none⟩) m d] (v.alloc (.cells cs t)) fun e w' => ∃ (x : Int) (k' : Nat), x ∈ xs ∧ e = .returned (.int .i64 x) ∧ k' ≤ k + 2 ∧ Src w0 w' b A n c k' ∧ Only b v w' := by
  subst hg
  have hl := hs.lt
  exact (src_among w0 _ b A n c k z v.heap.size m d xs hx hm hm2 (by omega) (row_lits (fun _ => rfl) xs (Blk.new v t cs) hc) hk ha (hs.alloc _)).mono fun e w' ⟨x, k', h1, h2, h3, h4, h5⟩ => ⟨x, k', h1, h2, h3, h4, ((Only.refl b v).alloc _).trans h5⟩
def encT (x : ByteArray) : List Value := [.string x]
set_option maxHeartbeats 1000000 in
theorem src_txt (w0 w : World) (b : Nat) (A : Option Addr) (n c k : Nat) (z : List Int) (g m d : Nat) (xs : List ByteArray) (hx : xs.length = m) (hm : 1 ≤ m) (hm2 : m ≤ 100) (hg : g ≠ b) (hr : Row encT 1 w (some ⟨g, 0, none⟩) xs) (hk : k < 1099511627774) (ha : ArgInts .u8 w0 A n c z) (hs : Src w0 w b A n c k) :
    Calls Try.prog 102 #[.pointer (some ⟨b, 0, none⟩), .slice (some ⟨g, 0, none⟩) m d] w fun e w' => ∃ (x : ByteArray) (k' : Nat), x ∈ xs ∧ e = .returned (.string x) ∧ k' ≤ k + 2 ∧ Src w0 w' b A n c k' ∧ Only b w w' := by
  have HA := hide ha
  have HS := hide hs
  have HR := hide hr
  clear ha hs hr
  go_enter Try.func102, Try.ntmps102
  go_wp2_with fail
  refine (src_pick w0 _ b A n c k z (m : Int) (by omega) (by omega) hk HA.out HS.out).mono ?_
  rintro e w1 ⟨v, k1, hv0, hv1, rfl, hk1, hs1, ho1⟩
  obtain ⟨i, rfl⟩ := Int.eq_ofNat_of_zero_le hv0
  have hi : i < xs.length := by omega
  obtain ⟨b2, off2, e2, hb2, a1⟩ := row_at_1 (row_only HR.out ho1 (fun a h => by injection h with h; subst h; exact hg)) (List.getElem?_eq_getElem hi) rfl
  obtain ⟨rfl, rfl⟩ : b2 = g ∧ off2 = 0 := by injection e2 with e2; injection e2 with e1 e3 e4; exact ⟨e1.symm, e3.symm⟩
  rw [Nat.zero_add] at a1
  have hmem : xs[i] ∈ xs := List.getElem_mem hi
  generalize xs[i] = x at *
  have HX := hide hmem
  have HS1 := hide hs1
  have HO1 := hide ho1
  clear hs1 ho1 hmem e2
  go_wp2
  go_ret
  exact ⟨x, k1, HX.out, rfl, hk1, HS1.out, HO1.out⟩
theorem src_txtL (xs : List ByteArray) (cs : Array Value) (t : TypeId) (hc : cs.toList = xs.map Value.string) (w0 v : World) (b : Nat) (A : Option Addr) (n c k : Nat) (z : List Int) (m : Nat) (hx : xs.length = m) (hm : 1 ≤ m) (hm2 : m ≤ 100) (hk : k < 1099511627774) (ha : ArgInts .u8 w0 A n c z) (hs : Src w0 v b A n c k) (g d : Nat) (hg : g = v.heap.size) :
    Calls Try.prog 102 #[.pointer (some ⟨b, 0, none⟩), .slice (some ⟨g, 0, none⟩) m d] (v.alloc (.cells cs t)) fun e w' => ∃ (x : ByteArray) (k' : Nat), x ∈ xs ∧ e = .returned (.string x) ∧ k' ≤ k + 2 ∧ Src w0 w' b A n c k' ∧ Only b v w' := by
  subst hg
  have hl := hs.lt
  exact (src_txt w0 _ b A n c k z v.heap.size m d xs hx hm hm2 (by omega) (row_lits (fun _ => rfl) xs (Blk.new v t cs) hc) hk ha (hs.alloc _)).mono fun e w' ⟨x, k', h1, h2, h3, h4, h5⟩ => ⟨x, k', h1, h2, h3, h4, ((Only.refl b v).alloc _).trans h5⟩
end Go.Proofs.Ytgobpleckeeheaa
