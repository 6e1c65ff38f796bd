/-
  What is proved: one text of a list, drawn by the reference; the bonds of the library are valid. Conditions: as for the source.
-/
import Derived.Test.YtgobpleckeeheaaDoorDrawB
namespace Go.Proofs.YtgobpleckeeheaaDoor
open Go.RowKit Go.PlainAid
set_option linter.unusedVariables false

theorem Row.only {α : Type} {enc : α → List Value} {k b : Nat} {w w' : World} {A : Option Addr} {xs : List α} (h : Row enc k w A xs) (ho : Only b w w') (hne : ∀ a, A = some a → a.block ≠ b) : Row enc k w' A xs :=
  h.grown (row := some b) ⟨ho.os, ho.tape, ho.output, ho.size, fun i hi hn => ho.block i hi (fun e => hn (by rw [e]))⟩ (fun a g h1 h2 => by
    injection h2 with h2
    subst h2
    exact hne a h1)
theorem src_some' (L : ByteArray) (f : Int → Bool) (p : Int) (hL : Letters L f p) (hp : 1 ≤ p) (hp2 : p ≤ 100) (w0 w : World) (b : Nat) (A : Option Addr) (n c k : Nat) (z : List Int) (m : Nat) (mi : Int) (hmi : mi = (m : Int)) (hm : m ≤ 100) (hk : k < 1099511620000) (ha : ArgInts .u8 w0 A n c z) (hs : Src w0 w b A n c k) :
    Calls Tryd.prog 27 #[.pointer (some ⟨b, 0, none⟩), .string L, .int .i64 mi] w (SomePost f m w0 w b A n c k) := by
  subst hmi
  exact src_some L f p hL hp hp2 w0 w b A n c k z m hm hk ha hs
set_option maxHeartbeats 1000000 in
theorem src_text (w0 w : World) (b : Nat) (A : Option Addr) (n c k : Nat) (z : List Int) (g m d : Nat) (xs : List ByteArray) (hx : xs.length = m) (hm : 1 ≤ m) (hm2 : m ≤ 100) (hg : g ≠ b) (hr : Row encS 1 w (some ⟨g, 0, none⟩) xs) (hk : k < 1099511627774) (ha : ArgInts .u8 w0 A n c z) (hs : Src w0 w b A n c k) :
    Calls Tryd.prog 26 #[.pointer (some ⟨b, 0, none⟩), .slice (some ⟨g, 0, none⟩) m d] w fun e w' => ∃ (x : ByteArray) (k' : Nat), x ∈ xs ∧ e = .returned (.string x) ∧ k' ≤ k + 2 ∧ Src w0 w' b A n c k' ∧ Only b w w' := by
  have HA := hide ha
  have HS := hide hs
  have HR := hide hr
  clear ha hs hr
  go_enter Tryd.func26, Tryd.ntmps26
  go_wp2_with fail
  refine (src_pick w0 _ b A n c k z (m : Int) (by omega) (by omega) hk HA.out HS.out).mono ?_
  rintro e w1 ⟨v, k1, hv0, hv1, rfl, hk1, hs1, ho1⟩
  obtain ⟨i, rfl⟩ := Int.eq_ofNat_of_zero_le hv0
  have hi : i < xs.length := by omega
  obtain ⟨b2, off2, e2, hb2, a1⟩ := row_at_1 (HR.out.only ho1 (fun a h => by injection h with h; subst h; exact hg)) (List.getElem?_eq_getElem hi) rfl
  obtain ⟨rfl, rfl⟩ : b2 = g ∧ off2 = 0 := by injection e2 with e2; injection e2 with e1 e3 e4; exact ⟨e1.symm, e3.symm⟩
  rw [Nat.zero_add] at a1
  have hmem : xs[i] ∈ xs := List.getElem_mem hi
  generalize xs[i] = x at *
  have HX := hide hmem
  have HS1 := hide hs1
  have HO1 := hide ho1
  clear hs1 ho1 hmem e2
  go_wp2
  go_ret
  exact ⟨x, k1, HX.out, rfl, hk1, HS1.out, HO1.out⟩
/-- Each text of the library is that of a valid bond. -/
theorem noBad_of_all {ws : List (List UInt8)} (h : ((List.range ws.length).all fun i => decide (badAt ws i = 0)) = true) : noBad ws := fun i hi => by
  have := List.all_eq_true.1 h i (List.mem_range.2 hi)
  exact of_decide_eq_true this
theorem lib_ok {i : Nat} {x : ByteArray} (h : libB[i]? = some x) : okT x = true := by
  rw [okT_iff]
  match i, h with
  | 0, h => obtain rfl := Option.some.inj h; exact noBad_of_all (by kernel_rfl)
  | 1, h => obtain rfl := Option.some.inj h; exact noBad_of_all (by kernel_rfl)
  | 2, h => obtain rfl := Option.some.inj h; exact noBad_of_all (by kernel_rfl)
  | 3, h => obtain rfl := Option.some.inj h; exact noBad_of_all (by kernel_rfl)
  | 4, h => obtain rfl := Option.some.inj h; exact noBad_of_all (by kernel_rfl)
theorem lib_bond {i : Nat} {x : ByteArray} (h : libB[i]? = some x) : bondOk (readN x) (readZ x) = true := by
  have hk := lib_ok h
  rw [readN_ok hk, readZ_ok hk]
  exact (text_of_words (okT_iff.1 hk)).1
theorem own_names {x : ByteArray} (h : x ∈ [(⟨#[111, 119, 110]⟩ : ByteArray), ⟨#[121, 97, 114, 100, 45, 50]⟩]) : nameB x = true := by
  rcases List.mem_cons.1 h with rfl | h
  · kernel_rfl
  · rw [List.mem_singleton.1 h]
    kernel_rfl
theorem spec_library2 (w : World) : Calls Tryd.prog 23 #[] w fun e w' => e = .returned (.slice (some ⟨w.heap.size, 0, none⟩) 5 5) ∧ Row encS 1 w' (some ⟨w.heap.size, 0, none⟩) libB ∧ Below w.heap.size w w' := by
  go_enter Tryd.func23, Tryd.ntmps23
  go_wp2
  go_ret
  exact ⟨rfl, row_built w libB _ _ rfl, (Below.refl _ _).alloc (Nat.le_refl _) _⟩
end Go.Proofs.YtgobpleckeeheaaDoor
