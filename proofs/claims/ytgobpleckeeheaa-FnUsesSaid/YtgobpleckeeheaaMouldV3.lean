/-
  What is proved: one mould used, of the program and of the reference: one contract each. Conditions: lengths that fit.
-/
import Derived.Test.YtgobpleckeeheaaMouldV2
namespace Go.Proofs.Ytgobpleckeeheaa
open Go.RowKit
set_option linter.unusedVariables false

def UseR (zs : List Mould) (k m : Int) : Prop := (0 ≤ k ∧ k ≤ (zs.length : Int) - 1) ∧ (1 ≤ m ∧ m ≤ 100000)
instance (zs : List Mould) (k m : Int) : Decidable (UseR zs k m) := by unfold UseR; infer_instance
def useAt (zs : List Mould) (k : Nat) (m : Int) : List Mould := match zs[k]? with | some z => if z.u + m ≤ 100000 then zs.set k ⟨z.l, z.w, z.h, z.u + m⟩ else [] | none => []
def useAtC (zs : List Mould) (k : Nat) (m : Int) : Int := match zs[k]? with | some z => if z.u + m ≤ 100000 then 0 else 5 | none => 0
def useL (zs : List Mould) (k m : Int) : List Mould := if mouldsOk zs = true ∧ UseR zs k m then useAt zs k.toNat m else []
def useC (zs : List Mould) (k m : Int) : Int := if mouldsOk zs = true then (if UseR zs k m then useAtC zs k.toNat m else 2) else 1
theorem useL_len (zs : List Mould) (k m : Int) : (useL zs k m).length ≤ zs.length := by
  unfold useL useAt
  split
  · split
    · split
      · rw [List.length_set]; exact Nat.le_refl _
      · exact Nat.zero_le _
    · exact Nat.zero_le _
  · exact Nat.zero_le _
theorem spec_use (A : Option Addr) (n c : Nat) (zs : List Mould) (k m : Int) (w : World) (hn : n ≤ 16777216) (hl : zs.length = n) (h : Row Mould.enc 4 w A zs) :
    Calls Try.prog 28 #[.slice A n c, .int .i64 k, .int .i64 m] w fun e w' => ∃ A' c', e = .returned (.tuple #[.slice A' (useL zs k m).length c', .int .i64 (useC zs k m)]) ∧ Own 68 4 Mould.enc w' w.heap.size w'.heap.size A' (useL zs k m).length c' (useL zs k m) ∧ Below w.heap.size w w' := by
  unfold useL useC
  by_cases hv : mouldsOk zs = true
  · by_cases hk : 0 ≤ k ∧ k ≤ (zs.length : Int) - 1
    · by_cases hm : 1 ≤ m ∧ m ≤ 100000
      · rw [if_pos ⟨hv, hk, hm⟩, if_pos hv, if_pos ⟨hk, hm⟩]
        obtain ⟨j, rfl⟩ : ∃ j : Nat, k = j := ⟨k.toNat, by omega⟩
        have hj : j < zs.length := by omega
        obtain ⟨⟨x0, x1, x2, x3⟩, hz⟩ : ∃ z, zs[j]? = some z := ⟨zs[j], List.getElem?_eq_getElem hj⟩
        unfold useAt useAtC
        rw [Int.toNat_natCast, hz]
        by_cases hu : x3 + m ≤ 100000
        · simp only [if_pos hu]
          rw [List.length_set, hl]
          exact spec_use_yes A n c zs j m x0 x1 x2 x3 w hn hl h hv (by omega) hz hm.1 hm.2 hu
        · simp only [if_neg hu]
          exact spec_use_full A n c zs j m x0 x1 x2 x3 w hn hl h hv (by omega) hz hm.1 hm.2 hu
      · rw [if_neg (fun q => hm q.2.2), if_pos hv, if_neg (fun q => hm q.2)]
        exact spec_use_range2 A n c zs k m w hn hl h hv hk.1 (by omega) hm
    · rw [if_neg (fun q => hk q.2.1), if_pos hv, if_neg (fun q => hk q.1)]
      exact spec_use_range A n c zs k m w hn hl h hv (by rw [← hl]; exact hk)
  · rw [if_neg (fun q => hv q.1), if_neg hv]
    exact spec_use_bad A n c zs k m w hn hl h (by simpa using hv)
theorem spec_use' (A : Option Addr) (n c : Nat) (zs : List Mould) (k m : Int) (K : List Mould) (cc : Int) (w : World) (hK : useL zs k m = K) (hC : useC zs k m = cc) (hn : n ≤ 16777216) (hl : zs.length = n) (h : Row Mould.enc 4 w A zs) :
    Calls Try.prog 28 #[.slice A n c, .int .i64 k, .int .i64 m] w fun e w' => ∃ A' c', e = .returned (.tuple #[.slice A' K.length c', .int .i64 cc]) ∧ Own 68 4 Mould.enc w' w.heap.size w'.heap.size A' K.length c' K ∧ Below w.heap.size w w' := by
  subst hK hC
  exact spec_use A n c zs k m w hn hl h
theorem impl_use (A : Option Addr) (n c : Nat) (zs : List Mould) (k m : Int) (w : World) (hn : n ≤ 16777216) (hl : zs.length = n) (h : Row Mould.enc 4 w A zs) :
    Calls Try.prog 27 #[.slice A n c, .int .i64 k, .int .i64 m] w fun e w' => ∃ A' c', e = .returned (.tuple #[.slice A' (useL zs k m).length c', .int .i64 (useC zs k m)]) ∧ Own 68 4 Mould.enc w' w.heap.size w'.heap.size A' (useL zs k m).length c' (useL zs k m) ∧ Below w.heap.size w w' := by
  unfold useL useC
  by_cases hv : mouldsOk zs = true
  · by_cases hk : 0 ≤ k ∧ k ≤ (zs.length : Int) - 1
    · by_cases hm : 1 ≤ m ∧ m ≤ 100000
      · rw [if_pos ⟨hv, hk, hm⟩, if_pos hv, if_pos ⟨hk, hm⟩]
        obtain ⟨j, rfl⟩ : ∃ j : Nat, k = j := ⟨k.toNat, by omega⟩
        have hj : j < zs.length := by omega
        obtain ⟨⟨x0, x1, x2, x3⟩, hz⟩ : ∃ z, zs[j]? = some z := ⟨zs[j], List.getElem?_eq_getElem hj⟩
        unfold useAt useAtC
        rw [Int.toNat_natCast, hz]
        by_cases hu : x3 + m ≤ 100000
        · simp only [if_pos hu]
          rw [List.length_set, hl]
          exact impl_use_yes A n c zs j m x0 x1 x2 x3 w hn hl h hv (by omega) hz hm.1 hm.2 hu
        · simp only [if_neg hu]
          exact impl_use_full A n c zs j m x0 x1 x2 x3 w hn hl h hv (by omega) hz hm.1 hm.2 hu
      · rw [if_neg (fun q => hm q.2.2), if_pos hv, if_neg (fun q => hm q.2)]
        exact impl_use_range2 A n c zs k m w hn hl h hv hk.1 (by omega) hm
    · rw [if_neg (fun q => hk q.2.1), if_pos hv, if_neg (fun q => hk q.1)]
      exact impl_use_range A n c zs k m w hn hl h hv (by rw [← hl]; exact hk)
  · rw [if_neg (fun q => hv q.1), if_neg hv]
    exact impl_use_bad A n c zs k m w hn hl h (by simpa using hv)
theorem impl_use' (A : Option Addr) (n c : Nat) (zs : List Mould) (k m : Int) (K : List Mould) (cc : Int) (w : World) (hK : useL zs k m = K) (hC : useC zs k m = cc) (hn : n ≤ 16777216) (hl : zs.length = n) (h : Row Mould.enc 4 w A zs) :
    Calls Try.prog 27 #[.slice A n c, .int .i64 k, .int .i64 m] w fun e w' => ∃ A' c', e = .returned (.tuple #[.slice A' K.length c', .int .i64 cc]) ∧ Own 68 4 Mould.enc w' w.heap.size w'.heap.size A' K.length c' K ∧ Below w.heap.size w w' := by
  subst hK hC
  exact impl_use A n c zs k m w hn hl h
end Go.Proofs.Ytgobpleckeeheaa
