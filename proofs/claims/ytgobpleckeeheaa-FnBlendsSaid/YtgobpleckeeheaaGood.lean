/-
  What is proved: plain facts on the good blends of some clays, in order, and on the cheapest of them. No program in sight. No conditions.
-/
import Derived.Test.YtgobpleckeeheaaBLim
namespace Go.Proofs.Ytgobpleckeeheaa
set_option linter.unusedVariables false

/-- Is a blend without a fault? -/
def bgood (zs : List Clay) (l h m s : Int) (ds : List Int) : Bool := (bfault zs ds l h m s).toList == [110, 111, 110, 101]
/-- All good blends that go on from ds, with left parts for rem clays more. -/
def goodL (f : List Int → Bool) : Nat → List Int → Nat → List (List Int)
  | 0, ds, left => if left = 0 ∧ f ds = true then [ds] else []
  | rem + 1, ds, left => (List.range (left + 1)).flatMap fun j : Nat => goodL f rem (ds ++ [(j : Int)]) (left - j)
def goodTo (f : List Int → Bool) (rem : Nat) (ds : List Int) (left k : Nat) : List (List Int) := (List.range k).flatMap fun j : Nat => goodL f rem (ds ++ [(j : Int)]) (left - j)
theorem goodL_succ (f : List Int → Bool) (rem : Nat) (ds : List Int) (left : Nat) : goodL f (rem + 1) ds left = goodTo f rem ds left (left + 1) := rfl
theorem goodL_yes {f : List Int → Bool} {ds : List Int} (h : f ds = true) : goodL f 0 ds 0 = [ds] := if_pos ⟨rfl, h⟩
theorem goodL_no {f : List Int → Bool} {ds : List Int} {left : Nat} (h : ¬ (left = 0 ∧ f ds = true)) : goodL f 0 ds left = [] := if_neg h
theorem goodTo_zero (f : List Int → Bool) (rem : Nat) (ds : List Int) (left : Nat) : goodTo f rem ds left 0 = [] := rfl
theorem goodTo_succ (f : List Int → Bool) (rem : Nat) (ds : List Int) (left k : Nat) : goodTo f rem ds left (k + 1) = goodTo f rem ds left k ++ goodL f rem (ds ++ [(k : Int)]) (left - k) := by
  unfold goodTo
  rw [List.range_succ, List.flatMap_append]
  simp
theorem goodTo_le (f : List Int → Bool) (rem : Nat) (ds : List Int) (left : Nat) {k j : Nat} (h : k ≤ j) : (goodTo f rem ds left k).length ≤ (goodTo f rem ds left j).length := by
  induction j with
  | zero =>
    obtain rfl : k = 0 := by omega
    exact Nat.le_refl _
  | succ j ih =>
    rcases Nat.lt_or_ge j k with h1 | h1
    · obtain rfl : k = j + 1 := by omega
      exact Nat.le_refl _
    · rw [goodTo_succ, List.length_append]
      have := ih h1
      omega
theorem goodL_len (f : List Int → Bool) : ∀ (rem : Nat) (ds : List Int) (left : Nat), left ≤ 12 → (goodL f rem ds left).length ≤ 13 ^ rem
  | 0, ds, left, h => by
    unfold goodL
    split <;> simp
  | rem + 1, ds, left, h => by
    have key : ∀ k, (goodTo f rem ds left k).length ≤ k * 13 ^ rem := by
      intro k
      induction k with
      | zero => rw [goodTo_zero]; exact Nat.zero_le _
      | succ k ih =>
        rw [goodTo_succ, List.length_append, Nat.succ_mul]
        exact Nat.add_le_add ih (goodL_len f rem _ _ (by omega))
    rw [goodL_succ]
    refine Nat.le_trans (key (left + 1)) ?_
    rw [Nat.pow_succ, Nat.mul_comm]
    exact Nat.mul_le_mul_left _ (by omega)
theorem goodL_six (f : List Int → Bool) {n : Nat} (hn : n ≤ 6) {left : Nat} (h : left ≤ 12) : (goodL f n [] left).length ≤ 4826809 := by
  refine Nat.le_trans (goodL_len f n [] left h) ?_
  exact Nat.le_trans (Nat.pow_le_pow_right (by omega) hn) (by decide)

/-- The cheapest of some lists: the first one with the least price. -/
def cheapStep (p : List Int → Int) (s : List Int × Int) (ds : List Int) : List Int × Int := if s.2 < 0 ∨ p ds < s.2 then (ds, p ds) else s
def cheap (p : List Int → Int) (L : List (List Int)) : List Int × Int := L.foldl (cheapStep p) ([], -1)
theorem cheap_push (p : List Int → Int) (L : List (List Int)) (ds : List Int) : cheap p (L ++ [ds]) = cheapStep p (cheap p L) ds := by
  unfold cheap
  rw [List.foldl_append]
  rfl
theorem cheapStep_yes {p : List Int → Int} {s : List Int × Int} {ds : List Int} (h : s.2 < 0 ∨ p ds < s.2) : cheapStep p s ds = (ds, p ds) := if_pos h
theorem cheapStep_no {p : List Int → Int} {s : List Int × Int} {ds : List Int} (h : ¬ s.2 < 0) (h2 : ¬ p ds < s.2) : cheapStep p s ds = s := if_neg (by omega)
theorem cheap_bd {p : List Int → Int} {M : Int} (hM : 0 ≤ M) {L : List (List Int)} (h : ∀ ds ∈ L, 0 ≤ p ds ∧ p ds ≤ M) : -1 ≤ (cheap p L).2 ∧ (cheap p L).2 ≤ M := by
  unfold cheap
  suffices key : ∀ (s : List Int × Int), -1 ≤ s.2 ∧ s.2 ≤ M → -1 ≤ (L.foldl (cheapStep p) s).2 ∧ (L.foldl (cheapStep p) s).2 ≤ M from key _ ⟨by decide, by show (-1 : Int) ≤ M; omega⟩
  induction L with
  | nil => exact fun s hs => hs
  | cons d L ih =>
    intro s hs
    refine ih (fun e he => h e (List.mem_cons_of_mem _ he)) _ ?_
    have hd := h d (List.mem_cons_self ..)
    unfold cheapStep
    split
    · exact ⟨by show (-1 : Int) ≤ p d; omega, hd.2⟩
    · exact hs
theorem cheap_some {p : List Int → Int} : ∀ {L : List (List Int)}, (∀ ds ∈ L, 0 ≤ p ds) → L ≠ [] →
    (cheap p L).1 ∈ L ∧ p (cheap p L).1 = (cheap p L).2 ∧ ∀ ds ∈ L, (cheap p L).2 ≤ p ds := by
  intro L h hne
  obtain ⟨d, L, rfl⟩ := List.exists_cons_of_ne_nil hne
  have h0 := h d (List.mem_cons_self ..)
  have e : cheap p (d :: L) = L.foldl (cheapStep p) (d, p d) := by
    unfold cheap
    rw [List.foldl_cons, cheapStep_yes (.inl (by decide))]
  rw [e]
  suffices key : ∀ (L : List (List Int)) (b : List Int), (∀ ds ∈ L, 0 ≤ p ds) → 0 ≤ p b →
      ((L.foldl (cheapStep p) (b, p b)).1 = b ∨ (L.foldl (cheapStep p) (b, p b)).1 ∈ L) ∧ p (L.foldl (cheapStep p) (b, p b)).1 = (L.foldl (cheapStep p) (b, p b)).2 ∧ (L.foldl (cheapStep p) (b, p b)).2 ≤ p b ∧ ∀ ds ∈ L, (L.foldl (cheapStep p) (b, p b)).2 ≤ p ds by
    obtain ⟨k1, k2, k3, k4⟩ := key L d (fun e he => h e (List.mem_cons_of_mem _ he)) h0
    refine ⟨?_, k2, fun e he => ?_⟩
    · rcases k1 with k1 | k1
      · rw [k1]; exact List.mem_cons_self ..
      · exact List.mem_cons_of_mem _ k1
    · rcases List.mem_cons.1 he with rfl | he
      · exact k3
      · exact k4 e he
  intro L
  induction L with
  | nil => exact fun b _ _ => ⟨.inl rfl, rfl, Int.le_refl _, fun e he => absurd he (by simp)⟩
  | cons x L ih =>
    intro b hL hb
    have hx := hL x (List.mem_cons_self ..)
    rw [List.foldl_cons]
    by_cases c : p x < p b
    · rw [cheapStep_yes (.inr c)]
      obtain ⟨k1, k2, k3, k4⟩ := ih x (fun e he => hL e (List.mem_cons_of_mem _ he)) hx
      refine ⟨?_, k2, by omega, fun e he => ?_⟩
      · rcases k1 with k1 | k1
        · exact .inr (by rw [k1]; exact List.mem_cons_self ..)
        · exact .inr (List.mem_cons_of_mem _ k1)
      · rcases List.mem_cons.1 he with rfl | he
        · exact k3
        · exact k4 e he
    · rw [cheapStep_no (show ¬ p b < 0 by omega) c]
      obtain ⟨k1, k2, k3, k4⟩ := ih b (fun e he => hL e (List.mem_cons_of_mem _ he)) hb
      refine ⟨?_, k2, k3, fun e he => ?_⟩
      · rcases k1 with k1 | k1
        · exact .inl k1
        · exact .inr (List.mem_cons_of_mem _ k1)
      · rcases List.mem_cons.1 he with rfl | he
        · omega
        · exact k4 e he
theorem cheap_neg {p : List Int → Int} {L : List (List Int)} (h : ∀ ds ∈ L, 0 ≤ p ds) : (cheap p L).2 < 0 ↔ L = [] := by
  constructor
  · intro hn
    by_cases e : L = []
    · exact e
    · obtain ⟨k1, k2, -⟩ := cheap_some h e
      have := h _ k1
      omega
  · rintro rfl
    exact (by decide : (-1 : Int) < 0)
end Go.Proofs.Ytgobpleckeeheaa
