/-
  What is proved: plain facts on shared uses, worn moulds and the best mould. No program in sight. No conditions.
-/
import Derived.Test.YtgobpleckeeheaaMouldU
import Derived.Test.YtgobpleckeeheaaMouldW
import Derived.Test.YtgobpleckeeheaaMouldV3
import Derived.Test.YtgobpleckeeheaaBest5
import Derived.Test.YtgobpleckeeheaaFault3
import Derived.Test.YtgobpleckeeheaaF6
namespace Go.Proofs.Ytgobpleckeeheaa
set_option linter.unusedVariables false

theorem bestK_min (zs : List Mould) (out : List Int) : ∀ k j, j < k → usesAt zs (bestK zs out k) + out.getD (bestK zs out k) 0 ≤ usesAt zs j + out.getD j 0
  | k + 1, j, hj => by
    have ih := bestK_min zs out k
    unfold bestK
    split
    · rename_i h
      rcases Nat.lt_or_ge j k with h1 | h1
      · have := ih j h1; omega
      · obtain rfl : j = k := by omega
        exact Int.le_refl _
    · rename_i h
      rcases Nat.lt_or_ge j k with h1 | h1
      · exact ih j h1
      · obtain rfl : j = k := by omega
        omega
theorem getD_set (xs : List Int) (b i : Nat) (y : Int) (hb : b < xs.length) : (xs.set b y).getD i 0 = if i = b then y else xs.getD i 0 := by
  rw [List.getD_eq_getElem?_getD, List.getElem?_set, List.getD_eq_getElem?_getD]
  by_cases h : b = i
  · subst h
    simp [hb]
  · rw [if_neg h, if_neg (fun q => h q.symm)]
theorem share_fair (zs : List Mould) (n : Nat) (hn : 0 < n) : ∀ t i j, i < n → j < n → 0 < (share zs n t).getD i 0 → usesAt zs i + (share zs n t).getD i 0 ≤ usesAt zs j + (share zs n t).getD j 0 + 1
  | 0, i, j, hi, hj, h => by
    exfalso
    have := (share_at zs n 0 i).2
    have e : ((0 : Nat) : Int) = 0 := rfl
    omega
  | t + 1, i, j, hi, hj, h => by
    have ih := share_fair zs n hn t
    have hlen := share_len zs n t
    unfold share at h ⊢
    have hmin := bestK_min zs (share zs n t) n
    have hb := bestK_lt zs (share zs n t) n n (Nat.le_refl _) hn
    generalize bestK zs (share zs n t) n = b at *
    generalize share zs n t = out at *
    rw [getD_set _ _ _ _ (by omega)] at h ⊢
    rw [getD_set _ _ _ _ (by omega)]
    have m1 := hmin j hj
    by_cases h1 : i = b
    · subst h1
      rw [if_pos rfl] at h ⊢
      by_cases h2 : j = i
      · subst h2
        rw [if_pos rfl]; omega
      · rw [if_neg h2]; omega
    · rw [if_neg h1] at h ⊢
      have := ih i j hi hj h
      by_cases h2 : j = b
      · subst h2
        rw [if_pos rfl]; omega
      · rw [if_neg h2]; omega
theorem sumT_set (xs : List Int) (b : Nat) (y : Int) (hb : b < xs.length) : ∀ k, sumT (xs.set b y) k = sumT xs k + (if b < k then y - xs.getD b 0 else 0)
  | 0 => rfl
  | k + 1 => by
    show sumT (xs.set b y) k + (xs.set b y).getD k 0 = sumT xs k + xs.getD k 0 + _
    rw [sumT_set xs b y hb k, getD_set _ _ _ _ hb]
    by_cases h : k = b
    · subst h
      rw [if_pos rfl, if_neg (by omega), if_pos (by omega)]; omega
    · rw [if_neg h]
      by_cases h2 : b < k
      · rw [if_pos h2, if_pos (by omega)]; omega
      · rw [if_neg h2, if_neg (by omega)]; omega
theorem sumT_zero (n : Nat) : ∀ k, sumT (List.replicate n 0) k = 0
  | 0 => rfl
  | k + 1 => by
    show sumT (List.replicate n 0) k + (List.replicate n 0).getD k 0 = 0
    rw [sumT_zero n k, List.getD_eq_getElem?_getD, List.getElem?_replicate]
    split <;> simp
theorem share_sum (zs : List Mould) (n : Nat) (hn : 0 < n) : ∀ t, sumT (share zs n t) n = t
  | 0 => sumT_zero n n
  | t + 1 => by
    have ih := share_sum zs n hn t
    have hlen := share_len zs n t
    have hb := bestK_lt zs (share zs n t) n n (Nat.le_refl _) hn
    unfold share
    rw [sumT_set _ _ _ (by omega), if_pos hb, ih]
    omega
theorem sumT_bd {xs : List Int} {M : Int} (h : ∀ i, 0 ≤ xs.getD i 0 ∧ xs.getD i 0 ≤ M) (hM : 0 ≤ M) : ∀ k : Nat, 0 ≤ sumT xs k ∧ sumT xs k ≤ M * k
  | 0 => ⟨Int.le_refl _, by show (0 : Int) ≤ M * ((0 : Nat) : Int); simp⟩
  | k + 1 => by
    have ih := sumT_bd h hM k
    have h1 := h k
    show 0 ≤ sumT xs k + xs.getD k 0 ∧ sumT xs k + xs.getD k 0 ≤ M * ((k + 1 : Nat) : Int)
    rw [show ((k + 1 : Nat) : Int) = (k : Int) + 1 from by omega, Int.mul_add]
    omega
theorem moulds_len {zs : List Mould} (h : mouldsOk zs = true) : zs.length ≤ 20 := by
  unfold mouldsOk at h
  rw [Bool.and_eq_true] at h
  exact of_decide_eq_true h.1
theorem moulds_at {zs : List Mould} {i : Nat} {z : Mould} (h : mouldsOk zs = true) (hi : zs[i]? = some z) : z.Ok := by
  unfold mouldsOk at h
  rw [Bool.and_eq_true, List.all_eq_true] at h
  exact of_decide_eq_true (h.2 z (List.mem_of_getElem? hi))
theorem share_zero {zs : List Mould} {t : Int} (h : shareC zs t = 0) : mouldsOk zs = true ∧ (0 ≤ t ∧ t ≤ 2000) ∧ 0 < zs.length := by
  unfold shareC at h
  split at h
  · rename_i h1
    split at h
    · rename_i h2
      split at h
      · rename_i h3
        exact ⟨h1, h2, h3⟩
      · omega
    · omega
  · omega
/-- What the law on shared uses asks. -/
theorem share_law {zs : List Mould} {t : Int} (h : shareC zs t = 0) : (shareL zs t).length = zs.length ∧ zs.length ≤ 20 ∧ (∀ i, 0 ≤ (shareL zs t).getD i 0 ∧ (shareL zs t).getD i 0 ≤ 2000) ∧ sumT (shareL zs t) zs.length = t ∧
    ∀ (i j : Nat) (x y : Mould) (p q : Int), zs[i]? = some x → zs[j]? = some y → (shareL zs t)[i]? = some p → (shareL zs t)[j]? = some q → (0 ≤ x.u ∧ x.u ≤ 100000) ∧ (0 ≤ y.u ∧ y.u ≤ 100000) ∧ (0 ≤ p ∧ p ≤ 2000) ∧ (0 ≤ q ∧ q ≤ 2000) ∧ (0 < p → x.u + p ≤ y.u + q + 1) := by
  obtain ⟨h1, h2, h3⟩ := share_zero h
  have e : shareL zs t = share zs zs.length t.toNat := if_pos ⟨h1, h2, h3⟩
  rw [e]
  have hat : ∀ i, 0 ≤ (share zs zs.length t.toNat).getD i 0 ∧ (share zs zs.length t.toNat).getD i 0 ≤ 2000 := fun i => by
    have := share_at zs zs.length t.toNat i
    omega
  refine ⟨share_len .., moulds_len h1, hat, by rw [share_sum zs _ h3]; omega, fun i j x y p q hx hy hp hq => ?_⟩
  have g1 := moulds_uses h1 hx
  have g2 := moulds_uses h1 hy
  have b1 := hat i
  have b2 := hat j
  have hf := share_fair zs zs.length h3 t.toNat i j (List.getElem?_eq_some_iff.1 hx).1 (List.getElem?_eq_some_iff.1 hy).1
  rw [usesAt_is hx, usesAt_is hy] at hf
  rw [List.getD_eq_getElem?_getD, hp] at b1 hf
  rw [List.getD_eq_getElem?_getD, hq] at b2 hf
  exact ⟨g1, g2, b1, b2, hf⟩
/-- What the law on a used mould asks. -/
theorem use_law {zs : List Mould} {k m : Int} (h : useC zs k m = 0) : ∃ (i : Nat) (x : Mould), k = (i : Int) ∧ (useL zs k m)[i]? = some x ∧ (useL zs k m).length = zs.length ∧ zs.length ≤ 20 ∧ 1 ≤ x.u ∧ x.u ≤ 100000 ∧ wornC (useL zs k m) (x.u - 1) = 0 ∧ (i : Int) ∈ wornL (useL zs k m) (x.u - 1) := by
  unfold useC at h
  split at h
  case isFalse => omega
  rename_i h1
  split at h
  case isFalse => omega
  rename_i h2
  have e : useL zs k m = useAt zs k.toNat m := if_pos ⟨h1, h2⟩
  obtain ⟨⟨k0, k1⟩, m0, m1⟩ := h2
  have hi : k.toNat < zs.length := by omega
  have hz := List.getElem?_eq_getElem hi
  have ok := moulds_at h1 hz
  have l20 := moulds_len h1
  rw [e]
  unfold useAtC at h
  unfold useAt
  rw [hz] at h ⊢
  dsimp only at h ⊢
  generalize zs[k.toNat] = z at *
  obtain ⟨o1, o2, o3, o4⟩ := ok
  split at h
  case isFalse => omega
  rename_i h3
  rw [if_pos h3]
  have hset : (zs.set k.toNat ⟨z.l, z.w, z.h, z.u + m⟩)[k.toNat]? = some ⟨z.l, z.w, z.h, z.u + m⟩ := List.getElem?_set_self hi
  have hok : mouldsOk (zs.set k.toNat ⟨z.l, z.w, z.h, z.u + m⟩) = true := by
    unfold mouldsOk at h1 ⊢
    rw [Bool.and_eq_true, List.all_eq_true] at h1
    rw [Bool.and_eq_true, List.all_eq_true, List.length_set]
    refine ⟨h1.1, fun x hx => ?_⟩
    rcases List.mem_or_eq_of_mem_set hx with hx | rfl
    · exact h1.2 x hx
    · exact decide_eq_true ⟨o1, o2, o3, by show 0 ≤ z.u + m; omega, h3⟩
  refine ⟨k.toNat, ⟨z.l, z.w, z.h, z.u + m⟩, by omega, hset, List.length_set, l20, by show 1 ≤ z.u + m; omega, h3, ?_, ?_⟩
  · unfold wornC
    rw [if_pos hok, if_pos (by show 0 ≤ z.u + m - 1 ∧ z.u + m - 1 ≤ 100000; omega)]
  · unfold wornL
    rw [if_pos ⟨hok, by show 0 ≤ z.u + m - 1; omega, by show z.u + m - 1 ≤ 100000; omega⟩]
    unfold wornK
    refine List.mem_map.2 ⟨k.toNat, List.mem_filter.2 ⟨List.mem_range.2 (by rw [List.length_set]; exact hi), ?_⟩, rfl⟩
    unfold wornB
    rw [hset]
    exact decide_eq_true (by show z.u + m - 1 < z.u + m; omega)
/-- The four words for a size's fault. -/
def SizeWord (s : ByteArray) : Prop := s = ⟨#[110, 111, 110, 101]⟩ ∨ s = ⟨#[108, 101, 110, 103, 116, 104]⟩ ∨ s = ⟨#[119, 105, 100, 116, 104]⟩ ∨ s = ⟨#[104, 101, 105, 103, 104, 116]⟩
theorem best_law {zs : List Mould} {l wd h j s : Int} (hc : bestC zs l wd h j s = 0) : ∃ (i : Nat) (x : Mould), bestV zs l wd h j s = (i : Int) ∧ zs[i]? = some x ∧ zs.length ≤ 20 ∧ ∀ off, 0 ≤ off → off ≤ 100 → sfC x.l x.w x.h x.u l wd h j s off = 0 ∧ SizeWord (sfS x.l x.w x.h x.u l wd h j s off) := by
  unfold bestC at hc
  split at hc
  case isFalse => omega
  rename_i h1
  split at hc
  case isFalse => omega
  rename_i h2
  split at hc
  case isFalse => omega
  rename_i h3
  have hlt := nearK_lt zs l wd h s zs.length zs.length (Nat.le_refl _) h3
  have hz := List.getElem?_eq_getElem hlt
  refine ⟨nearK zs l wd h s zs.length, _, if_pos ⟨h1, h2, h3⟩, hz, moulds_len h1.1, fun off h0 h9 => ?_⟩
  have ok := moulds_at h1.1 hz
  generalize zs[nearK zs l wd h s zs.length] = x at *
  have hk : SfOk x.l x.w x.h x.u l wd h j := ⟨ok, h1.2⟩
  have hr : SfR s off := ⟨h2, h0, h9⟩
  unfold sfC sfS
  rw [if_pos hk, if_pos hr, if_pos ⟨hk, hr⟩]
  refine ⟨rfl, ?_⟩
  unfold faultS SizeWord
  split
  · exact .inr (.inl rfl)
  · split
    · exact .inr (.inr (.inl rfl))
    · split
      · exact .inr (.inr (.inr rfl))
      · exact .inl rfl
end Go.Proofs.Ytgobpleckeeheaa
