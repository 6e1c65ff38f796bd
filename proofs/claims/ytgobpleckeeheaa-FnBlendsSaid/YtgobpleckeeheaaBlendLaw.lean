/-
  What is proved: plain facts on blends: the cheapest one has no fault, the wanted sum, and is no dearer than a blend of one clay; two clays give the shrinkage wanted. No program in sight. No conditions.
-/
import Derived.Test.YtgobpleckeeheaaAllS
import Derived.Test.YtgobpleckeeheaaCheapI
import Derived.Test.YtgobpleckeeheaaTwo2
import Derived.Test.YtgobpleckeeheaaMean
import Derived.Test.YtgobpleckeeheaaBFault2
namespace Go.Proofs.Ytgobpleckeeheaa
set_option linter.unusedVariables false

theorem sumK_app (ds es : List Int) : ∀ k, k ≤ ds.length → sumK (ds ++ es) k = sumK ds k
  | 0, _ => rfl
  | k + 1, h => by
    rw [sumK_succ, sumK_succ, sumK_app ds es k (by omega)]
    rw [List.getD_eq_getElem?_getD, List.getD_eq_getElem?_getD, List.getElem?_append_left (by omega)]
theorem sumK_push (ds : List Int) (x : Int) : sumK (ds ++ [x]) (ds ++ [x]).length = sumK ds ds.length + x := by
  rw [List.length_append, List.length_singleton, sumK_succ, sumK_app ds [x] ds.length (Nat.le_refl _), List.getD_eq_getElem?_getD, List.getElem?_append_right (Nat.le_refl _)]
  simp
theorem goodL_sum (f : List Int → Bool) : ∀ (rem : Nat) (ds : List Int) (left : Nat), ∀ e ∈ goodL f rem ds left, f e = true ∧ sumK e e.length = sumK ds ds.length + left
  | 0, ds, left, e, he => by
    unfold goodL at he
    split at he
    · rename_i h
      obtain rfl := List.mem_singleton.1 he
      exact ⟨h.2, by rw [h.1]; simp⟩
    · simp at he
  | rem + 1, ds, left, e, he => by
    unfold goodL at he
    obtain ⟨j, hj, he⟩ := List.mem_flatMap.1 he
    have hj := List.mem_range.1 hj
    have h := goodL_sum f rem (ds ++ [(j : Int)]) (left - j) e he
    rw [sumK_push] at h
    exact ⟨h.1, by omega⟩
/-- The sum of a list. -/
def sumP : List Int → Int
  | [] => 0
  | x :: xs => x + sumP xs
theorem sumP_nonneg : ∀ {es : List Int}, (∀ x ∈ es, 0 ≤ x) → 0 ≤ sumP es
  | [], _ => Int.le_refl _
  | x :: xs, h => by
    have h1 := h x (List.mem_cons_self ..)
    have h2 := sumP_nonneg (es := xs) (fun y hy => h y (List.mem_cons_of_mem _ hy))
    show 0 ≤ x + sumP xs
    omega
theorem goodL_mem (f : List Int → Bool) : ∀ (es ds : List Int) (left : Nat), (∀ x ∈ es, 0 ≤ x) → sumP es = (left : Int) → f (ds ++ es) = true → ds ++ es ∈ goodL f es.length ds left
  | [], ds, left, _, hs, hf => by
    obtain rfl : left = 0 := by
      have : (0 : Int) = (left : Int) := hs
      omega
    rw [List.append_nil] at hf ⊢
    rw [List.length_nil, goodL_yes hf]
    exact List.mem_singleton.2 rfl
  | x :: xs, ds, left, h, hs, hf => by
    have h1 := h x (List.mem_cons_self ..)
    have h2 := sumP_nonneg (es := xs) (fun y hy => h y (List.mem_cons_of_mem _ hy))
    have hs' : x + sumP xs = (left : Int) := hs
    obtain ⟨j, rfl⟩ := Int.eq_ofNat_of_zero_le h1
    have e : ds ++ (j : Int) :: xs = (ds ++ [(j : Int)]) ++ xs := by simp
    rw [e] at hf ⊢
    rw [List.length_cons]
    unfold goodL
    refine List.mem_flatMap.2 ⟨j, List.mem_range.2 (by omega), ?_⟩
    exact goodL_mem f xs (ds ++ [(j : Int)]) (left - j) (fun y hy => h y (List.mem_cons_of_mem _ hy)) (by omega) hf

/-- All parts of one clay. -/
def single (n i : Nat) (t : Int) : List Int := (List.replicate n 0).set i t
theorem single_length (n i : Nat) (t : Int) : (single n i t).length = n := by simp [single]
theorem single_at (n i k : Nat) (t : Int) (hi : i < n) : (single n i t).getD k 0 = if k = i then t else 0 := by
  unfold single
  rw [List.getD_eq_getElem?_getD, List.getElem?_set]
  by_cases h : i = k
  · subst h
    simp [hi]
  · rw [if_neg h, if_neg (fun q => h q.symm), List.getElem?_replicate]
    split <;> rfl
theorem single_mem {n i : Nat} {t x : Int} (h : x ∈ single n i t) : x = t ∨ x = 0 := by
  unfold single at h
  rcases List.mem_or_eq_of_mem_set h with h | h
  · exact .inr (List.eq_of_mem_replicate h)
  · exact .inl h
theorem single_parts {n i : Nat} {t : Int} (h0 : 0 ≤ t) (h1 : t ≤ 1000) : partsIn (single n i t) = true := by
  unfold partsIn
  refine List.all_eq_true.2 fun x hx => ?_
  rcases single_mem hx with rfl | rfl
  · exact decide_eq_true ⟨h0, h1⟩
  · exact decide_eq_true ⟨by omega, by omega⟩
theorem single_sumK {n i : Nat} {t : Int} (hi : i < n) : ∀ k, sumK (single n i t) k = if i < k then t else 0
  | 0 => rfl
  | k + 1 => by
    rw [sumK_succ, single_sumK hi k, single_at n i k t hi]
    by_cases h : k = i
    · subst h
      rw [if_pos rfl, if_neg (by omega), if_pos (by omega)]
      omega
    · rw [if_neg h]
      by_cases h2 : i < k
      · rw [if_pos h2, if_pos (by omega)]; omega
      · rw [if_neg h2, if_neg (by omega)]; omega
theorem single_sumP : ∀ {n i : Nat} {t : Int}, i < n → sumP (single n i t) = t
  | n + 1, 0, t, _ => by
    have h : ∀ m, sumP (List.replicate m 0) = 0 := by
      intro m
      induction m with
      | zero => rfl
      | succ m ih => rw [List.replicate_succ]; show 0 + sumP _ = 0; rw [ih]; rfl
    show sumP ((List.replicate (n + 1) 0).set 0 t) = t
    rw [List.replicate_succ, List.set_cons_zero]
    show t + sumP _ = t
    rw [h]
    omega
  | n + 1, i + 1, t, hi => by
    show sumP ((List.replicate (n + 1) 0).set (i + 1) t) = t
    rw [List.replicate_succ, List.set_cons_succ]
    show 0 + sumP (single n i t) = t
    rw [single_sumP (by omega)]
    omega
theorem single_totK {zs : List Clay} {val : Clay → Int} {n i : Nat} {t : Int} {z : Clay} (hi : i < n) (hz : zs[i]? = some z) : ∀ k, totK val zs (single n i t) k = if i < k then t * val z else 0
  | 0 => rfl
  | k + 1 => by
    rw [totK_succ, single_totK hi hz k, single_at n i k t hi]
    by_cases h : k = i
    · subst h
      rw [if_pos rfl, if_neg (by omega), if_pos (by omega), valAt_is hz]
      omega
    · rw [if_neg h, Int.zero_mul]
      by_cases h2 : i < k
      · rw [if_pos h2, if_pos (by omega)]; omega
      · rw [if_neg h2, if_neg (by omega)]; omega
def noneB : ByteArray := ⟨#[110, 111, 110, 101]⟩
theorem bgood_of {zs : List Clay} {l h m s : Int} {ds : List Int} (hb : bfault zs ds l h m s = noneB) : bgood zs l h m s ds = true := by
  unfold bgood
  rw [hb]
  simp [noneB, Lib.toList_data]
theorem bgood_is {zs : List Clay} {l h m s : Int} {ds : List Int} (hb : bgood zs l h m s ds = true) : bfault zs ds l h m s = noneB := by
  unfold bgood at hb
  have h1 : (bfault zs ds l h m s).toList = [110, 111, 110, 101] := by simpa using hb
  rw [Lib.toList_data] at h1
  apply ByteArray.ext
  apply Array.toList_inj.1
  rw [h1]
  rfl
theorem bf_codes {zs : List Clay} {ps : List Int} {l h m s : Int} (hz : claysOk zs = true) (hx : LimOk l h m s) (h0 : scode zs ps = 0) : bfC zs ps l h m s = 0 ∧ bfS zs ps l h m s = bfault zs ps l h m s := by
  constructor
  · unfold bfC
    rw [if_pos hz, if_pos hx]
    exact h0
  · unfold bfS
    rw [if_pos ⟨h0, hx⟩]
/-- What the law on the cheapest blend asks. -/
theorem blend_law {zs : List Clay} {l h m s t : Int} (hc : chC zs l h m s t = 0) :
    (claysOk zs = true ∧ LimOk l h m s ∧ 1 ≤ t ∧ t ≤ 12) ∧ scode zs (chL zs l h m s t) = 0 ∧ bfC zs (chL zs l h m s t) l h m s = 0 ∧ bfS zs (chL zs l h m s t) l h m s = noneB ∧ (chL zs l h m s t).length = zs.length ∧ partsIn (chL zs l h m s t) = true ∧ sumK (chL zs l h m s t) zs.length = t ∧
    ∀ (i : Nat) (z : Clay), zs[i]? = some z → bfC zs (single zs.length i t) l h m s = 0 ∧ (bfS zs (single zs.length i t) l h m s = noneB → mnum (valOf 3) zs (chL zs l h m s t) ≤ z.p * mden (valOf 3) zs (chL zs l h m s t)) := by
  have hb : blcode zs l h m s t = 0 := by
    unfold chC at hc
    split at hc
    · assumption
    · rename_i q; exact absurd hc q
  obtain ⟨hz, hx, ht1, ht2⟩ := blcode_ok hb
  have hne : allB zs l h m s t ≠ [] := by
    intro q
    unfold chC at hc
    rw [if_pos hb, q, if_pos (show ([] : List (List Int)).length = 0 from rfl)] at hc
    omega
  have hall : allB zs l h m s t = goodL (bgood zs l h m s) zs.length [] t.toNat := if_pos hb
  have hg := goodL_parts (bgood zs l h m s) zs.length [] t.toNat rfl (by omega)
  have hsix := clays_six hz
  rw [← hall] at hg
  have hpr : ∀ ds ∈ allB zs l h m s t, 0 ≤ priceL zs ds := fun ds hd => (price_in hz (hg ds hd).1 (hg ds hd).2 (by simpa using hsix)).1
  obtain ⟨hm, hpe, hle⟩ := cheap_some hpr hne
  have hK1 := hg _ hm
  have hs := goodL_sum (bgood zs l h m s) zs.length [] t.toNat _ (by rw [← hall]; exact hm)
  have hlen : (chL zs l h m s t).length = zs.length := by simpa [chL] using hK1.2
  have hsum : sumK (chL zs l h m s t) (chL zs l h m s t).length = t := by
    have := hs.2
    rw [show sumK ([] : List Int) ([] : List Int).length = 0 from rfl] at this
    show sumK (cheap (priceL zs) (allB zs l h m s t)).1 (cheap (priceL zs) (allB zs l h m s t)).1.length = t
    omega
  have hsc : scode zs (chL zs l h m s t) = 0 := scode_yes hz hlen hK1.1 (by rw [hsum]; omega)
  have hbf := bf_codes hz hx hsc
  refine ⟨⟨hz, hx, ht1, ht2⟩, hsc, hbf.1, hbf.2.trans (bgood_is hs.1), hlen, hK1.1, by rw [← hlen]; exact hsum, fun i z hi => ?_⟩
  have hin : i < zs.length := (List.getElem?_eq_some_iff.1 hi).1
  have hS : scode zs (single zs.length i t) = 0 := scode_yes hz (single_length ..) (single_parts (by omega) (by omega)) (by rw [single_length, single_sumK hin, if_pos hin]; omega)
  have hbS := bf_codes (ps := single zs.length i t) hz hx hS
  refine ⟨hbS.1, fun hn => ?_⟩
  have hmem : single zs.length i t ∈ allB zs l h m s t := by
    rw [hall]
    have := goodL_mem (bgood zs l h m s) (single zs.length i t) [] t.toNat (fun x hx => by rcases single_mem hx with rfl | rfl <;> omega) (by rw [single_sumP hin]; omega) (by rw [List.nil_append]; exact bgood_of (hbS.2.symm.trans hn))
    rw [single_length, List.nil_append] at this
    exact this
  have hcheap := hle _ hmem
  rw [← hpe] at hcheap
  have hps : priceL zs (single zs.length i t) = t * z.p := by
    unfold priceL
    rw [single_length, single_totK hin hi, if_pos hin]
    rfl
  rw [hps] at hcheap
  unfold mnum mden
  rw [if_pos hsc, if_pos hsc, hsum]
  show totK (valOf 3) zs (chL zs l h m s t) (chL zs l h m s t).length / _ ≤ _
  have hcheap' : totK (valOf 3) zs (chL zs l h m s t) (chL zs l h m s t).length ≤ t * z.p := hcheap
  generalize totK (valOf 3) zs (chL zs l h m s t) (chL zs l h m s t).length = P at *
  have hg0 : 0 < (Int.gcd P t : Int) := by
    have : Int.gcd P t ≠ 0 := fun q => by rw [Int.gcd_eq_zero_iff] at q; omega
    omega
  have e1 := Int.ediv_mul_cancel (Int.gcd_dvd_left (a := P) (b := t))
  have e2 := Int.ediv_mul_cancel (Int.gcd_dvd_right (a := P) (b := t))
  generalize (Int.gcd P t : Int) = g at *
  generalize P / g = x at *
  generalize t / g = y at *
  refine Int.le_of_mul_le_mul_right (a := g) ?_ hg0
  rw [e1, Int.mul_assoc, e2, Int.mul_comm z.p t]
  exact hcheap'
theorem count_law {zs : List Clay} {l h m s t : Int} (hb : blcode zs l h m s t = 0) : cntN zs l h m s t = 0 ↔ chC zs l h m s t = 3 := by
  rw [cntN_is]
  unfold chC
  rw [if_pos hb]
  split <;> omega
theorem price_bd {zs : List Clay} {K : List Int} (hz : claysOk zs = true) (hp : partsIn K = true) (hl : K.length = zs.length) (hs : sumK K K.length ≤ 12) (h0 : 1 ≤ sumK K K.length) : (0 ≤ mnum (valOf 3) zs K ∧ mnum (valOf 3) zs K ≤ 60000000) ∧ 0 ≤ mden (valOf 3) zs K ∧ mden (valOf 3) zs K ≤ 12 := by
  have hb := price_in hz hp hl (clays_six hz)
  have hsc : scode zs K = 0 := scode_yes hz hl hp (by omega)
  unfold priceL at hb
  unfold mnum mden
  rw [if_pos hsc, if_pos hsc]
  generalize totK (valOf 3) zs K K.length = P at *
  generalize sumK K K.length = t at *
  have hg0 : 0 < (Int.gcd P t : Int) := by
    have : Int.gcd P t ≠ 0 := fun q => by rw [Int.gcd_eq_zero_iff] at q; omega
    omega
  generalize (Int.gcd P t : Int) = g at *
  have a1 := Int.ediv_nonneg (a := P) (b := g) (by omega) (by omega)
  have a2 := Int.ediv_nonneg (a := t) (b := g) (by omega) (by omega)
  have a3 := Int.ediv_le_self (a := P) g (by omega)
  have a4 := Int.ediv_le_self (a := t) g (by omega)
  omega
theorem two_law {x y : Clay} {s : Int} (hc : twoC x y s = 0) : (0 ≤ twoX x y s ∧ twoX x y s ≤ 200) ∧ (0 ≤ twoY x y s ∧ twoY x y s ≤ 200) ∧ (0 ≤ x.s ∧ x.s ≤ 200) ∧ (0 ≤ y.s ∧ y.s ≤ 200) ∧ (0 ≤ s ∧ s ≤ 200) ∧
    twoX x y s * x.s + twoY x y s * y.s = (twoX x y s + twoY x y s) * s ∧ 1 ≤ twoX x y s + twoY x y s := by
  have h := hc
  unfold twoC at h
  split at h
  case isFalse => omega
  rename_i hok
  split at h
  case isFalse => omega
  rename_i hs
  split at h
  · omega
  rename_i hne
  split at h
  case isFalse => omega
  rename_i hin
  have ka := hok.1.2.1
  have kb := hok.2.2.1
  unfold twoX twoY
  rw [if_pos hc, if_pos hc]
  have hA : ∃ p q : Int, absB (y.s - s) = p ∧ absB (x.s - s) = q ∧ 0 ≤ p ∧ p ≤ 200 ∧ 0 ≤ q ∧ q ≤ 200 ∧ 1 ≤ p + q ∧ p * x.s + q * y.s = (p + q) * s := by
    rcases hin with hi | hi
    · refine ⟨y.s - s, s - x.s, absB_pos (by omega), by rw [absB_neg (by omega)]; omega, by omega, by omega, by omega, by omega, by omega, ?_⟩
      simp only [Int.sub_mul, Int.add_mul, Int.mul_comm s x.s, Int.mul_comm s y.s]
      rw [Int.mul_comm y.s x.s]
      omega
    · refine ⟨s - y.s, x.s - s, by rw [absB_neg (by omega)]; omega, absB_pos (by omega), by omega, by omega, by omega, by omega, by omega, ?_⟩
      simp only [Int.sub_mul, Int.add_mul, Int.mul_comm s x.s, Int.mul_comm s y.s]
      rw [Int.mul_comm y.s x.s]
      omega
  obtain ⟨p, q, hp, hq, p0, p1, q0, q1, hpq, he⟩ := hA
  rw [hp, hq]
  have hg0 : 0 < (Int.gcd p q : Int) := by
    have : Int.gcd p q ≠ 0 := fun r => by rw [Int.gcd_eq_zero_iff] at r; omega
    omega
  have e1 := Int.ediv_mul_cancel (Int.gcd_dvd_left (a := p) (b := q))
  have e2 := Int.ediv_mul_cancel (Int.gcd_dvd_right (a := p) (b := q))
  generalize (Int.gcd p q : Int) = g at *
  have a1 := Int.ediv_nonneg (a := p) (b := g) (by omega) (by omega)
  have a2 := Int.ediv_nonneg (a := q) (b := g) (by omega) (by omega)
  have a3 := Int.ediv_le_self (a := p) g (by omega)
  have a4 := Int.ediv_le_self (a := q) g (by omega)
  generalize p / g = u at *
  generalize q / g = v at *
  refine ⟨⟨a1, by omega⟩, ⟨a2, by omega⟩, ka, kb, hs, ?_, ?_⟩
  · refine Int.eq_of_mul_eq_mul_right (a := g) (by omega) ?_
    rw [← e1, ← e2] at he
    rw [Int.add_mul, Int.mul_right_comm u, Int.mul_right_comm v, he, Int.mul_right_comm (u + v), Int.add_mul u v g]
  · by_cases h9 : 0 < u + v
    · omega
    · exfalso
      obtain rfl : u = 0 := by omega
      obtain rfl : v = 0 := by omega
      omega
end Go.Proofs.Ytgobpleckeeheaa
