/-
  What is proved: plain facts on decimal numerals: a text is the numeral of a number of at most 18 digits just where it is read so. No program in sight. No conditions.
-/
import Derived.Lib.ItoaNum
import Derived.Lib.ItoaMem
import Derived.Lib.AtoiTie
import Derived.Lib.ParseIntBTie
import Derived.Test.YtjoepnmmcagggaaDoorSplit
namespace Go.Proofs.YtjoepnmmcagggaaDoor
set_option linter.unusedVariables false

def decB (n : Int) : ByteArray := ba (Lib.itoa n)
def trimL (l : List UInt8) : List UInt8 := if l.head? = some 45 then l.tail else l
/-- The number that a text of at most 18 digits spells as its numeral. -/
def numL (l : List UInt8) : Option Int :=
  match Lib.atoi l with
  | some n => if (trimL l).length ≤ 18 ∧ Lib.itoa n = l then some n else none
  | none => none
def decD (m : Nat) : List UInt8 := if m = 0 then [] else Lib.decDigits m
theorem dec_step (m : Nat) (h : m ≠ 0) : decD m = decD (m / 10) ++ [UInt8.ofNat (48 + m % 10)] := by
  unfold decD
  rw [if_neg h]
  by_cases h1 : m < 10
  · rw [if_pos (by omega), Lib.decDigits, dif_pos h1, List.nil_append, Nat.mod_eq_of_lt h1]
  · rw [if_neg (by omega), Lib.decDigits, dif_neg h1]
theorem dig_toNat (k : Nat) (h : k < 10) : (UInt8.ofNat (48 + k)).toNat = 48 + k := by
  rw [UInt8.toNat_ofNat', Nat.mod_eq_of_lt (by omega)]
theorem dec_digit : ∀ (u : Nat) (b : UInt8), b ∈ Lib.decDigits u → 48 ≤ b.toNat ∧ b.toNat ≤ 57 := by
  intro u
  induction u using Nat.strongRecOn with
  | _ u ih =>
    intro b hb
    rw [Lib.decDigits] at hb
    by_cases h : u < 10
    · rw [dif_pos h] at hb
      obtain rfl := List.mem_singleton.1 hb
      rw [dig_toNat u h]
      omega
    · rw [dif_neg h] at hb
      rcases List.mem_append.1 hb with hb | hb
      · exact ih (u / 10) (by omega) b hb
      · obtain rfl := List.mem_singleton.1 hb
        rw [dig_toNat _ (Nat.mod_lt _ (by decide))]
        have := Nat.mod_lt u (show 0 < 10 by decide)
        omega
theorem dec_ne (u : Nat) : Lib.decDigits u ≠ [] := by
  intro h
  have h1 := Lib.decDigits_length u
  have h2 := Lib.nDigits_pos u
  rw [h] at h1
  simp at h1
  omega
theorem from_append : ∀ (l r : List UInt8) (a : Nat), Lib.decFrom a (l ++ r) = (Lib.decFrom a l).bind fun b => Lib.decFrom b r
  | [], r, a => rfl
  | b :: l, r, a => by
    rw [List.cons_append, Lib.decFrom, Lib.decFrom]
    cases Lib.digitVal b with
    | none => rfl
    | some d => exact from_append l r _
theorem from_dig (a k : Nat) (h : k < 10) : Lib.decFrom a [UInt8.ofNat (48 + k)] = some (a * 10 + k) := by
  simp only [Lib.decFrom, Lib.digitVal]
  rw [dig_toNat k h, if_pos (by omega)]
  simp
theorem from_dec (u : Nat) : Lib.decFrom 0 (Lib.decDigits u) = some u := by
  induction u using Nat.strongRecOn with
  | _ u ih =>
    rw [Lib.decDigits]
    by_cases h : u < 10
    · rw [dif_pos h, from_dig 0 u h]
      simp
    · rw [dif_neg h, from_append, ih (u / 10) (by omega), Option.bind_some, from_dig _ _ (Nat.mod_lt _ (by decide))]
      congr 1
      omega
theorem nat_dec (u : Nat) : Lib.decNat (Lib.decDigits u) = some u := by
  unfold Lib.decNat
  rw [if_neg (by simp [dec_ne u])]
  exact from_dec u
theorem dec_head (u : Nat) : ∃ b l, Lib.decDigits u = b :: l ∧ b ≠ 45 ∧ b ≠ 43 := by
  cases h : Lib.decDigits u with
  | nil => exact absurd h (dec_ne u)
  | cons b l =>
    have := dec_digit u b (by rw [h]; exact List.mem_cons_self ..)
    refine ⟨b, l, rfl, fun e => ?_, fun e => ?_⟩
    · rw [e] at this; revert this; decide
    · rw [e] at this; revert this; decide
theorem itoa_pos {n : Int} (h : 0 ≤ n) : Lib.itoa n = Lib.decDigits n.toNat := by
  unfold Lib.itoa
  rw [if_neg (by omega)]
theorem itoa_min {n : Int} (h : n < 0) : Lib.itoa n = 45 :: Lib.decDigits n.natAbs := by
  unfold Lib.itoa
  rw [if_pos h]
theorem atoi_itoa (n : Int) : Lib.atoi (Lib.itoa n) = some n := by
  by_cases h : n < 0
  · rw [itoa_min h]
    simp only [Lib.atoi]
    rw [if_pos (by decide), nat_dec]
    simp only [Option.map_some]
    congr 1
    omega
  · rw [itoa_pos (by omega)]
    obtain ⟨b, l, hb, h1, h2⟩ := dec_head n.toNat
    have e := nat_dec n.toNat
    rw [hb] at e ⊢
    simp only [Lib.atoi]
    rw [if_neg (by simpa using h1), if_neg (by simpa using h2), e]
    simp only [Option.map_some]
    congr 1
    omega
theorem itoa_inj {m n : Int} (h : Lib.itoa m = Lib.itoa n) : m = n := by
  have := atoi_itoa m
  rw [h, atoi_itoa n] at this
  injection this with this
  exact this.symm
theorem decB_inj {m n : Int} (h : decB m = decB n) : m = n := by
  apply itoa_inj
  have := congrArg (fun b : ByteArray => b.data.toList) h
  simpa [decB, ba_data] using this
theorem trim_pos {n : Int} (h : 0 ≤ n) : trimL (Lib.itoa n) = Lib.decDigits n.toNat := by
  rw [itoa_pos h]
  obtain ⟨b, l, hb, h1, h2⟩ := dec_head n.toNat
  unfold trimL
  rw [hb, if_neg (by simpa using h1)]
theorem trim_min {n : Int} (h : n < 0) : trimL (Lib.itoa n) = Lib.decDigits n.natAbs := by
  rw [itoa_min h]
  rfl
theorem nDig_mono (k u : Nat) (h : u < 10 ^ k) (hk : 1 ≤ k) : Lib.nDigits u ≤ k := by
  induction k generalizing u with
  | zero => omega
  | succ k ih =>
    by_cases h1 : u < 10
    · rw [Lib.nDigits_small h1]; omega
    · rw [Lib.nDigits_big h1]
      rw [Nat.pow_succ] at h
      have hk1 : 1 ≤ k := by
        rcases Nat.eq_zero_or_pos k with e | e
        · subst e; simp at h; omega
        · exact e
      have := ih (u / 10) (by omega) hk1
      omega
theorem dec_short {u : Nat} : (Lib.decDigits u).length ≤ 18 ↔ u < 1000000000000000000 := by
  rw [Lib.decDigits_length]
  constructor
  · intro h
    have h1 := Lib.lt_pow_nDigits u
    have h2 : (10 : Nat) ^ Lib.nDigits u ≤ 10 ^ 18 := Nat.pow_le_pow_right (by decide) h
    have h3 : (10 : Nat) ^ 18 = 1000000000000000000 := by decide
    omega
  · intro h
    exact nDig_mono 18 u (by omega) (by decide)
def Small (n : Int) : Prop := -1000000000000000000 < n ∧ n < 1000000000000000000
theorem trim_short {n : Int} : (trimL (Lib.itoa n)).length ≤ 18 ↔ Small n := by
  unfold Small
  by_cases h : n < 0
  · rw [trim_min h, dec_short]
    omega
  · rw [trim_pos (by omega), dec_short]
    omega
theorem num_iff {l : List UInt8} {n : Int} : numL l = some n ↔ Lib.itoa n = l ∧ Small n := by
  constructor
  · intro h
    unfold numL at h
    split at h
    · rename_i m hm
      by_cases hc : (trimL l).length ≤ 18 ∧ Lib.itoa m = l
      · rw [if_pos hc] at h
        injection h with h
        subst h
        refine ⟨hc.2, ?_⟩
        rw [← trim_short, hc.2]
        exact hc.1
      · rw [if_neg hc] at h
        cases h
    · cases h
  · rintro ⟨rfl, hs⟩
    unfold numL
    rw [atoi_itoa]
    exact if_pos ⟨trim_short.2 hs, rfl⟩
theorem num_itoa {n : Int} (h : Small n) : numL (Lib.itoa n) = some n := num_iff.2 ⟨rfl, h⟩
theorem num_none {l : List UInt8} {n : Int} (h : Lib.atoi l = some n) (hn : Lib.itoa n ≠ l) : numL l = none := by
  cases hm : numL l with
  | none => rfl
  | some m =>
    have := num_iff.1 hm
    have h2 := atoi_itoa m
    rw [this.1, h] at h2
    injection h2 with h2
    subst h2
    exact absurd this.1 hn
theorem num_long {l : List UInt8} (h : 18 < (trimL l).length) : numL l = none := by
  cases hm : numL l with
  | none => rfl
  | some m =>
    have := num_iff.1 hm
    have h2 := trim_short.2 this.2
    rw [this.1] at h2
    omega
theorem num_atoi {l : List UInt8} (h : Lib.atoi l = none) : numL l = none := by
  unfold numL
  rw [h]
theorem trim_itoa {l : List UInt8} {n : Int} (h : numL l = some n) : trimL l = Lib.decDigits n.natAbs := by
  have := num_iff.1 h
  rw [← this.1]
  by_cases hn : n < 0
  · exact trim_min hn
  · rw [trim_pos (by omega)]
    congr 1
    omega
theorem num_empty {l : List UInt8} (h : trimL l = []) : numL l = none := by
  cases hm : numL l with
  | none => rfl
  | some m => exact absurd ((trim_itoa hm).symm.trans h) (dec_ne _)
/-- A byte that is no digit. -/
theorem num_bad {l : List UInt8} {k : Nat} {b : UInt8} (hb : (trimL l)[k]? = some b) (hd : ¬ (48 ≤ b.toNat ∧ b.toNat ≤ 57)) : numL l = none := by
  cases hm : numL l with
  | none => rfl
  | some m =>
    rw [trim_itoa hm] at hb
    exact absurd (dec_digit _ b (List.mem_of_getElem? hb)) hd
theorem parse_small (l : List UInt8) (h : (trimL l).length ≤ 18) : Lib.parseIntB 64 l = Lib.NumEnd.ofOption (Lib.atoi l) := by
  rw [Lib.parseIntB_64]
  cases l with
  | nil => rfl
  | cons c r =>
    by_cases h45 : c = 45
    · subst h45
      have hr : r.length ≤ 18 := by simpa [trimL] using h
      rw [Lib.atoiAll_minus, Lib.signed_short hr]
      rfl
    · refine Lib.atoiAll_short _ ?_
      unfold trimL at h
      rwa [if_neg (by simpa using h45)] at h
/-- The value of the digits behind the sign decides. -/
theorem atoi_trim {l : List UInt8} {v : Nat} (h : Lib.decFrom 0 (trimL l) = some v) (hne : trimL l ≠ []) : Lib.atoi l = some (if l.head? = some 45 then -(v : Int) else (v : Int)) := by
  cases l with
  | nil => exact absurd rfl hne
  | cons c r =>
    have hn : Lib.decNat (trimL (c :: r)) = some v := by
      unfold Lib.decNat
      rw [if_neg (by simpa using hne)]
      exact h
    by_cases h45 : c = 45
    · subst h45
      have hn' : Lib.decNat r = some v := hn
      simp only [Lib.atoi]
      rw [if_pos (by decide), hn', if_pos (show (45 :: r).head? = some 45 from rfl)]
      rfl
    · have e : trimL (c :: r) = c :: r := by
        unfold trimL
        rw [if_neg (by simpa using h45)]
      rw [if_neg (by simpa using h45)]
      rw [e] at h hn
      have h43 : c ≠ 43 := by
        intro e2
        subst e2
        simp [Lib.decFrom, Lib.digitVal] at h
      simp only [Lib.atoi]
      rw [if_neg (by simpa using h45), if_neg (by simpa using h43), hn]
      rfl
theorem itoa_size (n : Int) (h0 : -9223372036854775808 ≤ n) (h1 : n ≤ 9223372036854775807) : (Lib.itoa n).length ≤ 20 := by
  have hq : ∀ u : Nat, u ≤ 9223372036854775808 → (Lib.decDigits u).length ≤ 19 := fun u hu => by
    rw [Lib.decDigits_length]
    exact nDig_mono 19 u (by omega) (by decide)
  by_cases h : n < 0
  · rw [itoa_min h, List.length_cons]
    have := hq n.natAbs (by omega)
    omega
  · rw [itoa_pos (by omega)]
    have := hq n.toNat (by omega)
    omega
/-- No sign or digit is another byte. -/
theorem itoa_no {n : Int} {c : UInt8} (h : ¬ (48 ≤ c.toNat ∧ c.toNat ≤ 57)) (h45 : c ≠ 45) : c ∉ Lib.itoa n := by
  intro hm
  by_cases hn : n < 0
  · rw [itoa_min hn] at hm
    rcases List.mem_cons.1 hm with e | hm
    · exact h45 e
    · exact h (dec_digit _ _ hm)
  · rw [itoa_pos (by omega)] at hm
    exact h (dec_digit _ _ hm)
end Go.Proofs.YtjoepnmmcagggaaDoor
