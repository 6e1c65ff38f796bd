/-
  What is proved: the small lemmas of 5 of our texts, joined into one file: each part's own comment says what it proves and under which conditions.
-/
import Derived.Lib.Split
import Derived.Lib.Index
import Derived.Lib.ItoaNum
import Derived.Lib.ItoaMem
import Derived.Lib.AtoiTie
import Derived.Lib.ParseIntBTie
import Derived.Test.YtfjdhjbfingofaaGreatDoorJoinB
import Derived.Deep.RegionHeld3
import Derived.Laws.AppendOwn
import Derived.OwnWalk
import Derived.Laws.IdiomStrings
import Derived.Lib.UnsafeStr
import Derived.Lib.BufferWrite
import Derived.PlainAid
/-
  What is proved: plain facts on a text cut at a byte. No program in sight. No conditions.
-/
namespace Go.Proofs.YtfjdhjbfingofaaGreatDoor

set_option linter.unusedVariables false

/-- A text cut at each instance of a byte. -/
def spl (c : UInt8) : List UInt8 → List (List UInt8)
  | [] => [[]]
  | b :: l => if b = c then [] :: spl c l else ((spl c l).headD [] |> (b :: ·)) :: (spl c l).tail
theorem spl_ne (c : UInt8) (l : List UInt8) : spl c l ≠ [] := by
  cases l with
  | nil => simp [spl]
  | cons b l =>
    unfold spl
    split <;> simp
theorem spl_hit (c : UInt8) (l : List UInt8) : spl c (c :: l) = [] :: spl c l := by
  rw [spl, if_pos rfl]
theorem spl_pass {c b : UInt8} {l w : List UInt8} {ws : List (List UInt8)} (hb : b ≠ c) (h : spl c l = w :: ws) : spl c (b :: l) = (b :: w) :: ws := by
  rw [spl, if_neg hb, h]
  rfl
theorem spl_cut {c : UInt8} : ∀ {a b : List UInt8}, c ∉ a → spl c (a ++ c :: b) = a :: spl c b
  | [], b, _ => spl_hit c b
  | x :: a, b, h => by
    have hx : x ≠ c := fun e => h (by rw [e]; exact List.mem_cons_self ..)
    have ih := spl_cut (a := a) (b := b) (fun hm => h (List.mem_cons_of_mem _ hm))
    exact spl_pass hx ih
theorem spl_none {c : UInt8} : ∀ {a : List UInt8}, c ∉ a → spl c a = [a]
  | [], _ => rfl
  | x :: a, h => by
    have hx : x ≠ c := fun e => h (by rw [e]; exact List.mem_cons_self ..)
    have ih := spl_none (a := a) (fun hm => h (List.mem_cons_of_mem _ hm))
    exact spl_pass hx ih
theorem spl_cases (c : UInt8) : ∀ l : List UInt8, (c ∉ l ∧ Lib.index l [c] = -1) ∨ ∃ a b, l = a ++ c :: b ∧ c ∉ a ∧ Lib.index l [c] = (a.length : Int)
  | [] => .inl ⟨by simp, rfl⟩
  | x :: l => by
    by_cases hx : x = c
    · subst hx
      exact .inr ⟨[], l, rfl, by simp, by simp [Lib.index, List.isPrefixOf]⟩
    · have hp : ([c].isPrefixOf (x :: l)) = false := by
        simp [List.isPrefixOf]
        exact fun e => hx e.symm
      rcases spl_cases c l with ⟨h1, h2⟩ | ⟨a, b, rfl, h1, h2⟩
      · refine .inl ⟨by simp [h1]; exact fun e => hx e.symm, ?_⟩
        unfold Lib.index
        rw [hp, h2]
        rfl
      · refine .inr ⟨x :: a, b, rfl, by simp [h1]; exact fun e => hx e.symm, ?_⟩
        unfold Lib.index
        rw [hp, h2]
        rw [if_neg (by simp), if_neg (by simp <;> omega)]
        simp
theorem spl_mem {c : UInt8} : ∀ {l w : List UInt8}, w ∈ spl c l → c ∉ w := by
  intro l
  induction h : l.length using Nat.strongRecOn generalizing l with
  | ind n ih =>
    intro w hw
    rcases spl_cases c l with ⟨h1, _⟩ | ⟨a, b, rfl, h1, _⟩
    · rw [spl_none h1] at hw
      obtain rfl := List.mem_singleton.1 hw
      exact h1
    · rw [spl_cut h1] at hw
      rcases List.mem_cons.1 hw with rfl | hw
      · exact h1
      · exact ih b.length (by rw [← h]; simp; omega) rfl hw
theorem inter_cons {c : UInt8} {w v : List UInt8} {ws : List (List UInt8)} : [c].intercalate (w :: v :: ws) = w ++ c :: [c].intercalate (v :: ws) := by
  simp [List.intercalate, List.intersperse]
theorem inter_one {c : UInt8} {w : List UInt8} : [c].intercalate [w] = w := by
  simp [List.intercalate, List.intersperse]
theorem spl_join (c : UInt8) : ∀ l : List UInt8, [c].intercalate (spl c l) = l := by
  intro l
  induction h : l.length using Nat.strongRecOn generalizing l with
  | ind n ih =>
    rcases spl_cases c l with ⟨h1, _⟩ | ⟨a, b, rfl, h1, _⟩
    · rw [spl_none h1, inter_one]
    · rw [spl_cut h1]
      have hb := ih b.length (by rw [← h]; simp; omega) b rfl
      cases hs : spl c b with
      | nil => exact absurd hs (spl_ne c b)
      | cons v ws =>
        rw [inter_cons, ← hs, hb]
theorem spl_of_join {c : UInt8} : ∀ {ws : List (List UInt8)}, ws ≠ [] → (∀ w ∈ ws, c ∉ w) → spl c ([c].intercalate ws) = ws
  | [], h, _ => absurd rfl h
  | [w], _, h => by
    rw [inter_one]
    exact spl_none (h w (List.mem_cons_self ..))
  | w :: v :: ws, _, h => by
    rw [inter_cons, spl_cut (h w (List.mem_cons_self ..)), spl_of_join (List.cons_ne_nil _ _) (fun x hx => h x (List.mem_cons_of_mem _ hx))]
theorem spl_length (c : UInt8) (l : List UInt8) : (spl c l).length = l.count c + 1 := by
  induction h : l.length using Nat.strongRecOn generalizing l with
  | ind n ih =>
    rcases spl_cases c l with ⟨h1, _⟩ | ⟨a, b, rfl, h1, _⟩
    · rw [spl_none h1, List.count_eq_zero_of_not_mem h1]
      rfl
    · rw [spl_cut h1, List.length_cons, ih b.length (by rw [← h]; simp; omega) b rfl, List.count_append, List.count_eq_zero_of_not_mem h1, List.count_cons_self]
      omega
theorem spl_count (c : UInt8) (l : List UInt8) : (spl c l).length ≤ l.length + 1 := by
  rw [spl_length]
  have := List.count_le_length (a := c) (l := l)
  omega
/-- The library's cut at k instances at most. -/
theorem splitK_all {c : UInt8} : ∀ {k : Nat} {l : List UInt8}, (spl c l).length ≤ k + 1 → Lib.splitK [c] 0 k l = spl c l
  | 0, l, h => by
    rcases spl_cases c l with ⟨h1, _⟩ | ⟨a, b, rfl, h1, _⟩
    · rw [spl_none h1]; rfl
    · rw [spl_cut h1] at h
      have := List.length_pos_iff.2 (spl_ne c b)
      rw [List.length_cons] at h
      omega
  | k + 1, l, h => by
    rcases spl_cases c l with ⟨h1, h2⟩ | ⟨a, b, rfl, h1, h2⟩
    · rw [spl_none h1, Lib.splitK, h2]; rfl
    · rw [spl_cut h1] at h ⊢
      rw [Lib.splitK, h2, if_neg (by simp <;> omega)]
      have e1 : ((a.length : Int).toNat + 0) = a.length := by omega
      have e2 : ((a.length : Int).toNat + [c].length) = a.length + 1 := by simp
      rw [e1, e2, List.take_left, ← List.drop_drop, List.drop_left, List.drop_succ_cons, List.drop_zero]
      rw [splitK_all (by simp at h; omega)]
theorem splitK_few {c : UInt8} : ∀ {k : Nat} {l : List UInt8}, k + 1 < (spl c l).length → (Lib.splitK [c] 0 k l).length = k + 1
  | 0, l, h => rfl
  | k + 1, l, h => by
    rcases spl_cases c l with ⟨h1, h2⟩ | ⟨a, b, rfl, h1, h2⟩
    · rw [spl_none h1] at h
      simp at h
    · rw [spl_cut h1] at h
      rw [Lib.splitK, h2, if_neg (by simp <;> omega)]
      have e1 : ((a.length : Int).toNat + 0) = a.length := by omega
      have e2 : ((a.length : Int).toNat + [c].length) = a.length + 1 := by simp
      rw [e1, e2, List.take_left, ← List.drop_drop, List.drop_left, List.drop_succ_cons, List.drop_zero, List.length_cons, splitK_few (by simp at h; omega)]
theorem splitK_le {c : UInt8} {k : Nat} {l : List UInt8} : (Lib.splitK [c] 0 k l).length ≤ k + 1 := by
  rcases Nat.lt_or_ge (k + 1) (spl c l).length with h | h
  · rw [splitK_few h]; exact Nat.le_refl _
  · rw [splitK_all h]; exact h
theorem cut_none {c : UInt8} {l : List UInt8} (h : c ∉ l) : Lib.cut l [c] = (l, [], false) := by
  rcases spl_cases c l with ⟨h1, h2⟩ | ⟨a, b, rfl, h1, h2⟩
  · unfold Lib.cut
    rw [h2, if_neg (by omega)]
  · simp at h
theorem cut_hit {c : UInt8} {a b : List UInt8} (h : c ∉ a) : Lib.cut (a ++ c :: b) [c] = (a, b, true) := by
  rcases spl_cases c (a ++ c :: b) with ⟨h1, h2⟩ | ⟨a', b', e, h1, h2⟩
  · simp at h1
  · have e3 : spl c (a ++ c :: b) = spl c (a' ++ c :: b') := by rw [e]
    rw [spl_cut h, spl_cut h1] at e3
    injection e3 with e4 e5
    subst e4
    have e6 : b = b' := by
      have := List.append_cancel_left e
      injection this
    subst e6
    unfold Lib.cut
    rw [h2, if_pos (by omega)]
    have e1 : (a.length : Int).toNat = a.length := by omega
    have e2 : ((a.length : Int).toNat + [c].length) = a.length + 1 := by simp
    rw [e2, e1, List.take_left, ← List.drop_drop, List.drop_left, List.drop_succ_cons, List.drop_zero]
/-- Texts of bytes as values. -/
def ba (l : List UInt8) : ByteArray := ⟨l.toArray⟩
theorem ba_data (l : List UInt8) : (ba l).data.toList = l := by simp [ba]
theorem ba_of (s : ByteArray) : ba s.data.toList = s := by
  apply ByteArray.ext
  simp [ba]
def splB (c : UInt8) (s : ByteArray) : List ByteArray := (spl c s.data.toList).map ba
theorem map_ba {xs : List ByteArray} {ls : List (List UInt8)} (h : xs.map (·.data.toList) = ls) : xs = ls.map ba := by
  subst h
  rw [List.map_map]
  induction xs with
  | nil => rfl
  | cons x xs ih =>
    rw [List.map_cons, ← ih]
    congr 1
    all_goals exact (ba_of x).symm
theorem splitB_all {c : UInt8} {k : Nat} {s : ByteArray} (h : (spl c s.data.toList).length ≤ k + 1) : Lib.splitB ⟨#[c]⟩ 0 k s = splB c s := by
  unfold splB
  apply map_ba
  rw [Lib.splitB_data]
  exact splitK_all h
theorem splitB_few {c : UInt8} {k : Nat} {s : ByteArray} (h : k + 1 < (spl c s.data.toList).length) : (Lib.splitB ⟨#[c]⟩ 0 k s).length = k + 1 := by
  have e : (Lib.splitB ⟨#[c]⟩ 0 k s).length = ((Lib.splitB ⟨#[c]⟩ 0 k s).map (·.data.toList)).length := by rw [List.length_map]
  rw [e, Lib.splitB_data]
  exact splitK_few h
end Go.Proofs.YtfjdhjbfingofaaGreatDoor

/-
  What is proved: plain facts on decimal numerals: a text is the numeral of a number of at most 18 digits just where it is read so. No program in sight. No conditions.
-/
namespace Go.Proofs.YtfjdhjbfingofaaGreatDoor
set_option linter.unusedVariables false

def decB (n : Int) : ByteArray := ba (Lib.itoa n)
def trimL (l : List UInt8) : List UInt8 := if l.head? = some 45 then l.tail else l
/-- The number that a text of at most 18 digits spells as its numeral. -/
def numL (l : List UInt8) : Option Int :=
  match Lib.atoi l with
  | some n => if (trimL l).length ≤ 18 ∧ Lib.itoa n = l then some n else none
  | none => none
def decD (m : Nat) : List UInt8 := if m = 0 then [] else Lib.decDigits m
theorem dec_step (m : Nat) (h : m ≠ 0) : decD m = decD (m / 10) ++ [UInt8.ofNat (48 + m % 10)] := by
  unfold decD
  rw [if_neg h]
  by_cases h1 : m < 10
  · rw [if_pos (by omega), Lib.decDigits, dif_pos h1, List.nil_append, Nat.mod_eq_of_lt h1]
  · rw [if_neg (by omega), Lib.decDigits, dif_neg h1]
theorem dig_toNat (k : Nat) (h : k < 10) : (UInt8.ofNat (48 + k)).toNat = 48 + k := by
  rw [UInt8.toNat_ofNat', Nat.mod_eq_of_lt (by omega)]
theorem dec_digit : ∀ (u : Nat) (b : UInt8), b ∈ Lib.decDigits u → 48 ≤ b.toNat ∧ b.toNat ≤ 57 := by
  intro u
  induction u using Nat.strongRecOn with
  | _ u ih =>
    intro b hb
    rw [Lib.decDigits] at hb
    by_cases h : u < 10
    · rw [dif_pos h] at hb
      obtain rfl := List.mem_singleton.1 hb
      rw [dig_toNat u h]
      omega
    · rw [dif_neg h] at hb
      rcases List.mem_append.1 hb with hb | hb
      · exact ih (u / 10) (by omega) b hb
      · obtain rfl := List.mem_singleton.1 hb
        rw [dig_toNat _ (Nat.mod_lt _ (by decide))]
        have := Nat.mod_lt u (show 0 < 10 by decide)
        omega
theorem dec_ne (u : Nat) : Lib.decDigits u ≠ [] := by
  intro h
  have h1 := Lib.decDigits_length u
  have h2 := Lib.nDigits_pos u
  rw [h] at h1
  simp at h1
  omega
theorem from_append : ∀ (l r : List UInt8) (a : Nat), Lib.decFrom a (l ++ r) = (Lib.decFrom a l).bind fun b => Lib.decFrom b r
  | [], r, a => rfl
  | b :: l, r, a => by
    rw [List.cons_append, Lib.decFrom, Lib.decFrom]
    cases Lib.digitVal b with
    | none => rfl
    | some d => exact from_append l r _
theorem from_dig (a k : Nat) (h : k < 10) : Lib.decFrom a [UInt8.ofNat (48 + k)] = some (a * 10 + k) := by
  simp only [Lib.decFrom, Lib.digitVal]
  rw [dig_toNat k h, if_pos (by omega)]
  simp
theorem from_dec (u : Nat) : Lib.decFrom 0 (Lib.decDigits u) = some u := by
  induction u using Nat.strongRecOn with
  | _ u ih =>
    rw [Lib.decDigits]
    by_cases h : u < 10
    · rw [dif_pos h, from_dig 0 u h]
      simp
    · rw [dif_neg h, from_append, ih (u / 10) (by omega), Option.bind_some, from_dig _ _ (Nat.mod_lt _ (by decide))]
      congr 1
      omega
theorem nat_dec (u : Nat) : Lib.decNat (Lib.decDigits u) = some u := by
  unfold Lib.decNat
  rw [if_neg (by simp [dec_ne u])]
  exact from_dec u
theorem dec_head (u : Nat) : ∃ b l, Lib.decDigits u = b :: l ∧ b ≠ 45 ∧ b ≠ 43 := by
  cases h : Lib.decDigits u with
  | nil => exact absurd h (dec_ne u)
  | cons b l =>
    have := dec_digit u b (by rw [h]; exact List.mem_cons_self ..)
    refine ⟨b, l, rfl, fun e => ?_, fun e => ?_⟩
    · rw [e] at this; revert this; decide
    · rw [e] at this; revert this; decide
theorem itoa_pos {n : Int} (h : 0 ≤ n) : Lib.itoa n = Lib.decDigits n.toNat := by
  unfold Lib.itoa
  rw [if_neg (by omega)]
theorem itoa_min {n : Int} (h : n < 0) : Lib.itoa n = 45 :: Lib.decDigits n.natAbs := by
  unfold Lib.itoa
  rw [if_pos h]
theorem atoi_itoa (n : Int) : Lib.atoi (Lib.itoa n) = some n := by
  by_cases h : n < 0
  · rw [itoa_min h]
    simp only [Lib.atoi]
    rw [if_pos (by decide), nat_dec]
    simp only [Option.map_some]
    congr 1
    omega
  · rw [itoa_pos (by omega)]
    obtain ⟨b, l, hb, h1, h2⟩ := dec_head n.toNat
    have e := nat_dec n.toNat
    rw [hb] at e ⊢
    simp only [Lib.atoi]
    rw [if_neg (by simpa using h1), if_neg (by simpa using h2), e]
    simp only [Option.map_some]
    congr 1
    omega
theorem itoa_inj {m n : Int} (h : Lib.itoa m = Lib.itoa n) : m = n := by
  have := atoi_itoa m
  rw [h, atoi_itoa n] at this
  injection this with this
  exact this.symm
theorem decB_inj {m n : Int} (h : decB m = decB n) : m = n := by
  apply itoa_inj
  have := congrArg (fun b : ByteArray => b.data.toList) h
  simpa [decB, ba_data] using this
theorem trim_pos {n : Int} (h : 0 ≤ n) : trimL (Lib.itoa n) = Lib.decDigits n.toNat := by
  rw [itoa_pos h]
  obtain ⟨b, l, hb, h1, h2⟩ := dec_head n.toNat
  unfold trimL
  rw [hb, if_neg (by simpa using h1)]
theorem trim_min {n : Int} (h : n < 0) : trimL (Lib.itoa n) = Lib.decDigits n.natAbs := by
  rw [itoa_min h]
  rfl
theorem nDig_mono (k u : Nat) (h : u < 10 ^ k) (hk : 1 ≤ k) : Lib.nDigits u ≤ k := by
  induction k generalizing u with
  | zero => omega
  | succ k ih =>
    by_cases h1 : u < 10
    · rw [Lib.nDigits_small h1]; omega
    · rw [Lib.nDigits_big h1]
      rw [Nat.pow_succ] at h
      have hk1 : 1 ≤ k := by
        rcases Nat.eq_zero_or_pos k with e | e
        · subst e; simp at h; omega
        · exact e
      have := ih (u / 10) (by omega) hk1
      omega
theorem dec_short {u : Nat} : (Lib.decDigits u).length ≤ 18 ↔ u < 1000000000000000000 := by
  rw [Lib.decDigits_length]
  constructor
  · intro h
    have h1 := Lib.lt_pow_nDigits u
    have h2 : (10 : Nat) ^ Lib.nDigits u ≤ 10 ^ 18 := Nat.pow_le_pow_right (by decide) h
    have h3 : (10 : Nat) ^ 18 = 1000000000000000000 := by decide
    omega
  · intro h
    exact nDig_mono 18 u (by omega) (by decide)
def Small (n : Int) : Prop := -1000000000000000000 < n ∧ n < 1000000000000000000
theorem trim_short {n : Int} : (trimL (Lib.itoa n)).length ≤ 18 ↔ Small n := by
  unfold Small
  by_cases h : n < 0
  · rw [trim_min h, dec_short]
    omega
  · rw [trim_pos (by omega), dec_short]
    omega
theorem num_iff {l : List UInt8} {n : Int} : numL l = some n ↔ Lib.itoa n = l ∧ Small n := by
  constructor
  · intro h
    unfold numL at h
    split at h
    · rename_i m hm
      by_cases hc : (trimL l).length ≤ 18 ∧ Lib.itoa m = l
      · rw [if_pos hc] at h
        injection h with h
        subst h
        refine ⟨hc.2, ?_⟩
        rw [← trim_short, hc.2]
        exact hc.1
      · rw [if_neg hc] at h
        cases h
    · cases h
  · rintro ⟨rfl, hs⟩
    unfold numL
    rw [atoi_itoa]
    exact if_pos ⟨trim_short.2 hs, rfl⟩
theorem num_itoa {n : Int} (h : Small n) : numL (Lib.itoa n) = some n := num_iff.2 ⟨rfl, h⟩
theorem num_none {l : List UInt8} {n : Int} (h : Lib.atoi l = some n) (hn : Lib.itoa n ≠ l) : numL l = none := by
  cases hm : numL l with
  | none => rfl
  | some m =>
    have := num_iff.1 hm
    have h2 := atoi_itoa m
    rw [this.1, h] at h2
    injection h2 with h2
    subst h2
    exact absurd this.1 hn
theorem num_long {l : List UInt8} (h : 18 < (trimL l).length) : numL l = none := by
  cases hm : numL l with
  | none => rfl
  | some m =>
    have := num_iff.1 hm
    have h2 := trim_short.2 this.2
    rw [this.1] at h2
    omega
theorem num_atoi {l : List UInt8} (h : Lib.atoi l = none) : numL l = none := by
  unfold numL
  rw [h]
theorem trim_itoa {l : List UInt8} {n : Int} (h : numL l = some n) : trimL l = Lib.decDigits n.natAbs := by
  have := num_iff.1 h
  rw [← this.1]
  by_cases hn : n < 0
  · exact trim_min hn
  · rw [trim_pos (by omega)]
    congr 1
    omega
theorem num_empty {l : List UInt8} (h : trimL l = []) : numL l = none := by
  cases hm : numL l with
  | none => rfl
  | some m => exact absurd ((trim_itoa hm).symm.trans h) (dec_ne _)
/-- A byte that is no digit. -/
theorem num_bad {l : List UInt8} {k : Nat} {b : UInt8} (hb : (trimL l)[k]? = some b) (hd : ¬ (48 ≤ b.toNat ∧ b.toNat ≤ 57)) : numL l = none := by
  cases hm : numL l with
  | none => rfl
  | some m =>
    rw [trim_itoa hm] at hb
    exact absurd (dec_digit _ b (List.mem_of_getElem? hb)) hd
theorem parse_small (l : List UInt8) (h : (trimL l).length ≤ 18) : Lib.parseIntB 64 l = Lib.NumEnd.ofOption (Lib.atoi l) := by
  rw [Lib.parseIntB_64]
  cases l with
  | nil => rfl
  | cons c r =>
    by_cases h45 : c = 45
    · subst h45
      have hr : r.length ≤ 18 := by simpa [trimL] using h
      rw [Lib.atoiAll_minus, Lib.signed_short hr]
      rfl
    · refine Lib.atoiAll_short _ ?_
      unfold trimL at h
      rwa [if_neg (by simpa using h45)] at h
/-- The value of the digits behind the sign decides. -/
theorem atoi_trim {l : List UInt8} {v : Nat} (h : Lib.decFrom 0 (trimL l) = some v) (hne : trimL l ≠ []) : Lib.atoi l = some (if l.head? = some 45 then -(v : Int) else (v : Int)) := by
  cases l with
  | nil => exact absurd rfl hne
  | cons c r =>
    have hn : Lib.decNat (trimL (c :: r)) = some v := by
      unfold Lib.decNat
      rw [if_neg (by simpa using hne)]
      exact h
    by_cases h45 : c = 45
    · subst h45
      have hn' : Lib.decNat r = some v := hn
      simp only [Lib.atoi]
      rw [if_pos (by decide), hn', if_pos (show (45 :: r).head? = some 45 from rfl)]
      rfl
    · have e : trimL (c :: r) = c :: r := by
        unfold trimL
        rw [if_neg (by simpa using h45)]
      rw [if_neg (by simpa using h45)]
      rw [e] at h hn
      have h43 : c ≠ 43 := by
        intro e2
        subst e2
        simp [Lib.decFrom, Lib.digitVal] at h
      simp only [Lib.atoi]
      rw [if_neg (by simpa using h45), if_neg (by simpa using h43), hn]
      rfl
theorem itoa_size (n : Int) (h0 : -9223372036854775808 ≤ n) (h1 : n ≤ 9223372036854775807) : (Lib.itoa n).length ≤ 20 := by
  have hq : ∀ u : Nat, u ≤ 9223372036854775808 → (Lib.decDigits u).length ≤ 19 := fun u hu => by
    rw [Lib.decDigits_length]
    exact nDig_mono 19 u (by omega) (by decide)
  by_cases h : n < 0
  · rw [itoa_min h, List.length_cons]
    have := hq n.natAbs (by omega)
    omega
  · rw [itoa_pos (by omega)]
    have := hq n.toNat (by omega)
    omega
/-- No sign or digit is another byte. -/
theorem itoa_no {n : Int} {c : UInt8} (h : ¬ (48 ≤ c.toNat ∧ c.toNat ≤ 57)) (h45 : c ≠ 45) : c ∉ Lib.itoa n := by
  intro hm
  by_cases hn : n < 0
  · rw [itoa_min hn] at hm
    rcases List.mem_cons.1 hm with e | hm
    · exact h45 e
    · exact h (dec_digit _ _ hm)
  · rw [itoa_pos (by omega)] at hm
    exact h (dec_digit _ _ hm)
end Go.Proofs.YtfjdhjbfingofaaGreatDoor

/-
  What is proved: lists of strings in memory: marks, comparison. Conditions: lengths as named in each.
-/
namespace Go.Proofs.YtfjdhjbfingofaaGreatDoor
open Go.RowKit
set_option linter.unusedVariables false

def encS (x : ByteArray) : List Value := [.string x]
theorem flatS_push (xs : List ByteArray) (x : ByteArray) : flat encS xs ++ [.string x] = flat encS (xs ++ [x]) := by rw [flat_append]; rfl
theorem own_pushS {w : World} {base : Nat} {t : TypeId} {v : Value} {xs ys : List ByteArray} {x : ByteArray} (h : w.ownsRow base t 1 v (xs.length + 1) (flat encS xs ++ [.string x])) (hy : ys = xs ++ [x]) : w.ownsRow base t 1 v ys.length (flat encS ys) := by
  subst hy
  rw [← flatS_push, List.length_append]
  exact h
theorem info_Str : (Tryz.prog.info? 9).map (fun i => (i.zero, i.size, i.bytes)) = some (some (.string ⟨#[]⟩), 1, 16) := by kernel_rfl
theorem below_push2 {a wr w1 : World} {B : Nat} {v : Value} {o : Obj} {n : Nat} {L : List Value} {t : TypeId} {k : Nat} (hb : Below B a wr) (hB : B ≤ a.heap.size) (hown : wr.ownsRow B t k v n L) (hg : (wr.alloc o).grownBy w1 v.ownBlock) : Below B a w1 :=
  (hb.alloc (Nat.le_trans hB hb.size) o).grown hg (by have := hb.size; simp; omega) (fun j hj => (hown.lt j hj).1)
theorem own_empty_here (w : World) (base k : Nat) (t : TypeId) (g : Nat) (hg : w.heap.size = g) (hb : base ≤ w.heap.size) : (w.alloc (.cells #[] t)).ownsRow base t k (.slice (some ⟨g, 0, none⟩) 0 0) 0 [] := by
  subst hg
  exact own_empty w base k t hb
/-- The marked elements, from k0 on. -/
def marksStr (k0 : Int) (n : Nat) : List ByteArray := (List.range n).map fun i : Nat => markT (k0 + (i : Int))
theorem marksStr_at (k0 : Int) (n i : Nat) (h : i < n) : (marksStr k0 n)[i]? = some (markT (k0 + (i : Int))) := by
  unfold marksStr
  rw [List.getElem?_map, List.getElem?_range h]
  rfl
theorem marksStr_length (k0 : Int) (n : Nat) : (marksStr k0 n).length = n := by simp [marksStr]
end Go.Proofs.YtfjdhjbfingofaaGreatDoor

/-
  What is proved: the decimal text of a number, of the program and of the reference. Conditions: a number of 64 bits; the library's own table holds what its initialiser lays.
-/
namespace Go.Proofs.YtfjdhjbfingofaaGreatDoor
open Go.RowKit
set_option linter.unusedVariables false

theorem own_one (w : World) (base : Nat) (t : TypeId) (v : Value) (hb : base ≤ w.heap.size) : (w.alloc (.cells #[v] t)).ownsRow base t 1 (.slice (some ⟨w.heap.size, 0, none⟩) 1 1) 1 [v] :=
  ⟨rfl, .inr ⟨w.heap.size, 1, #[v], rfl, hb, (show (w.heap.push (.cells #[v] t))[w.heap.size]? = _ from Array.getElem?_push_size), Nat.le_refl _, by unfold maxLen; omega, rfl, rfl⟩⟩
theorem info_U8 : (Tryz.prog.info? 5).map (fun i => (i.zero, i.size, i.bytes)) = some (some (.int .u8 0), 1, 1) := by kernel_rfl
theorem own_slice {w : World} {base n : Nat} {t : TypeId} {v : Value} {L : List Value} {k : Nat} (h : w.ownsRow base t k v n L) (hn : 0 < n) : ∃ g cap, v = .slice (some ⟨g, 0, none⟩) n cap ∧ base ≤ g ∧ g < w.heap.size := by
  rcases h.2 with ⟨_, h0⟩ | ⟨g, cap, cur, rfl, hb, hg, _⟩
  · omega
  · exact ⟨g, cap, rfl, hb, (Array.getElem?_eq_some_iff.1 hg).1⟩
theorem dig_cell (m : Nat) : (Value.int .u8 (48 + (m : Int) % 10)) = .int .u8 ((UInt8.ofNat (48 + m % 10)).toNat : Int) := by
  rw [dig_toNat _ (Nat.mod_lt _ (by decide))]
  congr 1
theorem dec_b0 : decB ((0 : Nat) : Int) = ⟨#[48]⟩ := by
  unfold decB
  rw [itoa_pos (by omega), show ((0 : Nat) : Int).toNat = 0 from rfl, Lib.decDigits_one (by decide)]
  rfl
theorem bytes_step {w : World} {base : Nat} {t : TypeId} {v : Value} {L M : List UInt8} {m : Nat} {x : Int} (hx : x = 48 + (m : Int) % 10) (h : w.ownsRow base t 1 v (1 + L.length) ([Value.int .u8 x] ++ Lib.byteCells L)) (hM : M = UInt8.ofNat (48 + m % 10) :: L) : w.ownsRow base t 1 v M.length (Lib.byteCells M) := by
  subst hM hx
  rw [dig_cell] at h
  rw [List.length_cons, Nat.add_comm]
  exact h
theorem str_of (w : World) (base : Nat) (g cap : Nat) (L : List UInt8) (h : w.ownsRow base 5 1 (.slice (some ⟨g, 0, none⟩) L.length cap) L.length (Lib.byteCells L)) :
    (convert 22 9 (.slice (some ⟨g, 0, none⟩) L.length cap)).run Tryz.prog w = .ok (.string (ba L)) w :=
  run_convert_bytes_back w 22 9 5 ⟨g, 0, none⟩ cap L Tryz.underlying22 Tryz.underlying5 Tryz.underlying9 (fun j hj => h.cells (g := g) rfl j _ (by unfold Lib.byteCells; rw [List.getElem?_map, List.getElem?_eq_getElem hj]; rfl))
theorem dec_next {m u : Nat} {L : List UInt8} (h : m ≠ 0) (hd : decD m ++ L = decD u) : decD (m / 10) ++ (UInt8.ofNat (48 + m % 10) :: L) = decD u := by
  rw [← hd, dec_step m h, List.append_assoc]
  rfl
theorem dec_last {u : Nat} {L : List UInt8} (hd : decD 0 ++ L = decD u) (hu : u ≠ 0) : L = Lib.decDigits u := by
  unfold decD at hd
  rw [if_pos rfl, if_neg hu, List.nil_append] at hd
  exact hd
theorem dec_zero {L : List UInt8} (hd : decD 0 ++ L = decD 0) : L = [] := by
  unfold decD at hd
  rw [if_pos rfl, List.nil_append] at hd
  exact hd
set_option maxRecDepth 100000 in
set_option maxHeartbeats 2000000 in
theorem spec_dec_pos (n : Int) (w : World) (h0 : 0 ≤ n) (h1 : n ≤ 9223372036854775807) :
    Calls Tryz.prog 79 #[.int .i64 n] w fun e w' => e = .returned (.string (decB n)) ∧ Below w.heap.size w w' := by
  obtain ⟨i0, hi, hz0, hz1, hz2⟩ := info_parts info_U8
  have HI := hide hi
  have HZ0 := hide hz0
  have HZ1 := hide hz1
  have HZ2 := hide hz2
  clear hi hz0 hz1 hz2
  obtain ⟨u, rfl⟩ : ∃ u : Nat, n = (u : Int) := ⟨n.toNat, by omega⟩
  go_enter Tryz.func79, Tryz.ntmps79
  go_wp2
  go_loopw [3, 4] (fun v k wr => ∃ (m f g cap : Nat) (L : List UInt8), v = .slice (some ⟨g, 0, none⟩) L.length cap ∧ k = .int .i64 (m : Int) ∧ m ≤ u ∧ m < 10 ^ f ∧ f + L.length ≤ 19 ∧ Hid (decD m ++ L = decD u) ∧ Hid (wr.ownsRow w.heap.size 5 1 (.slice (some ⟨g, 0, none⟩) L.length cap) L.length (Lib.byteCells L)) ∧ Hid (Below w.heap.size w wr)) (fun _ k _ => (intOf k).toNat)
  case atStart => exact ⟨u, 19, w.heap.size, 0, [], rfl, rfl, Nat.le_refl _, by omega, by simp, hide (by simp), hide (own_empty w _ _ _ (Nat.le_refl _)), hide ((Below.refl _ _).alloc (Nat.le_refl _) _)⟩
  case round =>
    obtain ⟨m, f, g, cap, L, rfl, rfl, hmu, hm, hf, HD, HO, HB⟩ := hrel
    have hz := HB.out.size
    by_cases hlt : m = 0
    · subst hlt
      have hL := hide (str_of wr _ g cap L HO.out)
      by_cases hu : u = 0
      · subst hu
        obtain rfl := dec_zero HD.out
        go_wp2
        go_ret
        exact ⟨by rw [dec_b0]; rfl, HB.out⟩
      · have hl := dec_last HD.out hu
        have hp : 0 < L.length := by rw [hl]; exact List.length_pos_iff.2 (dec_ne u)
        have HL := hide hl
        have hne : ((L.length : Int) == 0) = false := by rw [beq_eq_false_iff_ne]; omega
        have hcv := hL.out
        clear hl
        go_wp2
        go_ret
        refine ⟨?_, HB.out⟩
        rw [HL.out]
        unfold decB
        rw [itoa_pos (by omega)]
        rfl
    · obtain ⟨q, rfl⟩ : ∃ q, f = q + 1 := by
        rcases f with _ | q
        · simp at hm; omega
        · exact ⟨q, rfl⟩
      have HS := hide (dec_next hlt HD.out)
      have hm2 : m / 10 < 10 ^ q := Nat.div_lt_of_lt_mul (by rw [Nat.pow_succ] at hm; omega)
      have hm3 : (10 : Nat) ^ q ≤ 10 ^ 18 := Nat.pow_le_pow_right (by omega) (by omega)
      have hmm : (m : Int) ≤ 9223372036854775807 := by omega
      have hne : ((m : Int) != 0) = true := by simp; omega
      have hw := Go.IntWalk.i64_in ((m : Int) / 10) ⟨by omega, by omega⟩
      have H1 := hide (own_one wr w.heap.size 5 (.int .u8 (48 + (m : Int) % 10)) hz)
      have hlt' := hlt
      clear hm hlt
      go_wp2_with (at_builtin; refine wpList_append_own _ rfl _ _ 22 rfl w.heap.size 5 i0 (.int .u8 0) 1 1 Tryz.underlying22 HI.out HZ0.out HZ1.out HZ2.out rfl (by decide) _ _ _ rfl H1.out ⟨g, 0, none⟩ L.length cap (Lib.byteCells L) rfl (by rw [Lib.byteCells_length, Nat.mul_one]) ((HO.out.alloc _).cells (g := g) rfl) (Lib.byteCells_one L) (by unfold maxLen; omega) (by omega) (by simp; omega) ?_; intro v' w2 hown' hgrow hnil)
      have HB' := hide ((HB.out.alloc HB.out.size _).grown hgrow (by simp; omega) (fun j hj => (H1.out.lt j hj).1))
      have ho2 := bytes_step (m := m) rfl (M := UInt8.ofNat (48 + m % 10) :: L) hown' rfl
      obtain ⟨g2, cap2, rfl, hg1, hg2⟩ := own_slice ho2 (by rw [List.length_cons]; omega)
      have HO2 := hide ho2
      clear hown' hgrow hnil ho2
      go_roundw
      case rel => exact ⟨m / 10, q, g2, cap2, UInt8.ofNat (48 + m % 10) :: L, rfl, by go_num, by omega, hm2, by rw [List.length_cons]; omega, HS, HO2, HB'⟩
      case measure => simp [intOf]; omega
set_option maxRecDepth 100000 in
set_option maxHeartbeats 2000000 in
theorem spec_dec_neg (n : Int) (w : World) (h0 : n < 0) (h1 : -9223372036854775808 ≤ n) :
    Calls Tryz.prog 79 #[.int .i64 n] w fun e w' => e = .returned (.string (decB n)) ∧ Below w.heap.size w w' := by
  obtain ⟨i0, hi, hz0, hz1, hz2⟩ := info_parts info_U8
  have HI := hide hi
  have HZ0 := hide hz0
  have HZ1 := hide hz1
  have HZ2 := hide hz2
  clear hi hz0 hz1 hz2
  obtain ⟨u, rfl⟩ : ∃ u : Nat, n = -(u : Int) := ⟨n.natAbs, by omega⟩
  have hup : 0 < u := by omega
  go_enter Tryz.func79, Tryz.ntmps79
  go_wp2
  go_loopw [3, 4] (fun v k wr => ∃ (m f g cap : Nat) (L : List UInt8), v = .slice (some ⟨g, 0, none⟩) L.length cap ∧ k = .int .i64 (-(m : Int)) ∧ m ≤ u ∧ m < 10 ^ f ∧ f + L.length ≤ 19 ∧ Hid (decD m ++ L = decD u) ∧ Hid (wr.ownsRow w.heap.size 5 1 (.slice (some ⟨g, 0, none⟩) L.length cap) L.length (Lib.byteCells L)) ∧ Hid (Below w.heap.size w wr)) (fun _ k _ => (intOf k).natAbs)
  case atStart => exact ⟨u, 19, w.heap.size, 0, [], rfl, rfl, Nat.le_refl _, by omega, by simp, hide (by simp), hide (own_empty w _ _ _ (Nat.le_refl _)), hide ((Below.refl _ _).alloc (Nat.le_refl _) _)⟩
  case round =>
    obtain ⟨m, f, g, cap, L, rfl, rfl, hmu, hm, hf, HD, HO, HB⟩ := hrel
    have hz := HB.out.size
    by_cases hlt : m = 0
    · subst hlt
      have hL := hide (str_of wr _ g cap L HO.out)
      have hl := dec_last HD.out (by omega)
      have hp : 0 < L.length := by rw [hl]; exact List.length_pos_iff.2 (dec_ne u)
      have HL := hide hl
      have hne : ((L.length : Int) == 0) = false := by rw [beq_eq_false_iff_ne]; omega
      have hcv := hL.out
      have hbs : (ba L).size ≤ 19 := by rw [show (ba L).size = L.length from by simp [ba, ByteArray.size]]; omega
      clear hl
      go_wp2
      go_ret
      refine ⟨?_, HB.out⟩
      rw [HL.out]
      unfold decB
      rw [itoa_min (by omega), show (-(u : Int)).natAbs = u from by omega]
      rfl
    · obtain ⟨q, rfl⟩ : ∃ q, f = q + 1 := by
        rcases f with _ | q
        · simp at hm; omega
        · exact ⟨q, rfl⟩
      have HS := hide (dec_next hlt HD.out)
      have hm2 : m / 10 < 10 ^ q := Nat.div_lt_of_lt_mul (by rw [Nat.pow_succ] at hm; omega)
      have hm3 : (10 : Nat) ^ q ≤ 10 ^ 18 := Nat.pow_le_pow_right (by omega) (by omega)
      have hne : ((-(m : Int)) != 0) = true := by simp; omega
      have hq : (-(m : Int)).tdiv 10 = -((m : Int) / 10) := by rw [Int.neg_tdiv]; rfl
      have hmm : (m : Int) ≤ 9223372036854775808 := by omega
      by_cases hd : 0 < (m : Int) % 10
      · have hr : (-(m : Int)).tmod 10 = -((m : Int) % 10) := by rw [Int.neg_tmod]; rfl
        have H1 := hide (own_one wr w.heap.size 5 (.int .u8 (48 + (m : Int) % 10)) hz)
        have hlt' := hlt
        clear hm hlt
        go_wp2_with (at_builtin; refine wpList_append_own _ rfl _ _ 22 rfl w.heap.size 5 i0 (.int .u8 0) 1 1 Tryz.underlying22 HI.out HZ0.out HZ1.out HZ2.out rfl (by decide) _ _ _ rfl H1.out ⟨g, 0, none⟩ L.length cap (Lib.byteCells L) rfl (by rw [Lib.byteCells_length, Nat.mul_one]) ((HO.out.alloc _).cells (g := g) rfl) (Lib.byteCells_one L) (by unfold maxLen; omega) (by omega) (by simp; omega) ?_; intro v' w2 hown' hgrow hnil)
        have HB' := hide ((HB.out.alloc HB.out.size _).grown hgrow (by simp; omega) (fun j hj => (H1.out.lt j hj).1))
        have ho2 := bytes_step (m := m) rfl (M := UInt8.ofNat (48 + m % 10) :: L) hown' rfl
        obtain ⟨g2, cap2, rfl, hg1, hg2⟩ := own_slice ho2 (by rw [List.length_cons]; omega)
        have HO2 := hide ho2
        clear hown' hgrow hnil ho2
        go_roundw
        case rel => exact ⟨m / 10, q, g2, cap2, UInt8.ofNat (48 + m % 10) :: L, rfl, by go_num, by omega, hm2, by rw [List.length_cons]; omega, HS, HO2, HB'⟩
        case measure => simp [intOf]; omega
      · have hr : (-(m : Int)).tmod 10 = 0 := by rw [Int.neg_tmod, show (m : Int).tmod 10 = (m : Int) % 10 from rfl]; omega
        have H1 := hide (own_one wr w.heap.size 5 (.int .u8 48) hz)
        have hlt' := hlt
        clear hm hlt
        go_wp2_with (at_builtin; refine wpList_append_own _ rfl _ _ 22 rfl w.heap.size 5 i0 (.int .u8 0) 1 1 Tryz.underlying22 HI.out HZ0.out HZ1.out HZ2.out rfl (by decide) _ _ _ rfl H1.out ⟨g, 0, none⟩ L.length cap (Lib.byteCells L) rfl (by rw [Lib.byteCells_length, Nat.mul_one]) ((HO.out.alloc _).cells (g := g) rfl) (Lib.byteCells_one L) (by unfold maxLen; omega) (by omega) (by simp; omega) ?_; intro v' w2 hown' hgrow hnil)
        have HB' := hide ((HB.out.alloc HB.out.size _).grown hgrow (by simp; omega) (fun j hj => (H1.out.lt j hj).1))
        have ho2 := bytes_step (m := m) (x := 48) (by omega) (M := UInt8.ofNat (48 + m % 10) :: L) hown' rfl
        obtain ⟨g2, cap2, rfl, hg1, hg2⟩ := own_slice ho2 (by rw [List.length_cons]; omega)
        have HO2 := hide ho2
        clear hown' hgrow hnil ho2
        go_roundw
        case rel => exact ⟨m / 10, q, g2, cap2, UInt8.ofNat (48 + m % 10) :: L, rfl, by go_num, by omega, hm2, by rw [List.length_cons]; omega, HS, HO2, HB'⟩
        case measure => simp [intOf]; omega
theorem spec_dec (n : Int) (w : World) (h : I64 n) : Calls Tryz.prog 79 #[.int .i64 n] w fun e w' => e = .returned (.string (decB n)) ∧ Below w.heap.size w w' := by
  by_cases h0 : 0 ≤ n
  · exact spec_dec_pos n w h0 h.2
  · exact spec_dec_neg n w (by omega) h.1
end Go.Proofs.YtfjdhjbfingofaaGreatDoor

/-
  What is proved: the reference's own cut of a text at a byte. Condition: a length that fits.
-/
namespace Go.Proofs.YtfjdhjbfingofaaGreatDoor
open Go.RowKit Go.PlainAid
set_option linter.unusedVariables false

theorem bt_list {s : ByteArray} {k : Nat} (h : k < s.size) : bt s k = ((s.data.toList[k]'(by simpa using h)).toNat : Int) := by
  unfold bt
  rw [dif_pos h]
  rfl
theorem bt_byte {s : ByteArray} {k : Nat} {c : UInt8} (h : k < s.size) : bt s k = (c.toNat : Int) ↔ s.data.toList[k]'(by simpa using h) = c := by
  rw [bt_list h]
  constructor
  · intro e
    apply UInt8.toNat_inj.1
    omega
  · intro e
    rw [e]
theorem drop_cut {l : List UInt8} {f k : Nat} (hf : f ≤ k) (hk : k < l.length) : l.drop f = (l.take k).drop f ++ l[k] :: l.drop (k + 1) := by
  have h1 : l = l.take k ++ l[k] :: l.drop (k + 1) := by simp
  have h2 : l.drop f = (l.take k ++ l[k] :: l.drop (k + 1)).drop f := by rw [← h1]
  rw [h2, List.drop_append_of_le_length (by rw [List.length_take]; omega)]
theorem mem_part {l : List UInt8} {f k : Nat} {c : UInt8} (h : ∀ j (hj : j < l.length), f ≤ j → j < k → l[j] ≠ c) : c ∉ (l.take k).drop f := by
  intro hm
  obtain ⟨i, hi, e⟩ := List.getElem_of_mem hm
  rw [List.length_drop, List.length_take] at hi
  rw [List.getElem_drop, List.getElem_take] at e
  exact h (f + i) (by omega) (by omega) (by omega) e
theorem part_data (s : ByteArray) (f k : Nat) : (s.extract f k).data.toList = (s.data.toList.take k).drop f := by
  rw [Lib.extract_data, List.drop_take]
theorem split_more {c : UInt8} {s : ByteArray} {L : List ByteArray} {f k : Nat} (hs : spl c s.data.toList = L.map (·.data.toList) ++ spl c (s.data.toList.drop f)) (hn : ∀ j, f ≤ j → j < k → bt s j ≠ (c.toNat : Int)) (hf : f ≤ k) (hk : k < s.size) (hc : bt s k = (c.toNat : Int)) :
    spl c s.data.toList = (L ++ [s.extract f k]).map (·.data.toList) ++ spl c (s.data.toList.drop (k + 1)) := by
  have hk' : k < s.data.toList.length := by simpa using hk
  have hb := (bt_byte hk).1 hc
  rw [hs, drop_cut hf hk', hb, spl_cut (mem_part (fun j hj h1 h2 e => hn j h1 h2 ((bt_byte (by simpa using hj)).2 e)))]
  rw [List.map_append, List.append_assoc]
  simp [List.drop_take]
theorem split_end {c : UInt8} {s : ByteArray} {L : List ByteArray} {f : Nat} (hs : spl c s.data.toList = L.map (·.data.toList) ++ spl c (s.data.toList.drop f)) (hn : ∀ j, f ≤ j → j < s.size → bt s j ≠ (c.toNat : Int)) (hf : f ≤ s.size) :
    splB c s = L ++ [s.extract f s.size] := by
  have hm : c ∉ s.data.toList.drop f := by
    have h := mem_part (l := s.data.toList) (f := f) (k := s.size) (c := c) (fun j hj h1 h2 e => hn j h1 h2 ((bt_byte (by simpa using hj)).2 e))
    rwa [List.take_of_length_le (by simp)] at h
  rw [spl_none hm] at hs
  unfold splB
  rw [hs]
  symm
  apply map_ba
  rw [List.map_append]
  congr 1
  simp [List.take_of_length_le]
theorem splB_length_le (c : UInt8) (s : ByteArray) : (splB c s).length ≤ s.size + 1 := by
  unfold splB
  rw [List.length_map]
  have := spl_count c s.data.toList
  simpa using this
set_option maxRecDepth 100000 in
set_option maxHeartbeats 2000000 in
theorem spec_l01Split (s : ByteArray) (c : UInt8) (ci : Int) (w : World) (hci : ci = (c.toNat : Int)) (hs : s.size ≤ 16777216) :
    Calls Tryz.prog 55 #[.string s, .int .u8 ci] w fun e w' => ∃ A' c', e = .returned (.slice A' (splB c s).length c') ∧ Own 9 1 encS w' w.heap.size w'.heap.size A' (splB c s).length c' (splB c s) ∧ Below w.heap.size w w' := by
  obtain ⟨i0, hi, hz0, hz1, hz2⟩ := info_parts info_Str
  have HI := hide hi
  have HZ0 := hide hz0
  have HZ1 := hide hz1
  have HZ2 := hide hz2
  have HC := hide hci
  clear hi hz0 hz1 hz2 hci
  go_enter Tryz.func55, Tryz.ntmps55
  go_wp2
  go_loopw [5, 6, 7] (fun v fr i wr => ∃ (k f : Nat) (L : List ByteArray), k ≤ s.size ∧ f ≤ k ∧ L.length ≤ k ∧ i = .int .i64 k ∧ fr = .int .i64 f ∧ Hid (spl c s.data.toList = L.map (·.data.toList) ++ spl c (s.data.toList.drop f)) ∧ Hid (∀ j, f ≤ j → j < k → bt s j ≠ (c.toNat : Int)) ∧ Hid (wr.ownsRow w.heap.size 9 1 v L.length (flat encS L)) ∧ Hid (Below w.heap.size w wr)) (fun _ _ i _ => s.size - (intOf i).toNat)
  case atStart => exact ⟨0, 0, [], by omega, by omega, by simp, rfl, rfl, hide rfl, hide (fun j h1 h2 => absurd h2 (by omega)), hide (own_empty w _ _ _ (Nat.le_refl _)), hide ((Below.refl _ _).alloc (Nat.le_refl _) _)⟩
  case round =>
    obtain ⟨k, f, L, hk, hf, hL, rfl, rfl, HS, HN, HO, HB⟩ := hrel
    have hz := HB.out.size
    by_cases hlt : k < s.size
    · have hb := get_bt s k
      have hki : (k : Int) < (s.size : Int) := by omega
      by_cases he : bt s k = ci
      · have hd : (bt s k == ci) = true := by simp [he]
        have HM := hide (split_more HS.out HN.out hf hlt (by rw [he]; exact HC.out))
        clear he
        go_wp2_with (at_builtin; refine wpList_append_own _ rfl _ _ 60 rfl w.heap.size 9 i0 (.string ⟨#[]⟩) 1 16 Tryz.underlying60 HI.out HZ0.out HZ1.out HZ2.out rfl (by decide) _ _ _ rfl (HO.out.alloc _) ⟨wr.heap.size, 0, none⟩ 1 1 [.string (s.extract f k)] rfl rfl (cell_one_new _ _ _) (fun x hx => by simp at hx; subst hx; rfl) (by unfold maxLen; omega) (by omega) (by simp; omega) ?_; intro v' w2 hown' hgrow hnil)
        have HO' := hide (own_pushS hown' (ys := L ++ [s.extract f k]) rfl)
        have HB' := hide (below_push2 HB.out (Nat.le_refl _) HO.out hgrow)
        clear hown' hgrow hnil
        go_roundw
        case rel => exact ⟨k + 1, k + 1, L ++ [s.extract f k], by omega, by omega, by rw [List.length_append]; simp; omega, by go_num, by go_num, HM, hide (fun j h1 h2 => absurd h2 (by omega)), HO', HB'⟩
        case measure => simp [intOf]; omega
      · have hd : (bt s k == ci) = false := by simp [he]
        have HM := hide (show ∀ j, f ≤ j → j < k + 1 → bt s j ≠ (c.toNat : Int) from fun j h1 h2 => by
          rcases Nat.lt_or_ge j k with h3 | h3
          · exact HN.out j h1 h3
          · obtain rfl : j = k := by omega
            rw [← HC.out]
            exact he)
        clear he
        go_wp2
        go_roundw
        case rel => exact ⟨k + 1, f, L, by omega, by omega, by omega, by go_num, rfl, HS, HM, HO, HB⟩
        case measure => simp [intOf]; omega
    · obtain rfl : k = s.size := by omega
      have HE := hide (split_end HS.out HN.out hf)
      go_wp2_with (at_builtin; refine wpList_append_own _ rfl _ _ 60 rfl w.heap.size 9 i0 (.string ⟨#[]⟩) 1 16 Tryz.underlying60 HI.out HZ0.out HZ1.out HZ2.out rfl (by decide) _ _ _ rfl (HO.out.alloc _) ⟨wr.heap.size, 0, none⟩ 1 1 [.string (s.extract f s.size)] rfl rfl (cell_one_new _ _ _) (fun x hx => by simp at hx; subst hx; rfl) (by unfold maxLen; omega) (by omega) (by simp; omega) ?_; intro v' w2 hown' hgrow hnil)
      have HO' := hide (own_pushS hown' (ys := splB c s) HE.out)
      have HB' := hide (below_push2 HB.out (Nat.le_refl _) HO.out hgrow)
      clear hown' hgrow hnil
      obtain ⟨A', c', rfl, ho⟩ := Own.of_row rfl HO'.out HB'.out.size
      have HO2 := hide ho
      clear ho
      go_wp2
      go_ret
      exact ⟨A', c', rfl, HO2.out, HB'.out⟩
end Go.Proofs.YtfjdhjbfingofaaGreatDoor
