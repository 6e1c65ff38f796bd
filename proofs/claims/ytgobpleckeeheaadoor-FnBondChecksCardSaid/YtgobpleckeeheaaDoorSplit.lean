/-
  What is proved: plain facts on a text cut at a byte. No program in sight. No conditions.
-/
import Derived.Lib.Split
import Derived.Lib.Index
namespace Go.Proofs.YtgobpleckeeheaaDoor

set_option linter.unusedVariables false

/-- A text cut at each instance of a byte. -/
def spl (c : UInt8) : List UInt8 → List (List UInt8)
  | [] => [[]]
  | b :: l => if b = c then [] :: spl c l else ((spl c l).headD [] |> (b :: ·)) :: (spl c l).tail
theorem spl_ne (c : UInt8) (l : List UInt8) : spl c l ≠ [] := by
  cases l with
  | nil => simp [spl]
  | cons b l =>
    unfold spl
    split <;> simp
theorem spl_hit (c : UInt8) (l : List UInt8) : spl c (c :: l) = [] :: spl c l := by
  rw [spl, if_pos rfl]
theorem spl_pass {c b : UInt8} {l w : List UInt8} {ws : List (List UInt8)} (hb : b ≠ c) (h : spl c l = w :: ws) : spl c (b :: l) = (b :: w) :: ws := by
  rw [spl, if_neg hb, h]
  rfl
theorem spl_cut {c : UInt8} : ∀ {a b : List UInt8}, c ∉ a → spl c (a ++ c :: b) = a :: spl c b
  | [], b, _ => spl_hit c b
  | x :: a, b, h => by
    have hx : x ≠ c := fun e => h (by rw [e]; exact List.mem_cons_self ..)
    have ih := spl_cut (a := a) (b := b) (fun hm => h (List.mem_cons_of_mem _ hm))
    exact spl_pass hx ih
theorem spl_none {c : UInt8} : ∀ {a : List UInt8}, c ∉ a → spl c a = [a]
  | [], _ => rfl
  | x :: a, h => by
    have hx : x ≠ c := fun e => h (by rw [e]; exact List.mem_cons_self ..)
    have ih := spl_none (a := a) (fun hm => h (List.mem_cons_of_mem _ hm))
    exact spl_pass hx ih
theorem spl_cases (c : UInt8) : ∀ l : List UInt8, (c ∉ l ∧ Lib.index l [c] = -1) ∨ ∃ a b, l = a ++ c :: b ∧ c ∉ a ∧ Lib.index l [c] = (a.length : Int)
  | [] => .inl ⟨by simp, rfl⟩
  | x :: l => by
    by_cases hx : x = c
    · subst hx
      exact .inr ⟨[], l, rfl, by simp, by simp [Lib.index, List.isPrefixOf]⟩
    · have hp : ([c].isPrefixOf (x :: l)) = false := by
        simp [List.isPrefixOf]
        exact fun e => hx e.symm
      rcases spl_cases c l with ⟨h1, h2⟩ | ⟨a, b, rfl, h1, h2⟩
      · refine .inl ⟨by simp [h1]; exact fun e => hx e.symm, ?_⟩
        unfold Lib.index
        rw [hp, h2]
        rfl
      · refine .inr ⟨x :: a, b, rfl, by simp [h1]; exact fun e => hx e.symm, ?_⟩
        unfold Lib.index
        rw [hp, h2]
        rw [if_neg (by simp), if_neg (by simp <;> omega)]
        simp
theorem spl_mem {c : UInt8} : ∀ {l w : List UInt8}, w ∈ spl c l → c ∉ w := by
  intro l
  induction h : l.length using Nat.strongRecOn generalizing l with
  | ind n ih =>
    intro w hw
    rcases spl_cases c l with ⟨h1, _⟩ | ⟨a, b, rfl, h1, _⟩
    · rw [spl_none h1] at hw
      obtain rfl := List.mem_singleton.1 hw
      exact h1
    · rw [spl_cut h1] at hw
      rcases List.mem_cons.1 hw with rfl | hw
      · exact h1
      · exact ih b.length (by rw [← h]; simp; omega) rfl hw
theorem inter_cons {c : UInt8} {w v : List UInt8} {ws : List (List UInt8)} : [c].intercalate (w :: v :: ws) = w ++ c :: [c].intercalate (v :: ws) := by
  simp [List.intercalate, List.intersperse]
theorem inter_one {c : UInt8} {w : List UInt8} : [c].intercalate [w] = w := by
  simp [List.intercalate, List.intersperse]
theorem spl_join (c : UInt8) : ∀ l : List UInt8, [c].intercalate (spl c l) = l := by
  intro l
  induction h : l.length using Nat.strongRecOn generalizing l with
  | ind n ih =>
    rcases spl_cases c l with ⟨h1, _⟩ | ⟨a, b, rfl, h1, _⟩
    · rw [spl_none h1, inter_one]
    · rw [spl_cut h1]
      have hb := ih b.length (by rw [← h]; simp; omega) b rfl
      cases hs : spl c b with
      | nil => exact absurd hs (spl_ne c b)
      | cons v ws =>
        rw [inter_cons, ← hs, hb]
theorem spl_of_join {c : UInt8} : ∀ {ws : List (List UInt8)}, ws ≠ [] → (∀ w ∈ ws, c ∉ w) → spl c ([c].intercalate ws) = ws
  | [], h, _ => absurd rfl h
  | [w], _, h => by
    rw [inter_one]
    exact spl_none (h w (List.mem_cons_self ..))
  | w :: v :: ws, _, h => by
    rw [inter_cons, spl_cut (h w (List.mem_cons_self ..)), spl_of_join (List.cons_ne_nil _ _) (fun x hx => h x (List.mem_cons_of_mem _ hx))]
theorem spl_length (c : UInt8) (l : List UInt8) : (spl c l).length = l.count c + 1 := by
  induction h : l.length using Nat.strongRecOn generalizing l with
  | ind n ih =>
    rcases spl_cases c l with ⟨h1, _⟩ | ⟨a, b, rfl, h1, _⟩
    · rw [spl_none h1, List.count_eq_zero_of_not_mem h1]
      rfl
    · rw [spl_cut h1, List.length_cons, ih b.length (by rw [← h]; simp; omega) b rfl, List.count_append, List.count_eq_zero_of_not_mem h1, List.count_cons_self]
      omega
theorem spl_count (c : UInt8) (l : List UInt8) : (spl c l).length ≤ l.length + 1 := by
  rw [spl_length]
  have := List.count_le_length (a := c) (l := l)
  omega
/-- The library's cut at k instances at most. -/
theorem splitK_all {c : UInt8} : ∀ {k : Nat} {l : List UInt8}, (spl c l).length ≤ k + 1 → Lib.splitK [c] 0 k l = spl c l
  | 0, l, h => by
    rcases spl_cases c l with ⟨h1, _⟩ | ⟨a, b, rfl, h1, _⟩
    · rw [spl_none h1]; rfl
    · rw [spl_cut h1] at h
      have := List.length_pos_iff.2 (spl_ne c b)
      rw [List.length_cons] at h
      omega
  | k + 1, l, h => by
    rcases spl_cases c l with ⟨h1, h2⟩ | ⟨a, b, rfl, h1, h2⟩
    · rw [spl_none h1, Lib.splitK, h2]; rfl
    · rw [spl_cut h1] at h ⊢
      rw [Lib.splitK, h2, if_neg (by simp <;> omega)]
      have e1 : ((a.length : Int).toNat + 0) = a.length := by omega
      have e2 : ((a.length : Int).toNat + [c].length) = a.length + 1 := by simp
      rw [e1, e2, List.take_left, ← List.drop_drop, List.drop_left, List.drop_succ_cons, List.drop_zero]
      rw [splitK_all (by simp at h; omega)]
theorem splitK_few {c : UInt8} : ∀ {k : Nat} {l : List UInt8}, k + 1 < (spl c l).length → (Lib.splitK [c] 0 k l).length = k + 1
  | 0, l, h => rfl
  | k + 1, l, h => by
    rcases spl_cases c l with ⟨h1, h2⟩ | ⟨a, b, rfl, h1, h2⟩
    · rw [spl_none h1] at h
      simp at h
    · rw [spl_cut h1] at h
      rw [Lib.splitK, h2, if_neg (by simp <;> omega)]
      have e1 : ((a.length : Int).toNat + 0) = a.length := by omega
      have e2 : ((a.length : Int).toNat + [c].length) = a.length + 1 := by simp
      rw [e1, e2, List.take_left, ← List.drop_drop, List.drop_left, List.drop_succ_cons, List.drop_zero, List.length_cons, splitK_few (by simp at h; omega)]
theorem splitK_le {c : UInt8} {k : Nat} {l : List UInt8} : (Lib.splitK [c] 0 k l).length ≤ k + 1 := by
  rcases Nat.lt_or_ge (k + 1) (spl c l).length with h | h
  · rw [splitK_few h]; exact Nat.le_refl _
  · rw [splitK_all h]; exact h
theorem cut_none {c : UInt8} {l : List UInt8} (h : c ∉ l) : Lib.cut l [c] = (l, [], false) := by
  rcases spl_cases c l with ⟨h1, h2⟩ | ⟨a, b, rfl, h1, h2⟩
  · unfold Lib.cut
    rw [h2, if_neg (by omega)]
  · simp at h
theorem cut_hit {c : UInt8} {a b : List UInt8} (h : c ∉ a) : Lib.cut (a ++ c :: b) [c] = (a, b, true) := by
  rcases spl_cases c (a ++ c :: b) with ⟨h1, h2⟩ | ⟨a', b', e, h1, h2⟩
  · simp at h1
  · have e3 : spl c (a ++ c :: b) = spl c (a' ++ c :: b') := by rw [e]
    rw [spl_cut h, spl_cut h1] at e3
    injection e3 with e4 e5
    subst e4
    have e6 : b = b' := by
      have := List.append_cancel_left e
      injection this
    subst e6
    unfold Lib.cut
    rw [h2, if_pos (by omega)]
    have e1 : (a.length : Int).toNat = a.length := by omega
    have e2 : ((a.length : Int).toNat + [c].length) = a.length + 1 := by simp
    rw [e2, e1, List.take_left, ← List.drop_drop, List.drop_left, List.drop_succ_cons, List.drop_zero]
/-- Texts of bytes as values. -/
def ba (l : List UInt8) : ByteArray := ⟨l.toArray⟩
theorem ba_data (l : List UInt8) : (ba l).data.toList = l := by simp [ba]
theorem ba_of (s : ByteArray) : ba s.data.toList = s := by
  apply ByteArray.ext
  simp [ba]
def splB (c : UInt8) (s : ByteArray) : List ByteArray := (spl c s.data.toList).map ba
theorem map_ba {xs : List ByteArray} {ls : List (List UInt8)} (h : xs.map (·.data.toList) = ls) : xs = ls.map ba := by
  subst h
  rw [List.map_map]
  induction xs with
  | nil => rfl
  | cons x xs ih =>
    rw [List.map_cons, ← ih]
    congr 1
    all_goals exact (ba_of x).symm
theorem splitB_all {c : UInt8} {k : Nat} {s : ByteArray} (h : (spl c s.data.toList).length ≤ k + 1) : Lib.splitB ⟨#[c]⟩ 0 k s = splB c s := by
  unfold splB
  apply map_ba
  rw [Lib.splitB_data]
  exact splitK_all h
theorem splitB_few {c : UInt8} {k : Nat} {s : ByteArray} (h : k + 1 < (spl c s.data.toList).length) : (Lib.splitB ⟨#[c]⟩ 0 k s).length = k + 1 := by
  have e : (Lib.splitB ⟨#[c]⟩ 0 k s).length = ((Lib.splitB ⟨#[c]⟩ 0 k s).map (·.data.toList)).length := by rw [List.length_map]
  rw [e, Lib.splitB_data]
  exact splitK_few h
end Go.Proofs.YtgobpleckeeheaaDoor
