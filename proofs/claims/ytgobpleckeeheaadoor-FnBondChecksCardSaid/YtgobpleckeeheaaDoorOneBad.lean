/-
  What is proved: the text of a valid bond, one of its words put in the place of another, has just one problem, at that word. No program in sight. No conditions.
-/
import Derived.Test.YtgobpleckeeheaaDoorBack
namespace Go.Proofs.YtgobpleckeeheaaDoor
open Go.RowKit Go.PlainAid
set_option linter.unusedVariables false

/-- The six wrong words, and their kinds. -/
def wrongW : List ByteArray := [⟨#[120]⟩, ⟨#[83, 43, 83, 43, 83]⟩, ⟨#[43, 83]⟩, ⟨#[]⟩, ⟨#[67, 67, 67, 67, 67, 67, 67, 43, 83]⟩, ⟨#[67]⟩]
def wrongK : List Int := [3, 3, 4, 4, 5, 3]
theorem wrong_kind {k : Nat} {v : ByteArray} {q : Int} (hv : wrongW[k]? = some v) (hq : wrongK[k]? = some q) : kindL v.data.toList = q ∧ q ≠ 0 ∧ (∀ b ∈ v.data.toList, b ≠ 32) ∧ v.size ≤ 9 := by
  match k, hv, hq with
  | 0, hv, hq => obtain rfl := Option.some.inj hv; obtain rfl := Option.some.inj hq; decide
  | 1, hv, hq => obtain rfl := Option.some.inj hv; obtain rfl := Option.some.inj hq; decide
  | 2, hv, hq => obtain rfl := Option.some.inj hv; obtain rfl := Option.some.inj hq; decide
  | 3, hv, hq => obtain rfl := Option.some.inj hv; obtain rfl := Option.some.inj hq; decide
  | 4, hv, hq => obtain rfl := Option.some.inj hv; obtain rfl := Option.some.inj hq; decide
  | 5, hv, hq => obtain rfl := Option.some.inj hv; obtain rfl := Option.some.inj hq; decide
  | k + 6, hv, _ => simp [wrongW] at hv
/-- Just one bad word: just one problem. -/
theorem badTo_one {ws : List (List UInt8)} {p : Nat} (h : ∀ i, i < ws.length → i ≠ p → badAt ws i = 0) (hp : badAt ws p ≠ 0) : ∀ k, k ≤ ws.length → badTo ws k = if p < k then [⟨(p : Int), badAt ws p⟩] else []
  | 0, _ => by rw [if_neg (by omega)]; rfl
  | k + 1, hk => by
    have ih := badTo_one h hp k (by omega)
    by_cases e : k = p
    · subst e
      rw [badTo_yes hp, ih, if_neg (by omega), if_pos (by omega)]
      rfl
    · rw [badTo_no (h k (by omega) e), ih]
      by_cases q : p < k
      · rw [if_pos q, if_pos (by omega)]
      · rw [if_neg q, if_neg (by omega)]
/-- The words, one of them wrong. -/
def oneW (s : ByteArray) (zs : List Course) (p : Nat) (v : ByteArray) : List (List UInt8) := s.data.toList :: (zs.map courseL).set p v.data.toList
/-- The text under way: the name and the first i words. -/
def oneT (s : ByteArray) (zs : List Course) (p : Nat) (v : ByteArray) (i : Nat) : ByteArray := ba (s.data.toList ++ (((zs.map courseL).set p v.data.toList).take i).flatMap fun w => 32 :: w)
theorem oneT_zero (s : ByteArray) (zs : List Course) (p : Nat) (v : ByteArray) : oneT s zs p v 0 = s := by
  unfold oneT
  simp [ba_of]
theorem oneT_words {s : ByteArray} {zs : List Course} {p : Nat} {v : ByteArray} {n : Nat} (h : bondOk s zs = true) (hn : zs.length = n) (hv : ∀ b ∈ v.data.toList, b ≠ 32) : spl 32 (oneT s zs p v n).data.toList = oneW s zs p v := by
  have e : (oneT s zs p v n).data.toList = [32].intercalate (oneW s zs p v) := by
    unfold oneT oneW
    rw [inter_flat, ba_data, List.take_of_length_le (by rw [List.length_set, List.length_map]; omega)]
  rw [e]
  refine spl_of_join (List.cons_ne_nil _ _) (fun w hw => ?_)
  rcases List.mem_cons.1 hw with rfl | hw
  · exact name_blank (bond_name h)
  · rcases List.mem_or_eq_of_mem_set hw with hw | rfl
    · obtain ⟨c, hc, rfl⟩ := List.mem_map.1 hw
      obtain ⟨i, hi, rfl⟩ := List.getElem_of_mem hc
      exact course_blank (bond_at h (List.getElem?_eq_getElem hi))
    · intro hb
      exact hv _ hb rfl
theorem one_bads {s : ByteArray} {zs : List Course} {p : Nat} {v : ByteArray} {q : Int} (h : bondOk s zs = true) (hp : p < zs.length) (hk : kindL v.data.toList = q) (hq : q ≠ 0) : badTo (oneW s zs p v) (oneW s zs p v).length = [⟨((p + 1 : Nat) : Int), q⟩] ∧ ¬ noBad (oneW s zs p v) := by
  have h0 := noBad_of h
  have hl8 := bond_len' h
  have hlen : (oneW s zs p v).length = (s.data.toList :: zs.map courseL).length := by
    unfold oneW
    rw [List.length_cons, List.length_cons, List.length_set]
  have hbad : badAt (oneW s zs p v) (p + 1) = q := by
    unfold badAt oneW
    rw [if_neg (by omega), if_neg (by omega), List.getElem?_cons_succ, List.getElem?_set_self (by rw [List.length_map]; exact hp)]
    exact hk
  have hoth : ∀ i, i < (oneW s zs p v).length → i ≠ p + 1 → badAt (oneW s zs p v) i = 0 := by
    intro i hi hne
    rw [hlen] at hi
    have := h0 i hi
    unfold badAt at this ⊢
    rw [hlen]
    have e : (oneW s zs p v)[i]? = (s.data.toList :: zs.map courseL)[i]? := by
      unfold oneW
      match i, hne with
      | 0, _ => rfl
      | i + 1, hne =>
        rw [List.getElem?_cons_succ, List.getElem?_cons_succ, List.getElem?_set_ne (by omega)]
    rw [e]
    exact this
  constructor
  · rw [badTo_one hoth (by rw [hbad]; exact hq) _ (Nat.le_refl _), if_pos (by rw [hlen, List.length_cons, List.length_map]; omega), hbad]
  · intro hn
    have := hn (p + 1) (by rw [hlen, List.length_cons, List.length_map]; omega)
    rw [hbad] at this
    exact hq this
theorem ba_append (a b : List UInt8) : ba (a ++ b) = ba a ++ ba b := by
  apply ByteArray.ext
  apply Array.toList_inj.1
  rw [ByteArray.data_append]
  simp [ba]
theorem oneT_step {s : ByteArray} {zs : List Course} {p : Nat} {v : ByteArray} {i : Nat} {w : List UInt8} (hi : ((zs.map courseL).set p v.data.toList)[i]? = some w) : oneT s zs p v (i + 1) = oneT s zs p v i ++ ba (32 :: w) := by
  unfold oneT
  rw [List.take_add_one, hi, ← ba_append]
  congr 1
  simp
/-- The round at the wrong word. -/
theorem oneT_at {s : ByteArray} {zs : List Course} {p : Nat} {v : ByteArray} (hp : p < zs.length) : oneT s zs p v (p + 1) = oneT s zs p v p ++ (⟨#[32]⟩ ++ v) := by
  rw [oneT_step (w := v.data.toList) (List.getElem?_set_self (by rw [List.length_map]; exact hp))]
  congr 1
/-- The round at another word. -/
theorem oneT_other {s : ByteArray} {zs : List Course} {p i : Nat} {v : ByteArray} {c : Course} (hc : zs[i]? = some c) (hne : i ≠ p) : oneT s zs p v (i + 1) = oneT s zs p v i ++ ba (32 :: courseL c) := by
  refine oneT_step ?_
  rw [List.getElem?_set_ne (by omega), List.getElem?_map, hc]
  rfl
/-- The text of the bond "x" of one course, from its second byte on. -/
theorem one_text {c : Course} (h : c.ok = true) : (textB ⟨#[120]⟩ [c]).data.toList = 120 :: 32 :: courseL c := by
  have hb : bondOk ⟨#[120]⟩ [c] = true := by
    unfold bondOk
    rw [show nameB ⟨#[120]⟩ = true from by decide, List.all_cons, h]
    rfl
  rw [back_text hb, steps_data]
  simp
end Go.Proofs.YtgobpleckeeheaaDoor
