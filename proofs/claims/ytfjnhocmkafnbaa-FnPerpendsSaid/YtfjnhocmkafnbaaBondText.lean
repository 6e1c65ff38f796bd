/-
  What is proved: the text of a bond, of the program and of the reference. Condition: lengths that fit.
-/
import Derived.Test.YtfjnhocmkafnbaaBondOk
namespace Go.Proofs.Ytfjnhocmkafnbaa
open Go.RowKit Go.PlainAid
set_option linter.unusedVariables false

def stepT (out : ByteArray) (c : Course) : ByteArray := (if c.lead.size = 0 then out ++ ⟨#[32]⟩ else out ++ ⟨#[32]⟩ ++ (c.lead ++ ⟨#[43]⟩)) ++ c.cycle
def textTo (s : ByteArray) (zs : List Course) (k : Nat) : ByteArray := (zs.take k).foldl stepT s
def textB (s : ByteArray) (zs : List Course) : ByteArray := if bondOk s zs = true then zs.foldl stepT s else ⟨#[]⟩
theorem textTo_step {s : ByteArray} {zs : List Course} {k : Nat} {z : Course} (h : zs[k]? = some z) : textTo s zs (k + 1) = stepT (textTo s zs k) z := by
  unfold textTo
  rw [List.take_add_one, h, List.foldl_append]
  rfl
theorem textTo_all (s : ByteArray) (zs : List Course) : textTo s zs zs.length = zs.foldl stepT s := by
  unfold textTo
  rw [List.take_length]
theorem stepT_size (out : ByteArray) (c : Course) : (stepT out c).size ≤ out.size + c.lead.size + c.cycle.size + 2 := by
  unfold stepT
  split
  · simp only [ByteArray.size_append]
    show out.size + 1 + c.cycle.size ≤ _
    omega
  · simp only [ByteArray.size_append]
    show out.size + 1 + (c.lead.size + 1) + c.cycle.size ≤ _
    omega
theorem bond_name {s : ByteArray} {zs : List Course} (h : bondOk s zs = true) : nameB s = true := by
  unfold bondOk at h
  rw [Bool.and_eq_true] at h
  exact h.1
theorem name_size {s : ByteArray} (h : nameB s = true) : 1 ≤ s.size ∧ s.size ≤ 12 := by
  have := of_decide_eq_true h
  exact ⟨this.1, this.2.1⟩
theorem bond_len' {s : ByteArray} {zs : List Course} (h : bondOk s zs = true) : 1 ≤ zs.length ∧ zs.length ≤ 8 := by
  unfold bondOk at h
  rw [Bool.and_eq_true, Bool.and_eq_true, decide_eq_true_iff] at h
  exact h.2.1
theorem bond_at {s : ByteArray} {zs : List Course} {i : Nat} {z : Course} (h : bondOk s zs = true) (hz : zs[i]? = some z) : z.ok = true := by
  unfold bondOk at h
  rw [Bool.and_eq_true, Bool.and_eq_true, List.all_eq_true] at h
  exact h.2.2 z (List.mem_of_getElem? hz)
theorem textTo_size {s : ByteArray} {zs : List Course} (h : bondOk s zs = true) (k : Nat) : (textTo s zs k).size ≤ 12 + 16 * k := by
  induction k with
  | zero =>
    have := name_size (bond_name h)
    show (List.foldl stepT s (zs.take 0)).size ≤ 12
    rw [List.take_zero]
    exact this.2
  | succ k ih =>
    cases hz : zs[k]? with
    | none =>
      have e : textTo s zs (k + 1) = textTo s zs k := by
        unfold textTo
        rw [List.take_of_length_le (by have := List.getElem?_eq_none_iff.1 hz; omega), List.take_of_length_le (List.getElem?_eq_none_iff.1 hz)]
      rw [e]
      omega
    | some z =>
      obtain ⟨x, y⟩ := z
      rw [textTo_step hz]
      have h1 := stepT_size (textTo s zs k) ⟨x, y⟩
      obtain ⟨c0, -, ⟨-, c2⟩, -⟩ := course_split (bond_at h hz)
      show (stepT (textTo s zs k) ⟨x, y⟩).size ≤ 12 + 16 * (k + 1)
      simp only at h1
      omega
theorem stepT_no {out x y : ByteArray} (h : x.size = 0) : stepT out ⟨x, y⟩ = out ++ ⟨#[32]⟩ ++ y := by unfold stepT; rw [if_pos h]
theorem stepT_lead {out x y : ByteArray} (h : ¬ x.size = 0) : stepT out ⟨x, y⟩ = out ++ ⟨#[32]⟩ ++ (x ++ ⟨#[43]⟩) ++ y := by unfold stepT; rw [if_neg h]
theorem empty_of {x : ByteArray} (h : x.size = 0) : x = ⟨#[]⟩ := by
  apply ByteArray.ext
  exact Array.eq_empty_of_size_eq_zero h
theorem nonempty_of {x : ByteArray} (h : ¬ x.size = 0) : x.toList.isEmpty = false := by
  rw [← decide_eq_emptyBytes]
  refine decide_eq_false ?_
  intro e
  rw [e] at h
  exact h rfl
end Go.Proofs.Ytfjnhocmkafnbaa
