/-
  What is proved: plain facts on the texts of clays: a text is that of a valid clay just where it is read so. No program in sight. No conditions.
-/
import Derived.Test.YtfjdhjbfingofaaGreatDoorTextP
import Derived.Test.YtfjdhjbfingofaaGreatDoorClayOk
import Derived.Test.YtfjdhjbfingofaaGreatDoorJoinC
namespace Go.Proofs.YtfjdhjbfingofaaGreatDoor
open Go.PlainAid
set_option linter.unusedVariables false

def shrW : List UInt8 := [115, 104, 114, 105, 110, 107]
def limW : List UInt8 := [108, 105, 109, 101]
def sanW : List UInt8 := [115, 97, 110, 100]
def priW : List UInt8 := [112, 114, 105, 99, 101]
def cText (c : Clay) : List UInt8 := c.n.data.toList ++ 32 :: (shrW ++ 32 :: (Lib.itoa c.s ++ 32 :: (limW ++ 32 :: (Lib.itoa c.l ++ 32 :: (sanW ++ 32 :: (Lib.itoa c.d ++ 32 :: (priW ++ 32 :: Lib.itoa c.p)))))))
def clyL (l : List UInt8) : Option Clay :=
  match spl 32 l with
  | [n, a, x, b, y, c, z, d, u] =>
    match numL x, numL y, numL z, numL u with
    | some p, some q, some r, some t => if Clay.ok ⟨ba n, p, q, r, t⟩ = true ∧ cText ⟨ba n, p, q, r, t⟩ = l then some ⟨ba n, p, q, r, t⟩ else none
    | _, _, _, _ => none
  | _ => none
theorem name_no32 {s : ByteArray} (h : nameB s = true) : (32 : UInt8) ∉ s.data.toList := fun hm => by
  obtain ⟨i, hi, e⟩ := List.getElem_of_mem hm
  have hs : i < s.size := by simpa using hi
  have := (of_decide_eq_true h).2.2.2.2 i hs
  rw [bt_list hs, e] at this
  revert this
  decide
theorem clay_parts {c : Clay} (h : c.ok = true) : nameB c.n = true ∧ Small c.s ∧ Small c.l ∧ Small c.d ∧ Small c.p := by
  obtain ⟨h0, h1, h2, h3, h4⟩ := of_decide_eq_true h
  unfold Small
  refine ⟨h0, ?_, ?_, ?_, ?_⟩ <;> omega
theorem cText_spl {c : Clay} (h : nameB c.n = true) : spl 32 (cText c) = [c.n.data.toList, shrW, Lib.itoa c.s, limW, Lib.itoa c.l, sanW, Lib.itoa c.d, priW, Lib.itoa c.p] := by
  have hn : ∀ n : Int, (32 : UInt8) ∉ Lib.itoa n := fun n => itoa_no (by decide) (by decide)
  unfold cText
  rw [spl_cut (name_no32 h), spl_cut (show (32 : UInt8) ∉ shrW by decide), spl_cut (hn c.s), spl_cut (show (32 : UInt8) ∉ limW by decide), spl_cut (hn c.l), spl_cut (show (32 : UInt8) ∉ sanW by decide), spl_cut (hn c.d), spl_cut (show (32 : UInt8) ∉ priW by decide), spl_none (hn c.p)]
theorem spl_nine {l n a x b y c z d u : List UInt8} (h : spl 32 l = [n, a, x, b, y, c, z, d, u]) : l = n ++ 32 :: (a ++ 32 :: (x ++ 32 :: (b ++ 32 :: (y ++ 32 :: (c ++ 32 :: (z ++ 32 :: (d ++ 32 :: u))))))) := by
  have := spl_join 32 l
  rw [h] at this
  simp only [inter_cons, inter_one] at this
  exact this.symm
theorem cly_iff {l : List UInt8} {c : Clay} : clyL l = some c ↔ c.ok = true ∧ cText c = l := by
  constructor
  · intro h
    unfold clyL at h
    split at h
    · split at h
      · split at h
        · rename_i hc
          injection h with h
          rw [← h]
          exact hc
        · cases h
      · cases h
    · cases h
  · rintro ⟨hb, rfl⟩
    obtain ⟨h0, h1, h2, h3, h4⟩ := clay_parts hb
    obtain ⟨n, s, l, d, p⟩ := c
    unfold clyL
    rw [cText_spl h0]
    simp only [num_itoa h1, num_itoa h2, num_itoa h3, num_itoa h4]
    rw [ba_of]
    exact if_pos ⟨hb, rfl⟩
/-- What the program asks for. -/
theorem cly_no9 {l : List UInt8} (h : (spl 32 l).length ≠ 9) : clyL l = none := by
  cases hf : clyL l with
  | none => rfl
  | some c =>
    obtain ⟨hb, rfl⟩ := cly_iff.1 hf
    rw [cText_spl (clay_parts hb).1] at h
    exact absurd rfl h
theorem cly_num {l n a x b y c z d u : List UInt8} (h : spl 32 l = [n, a, x, b, y, c, z, d, u]) (hn : numL x = none ∨ numL y = none ∨ numL z = none ∨ numL u = none) : clyL l = none := by
  unfold clyL
  rw [h]
  simp only
  rcases hn with hn | hn | hn | hn
  · rw [hn]
  · rw [hn]; cases numL x <;> rfl
  · rw [hn]; cases numL x <;> cases numL y <;> rfl
  · rw [hn]; cases numL x <;> cases numL y <;> cases numL z <;> rfl
theorem cly_read {l n a x b y c z d u : List UInt8} {p q r t : Int} (h : spl 32 l = [n, a, x, b, y, c, z, d, u]) (hp : numL x = some p) (hq : numL y = some q) (hr : numL z = some r) (ht : numL u = some t) (hc : ¬ (Clay.ok ⟨ba n, p, q, r, t⟩ = true ∧ cText ⟨ba n, p, q, r, t⟩ = l)) : clyL l = none := by
  unfold clyL
  rw [h]
  simp only [hp, hq, hr, ht]
  exact if_neg hc
/-- What the reference asks for. -/
theorem cly_word {l n a x b y c z d u : List UInt8} (h : spl 32 l = [n, a, x, b, y, c, z, d, u]) (hw : ¬ (a = shrW ∧ b = limW ∧ c = sanW ∧ d = priW)) : clyL l = none := by
  cases hf : clyL l with
  | none => rfl
  | some k =>
    obtain ⟨hb, rfl⟩ := cly_iff.1 hf
    rw [cText_spl (clay_parts hb).1] at h
    injection h with _ h
    injection h with e1 h
    injection h with _ h
    injection h with e2 h
    injection h with _ h
    injection h with e3 h
    injection h with _ h
    injection h with e4 h
    exact absurd ⟨e1.symm, e2.symm, e3.symm, e4.symm⟩ hw
theorem cly_yes {l n x y z u : List UInt8} {p q r t : Int} (h : spl 32 l = [n, shrW, x, limW, y, sanW, z, priW, u]) (hp : numL x = some p) (hq : numL y = some q) (hr : numL z = some r) (ht : numL u = some t) (hb : Clay.ok ⟨ba n, p, q, r, t⟩ = true) : clyL l = some ⟨ba n, p, q, r, t⟩ := by
  rw [cly_iff]
  refine ⟨hb, ?_⟩
  rw [spl_nine h, ← (num_iff.1 hp).1, ← (num_iff.1 hq).1, ← (num_iff.1 hr).1, ← (num_iff.1 ht).1]
  unfold cText
  simp only [ba_data]
theorem cly_not {l n x y z u : List UInt8} {p q r t : Int} (h : spl 32 l = [n, shrW, x, limW, y, sanW, z, priW, u]) (hp : numL x = some p) (hq : numL y = some q) (hr : numL z = some r) (ht : numL u = some t) (hb : Clay.ok ⟨ba n, p, q, r, t⟩ = false) : clyL l = none :=
  cly_read h hp hq hr ht (fun q => by rw [q.1] at hb; cases hb)
end Go.Proofs.YtfjdhjbfingofaaGreatDoor
