/-
  What is proved: plain facts on the texts of formats and moulds: a text is that of a valid one just where it is read so. No program in sight. No conditions.
-/
import Derived.Test.YtfjdhjbfingofaaGreatDoorJoinC
import Derived.Test.YtfjdhjbfingofaaGreatDoorJoinA
namespace Go.Proofs.YtfjdhjbfingofaaGreatDoor
set_option linter.unusedVariables false

theorem cut_sep {c : UInt8} {sep : List UInt8} : ∀ {a b : List UInt8}, c ∉ a → Lib.cut (a ++ (c :: sep ++ b)) (c :: sep) = (a, b, true) := by
  have key : ∀ a b : List UInt8, c ∉ a → Lib.index (a ++ (c :: sep ++ b)) (c :: sep) = (a.length : Int) := by
    intro a
    induction a with
    | nil =>
      intro b _
      have hp : (c :: sep).isPrefixOf (c :: sep ++ b) = true := List.isPrefixOf_iff_prefix.2 (List.prefix_append _ _)
      rw [List.nil_append, List.cons_append]
      unfold Lib.index
      rw [← List.cons_append, if_pos hp]
      rfl
    | cons x a ih =>
      intro b h
      have hx : x ≠ c := fun e => h (by rw [e]; exact List.mem_cons_self ..)
      have hp : (c :: sep).isPrefixOf (x :: (a ++ (c :: sep ++ b))) = false := by
        simp only [List.isPrefixOf, Bool.and_eq_false_iff, beq_eq_false_iff_ne]
        exact .inl fun e => hx e.symm
      rw [List.cons_append]
      unfold Lib.index
      rw [hp, ih b (fun hm => h (List.mem_cons_of_mem _ hm))]
      rw [if_neg (by simp), if_neg (by simp <;> omega)]
      simp
  intro a b h
  have hi := key a b h
  unfold Lib.cut
  rw [hi, if_pos (by omega)]
  have e1 : (a.length : Int).toNat = a.length := by omega
  rw [e1, List.take_left, ← List.drop_drop, List.drop_left, List.drop_left]
/-- Three numbers between bytes. -/
def numsL (c : UInt8) (l : List UInt8) : Option (List Int) :=
  match spl c l with
  | [x, y, z] =>
    match numL x, numL y, numL z with
    | some a, some b, some d => some [a, b, d]
    | _, _, _ => none
  | _ => none
theorem spl_three {c : UInt8} {l x y z : List UInt8} (h : spl c l = [x, y, z]) : l = x ++ c :: (y ++ c :: z) := by
  have := spl_join c l
  rw [h, inter_cons, inter_cons, inter_one] at this
  exact this.symm
theorem spl_two {c : UInt8} {l x y : List UInt8} (h : spl c l = [x, y]) : l = x ++ c :: y := by
  have := spl_join c l
  rw [h, inter_cons, inter_one] at this
  exact this.symm
theorem nums_some {c : UInt8} {l : List UInt8} {v : List Int} (h : numsL c l = some v) : ∃ a b d, v = [a, b, d] ∧ spl c l = [Lib.itoa a, Lib.itoa b, Lib.itoa d] ∧ Small a ∧ Small b ∧ Small d := by
  unfold numsL at h
  split at h
  · rename_i x y z hs
    split at h
    · rename_i a b d ha hb hd
      have ea := num_iff.1 ha
      have eb := num_iff.1 hb
      have ed := num_iff.1 hd
      injection h with h
      exact ⟨a, b, d, h.symm, by rw [hs, ea.1, eb.1, ed.1], ea.2, eb.2, ed.2⟩
    · cases h
  · cases h
theorem nums_of {c : UInt8} {l : List UInt8} {a b d : Int} (hs : spl c l = [Lib.itoa a, Lib.itoa b, Lib.itoa d]) (ha : Small a) (hb : Small b) (hd : Small d) : numsL c l = some [a, b, d] := by
  unfold numsL
  rw [hs]
  simp only [num_itoa ha, num_itoa hb, num_itoa hd]
theorem nums_count {c : UInt8} {l : List UInt8} (h : (spl c l).length ≠ 3) : numsL c l = none := by
  cases hv : numsL c l with
  | none => rfl
  | some v =>
    obtain ⟨a, b, d, -, hs, -⟩ := nums_some hv
    rw [hs] at h
    exact absurd rfl h
theorem nums_bad {c : UInt8} {l w : List UInt8} {i : Nat} (hw : (spl c l)[i]? = some w) (hn : numL w = none) : numsL c l = none := by
  cases hv : numsL c l with
  | none => rfl
  | some v =>
    obtain ⟨a, b, d, -, hs, h1, h2, h3⟩ := nums_some hv
    rw [hs] at hw
    match i, hw with
    | 0, hw => obtain rfl := Option.some.inj hw; rw [num_itoa h1] at hn; cases hn
    | 1, hw => obtain rfl := Option.some.inj hw; rw [num_itoa h2] at hn; cases hn
    | 2, hw => obtain rfl := Option.some.inj hw; rw [num_itoa h3] at hn; cases hn
def sizesT (l w h : Int) : List UInt8 := Lib.itoa l ++ 120 :: (Lib.itoa w ++ 120 :: Lib.itoa h)
theorem sizes_spl (l w h : Int) : spl 120 (sizesT l w h) = [Lib.itoa l, Lib.itoa w, Lib.itoa h] := by
  have hn : ∀ n : Int, (120 : UInt8) ∉ Lib.itoa n := fun n => itoa_no (by decide) (by decide)
  unfold sizesT
  rw [spl_cut (hn l), spl_cut (hn w), spl_none (hn h)]
theorem sizes_no {c : UInt8} (h : ¬ (48 ≤ c.toNat ∧ c.toNat ≤ 57)) (h45 : c ≠ 45) (h120 : c ≠ 120) (l w k : Int) : c ∉ sizesT l w k := by
  have hn : ∀ n : Int, c ∉ Lib.itoa n := fun n => itoa_no h h45
  unfold sizesT
  simp [hn, h120]
theorem sizes_of {l : List UInt8} {a b d : Int} (h : spl 120 l = [Lib.itoa a, Lib.itoa b, Lib.itoa d]) : l = sizesT a b d := spl_three h
/-- Formats. -/
def fText (l w h j : Int) : List UInt8 := sizesT l w h ++ 43 :: Lib.itoa j
def fmtL (l : List UInt8) : Option (Int × Int × Int × Int) :=
  match numsL 120 (Lib.cut l [43]).1, numL (Lib.cut l [43]).2.1 with
  | some [x, y, z], some j => if fmtB x y z j = true ∧ fText x y z j = l then some (x, y, z, j) else none
  | _, _ => none
theorem fmt_small {l w h j : Int} (e : fmtB l w h j = true) : Small l ∧ Small w ∧ Small h ∧ Small j := by
  have := of_decide_eq_true e
  unfold FmtOk at this
  unfold Small
  omega
theorem fText_cut (l w h j : Int) : Lib.cut (fText l w h j) [43] = (sizesT l w h, Lib.itoa j, true) := by
  unfold fText
  exact cut_hit (sizes_no (by decide) (by decide) (by decide) l w h)
theorem fmt_iff {l : List UInt8} {x y z j : Int} : fmtL l = some (x, y, z, j) ↔ fmtB x y z j = true ∧ fText x y z j = l := by
  constructor
  · intro h
    unfold fmtL at h
    split at h
    · split at h
      · rename_i hc
        injection h with h
        injection h with h1 h2
        injection h2 with h2 h3
        injection h3 with h3 h4
        subst h1 h2 h3 h4
        exact hc
      · cases h
    · cases h
  · rintro ⟨hb, rfl⟩
    obtain ⟨h1, h2, h3, h4⟩ := fmt_small hb
    unfold fmtL
    rw [fText_cut]
    simp only [nums_of (sizes_spl x y z) h1 h2 h3, num_itoa h4, hb, and_self, if_true]
/-- What the program asks for. -/
theorem fmt_cut {l : List UInt8} (h : numsL 120 (Lib.cut l [43]).1 = none ∨ numL (Lib.cut l [43]).2.1 = none) : fmtL l = none := by
  unfold fmtL
  rcases h with h | h
  · rw [h]
  · rw [h]
    split
    · rename_i q; cases q
    · rfl
theorem fmt_read {l : List UInt8} {x y z j : Int} (h1 : numsL 120 (Lib.cut l [43]).1 = some [x, y, z]) (h2 : numL (Lib.cut l [43]).2.1 = some j) (h : ¬ (fmtB x y z j = true ∧ fText x y z j = l)) : fmtL l = none := by
  unfold fmtL
  simp only [h1, h2]
  exact if_neg h
/-- What the reference asks for. -/
theorem fmt_parts {l : List UInt8} {x y z j : Int} (h : fmtL l = some (x, y, z, j)) : spl 43 l = [sizesT x y z, Lib.itoa j] ∧ spl 120 (sizesT x y z) = [Lib.itoa x, Lib.itoa y, Lib.itoa z] ∧ Small x ∧ Small y ∧ Small z ∧ Small j ∧ fmtB x y z j = true := by
  obtain ⟨hb, rfl⟩ := fmt_iff.1 h
  obtain ⟨h1, h2, h3, h4⟩ := fmt_small hb
  refine ⟨?_, sizes_spl x y z, h1, h2, h3, h4, hb⟩
  unfold fText
  rw [spl_cut (sizes_no (by decide) (by decide) (by decide) x y z), spl_none (itoa_no (by decide) (by decide))]
theorem fmt_yes {l a b x y z : List UInt8} {p q r j : Int} (h : spl 43 l = [a, b]) (h2 : spl 120 a = [x, y, z]) (hp : numL x = some p) (hq : numL y = some q) (hr : numL z = some r) (hj : numL b = some j) (hb : fmtB p q r j = true) : fmtL l = some (p, q, r, j) := by
  rw [fmt_iff]
  refine ⟨hb, ?_⟩
  rw [spl_two h, spl_three h2, ← (num_iff.1 hp).1, ← (num_iff.1 hq).1, ← (num_iff.1 hr).1, ← (num_iff.1 hj).1]
  rfl
theorem fmt_no2 {l : List UInt8} (h : (spl 43 l).length ≠ 2) : fmtL l = none := by
  cases hf : fmtL l with
  | none => rfl
  | some f =>
    obtain ⟨x, y, z, j⟩ := f
    rw [(fmt_parts hf).1] at h
    exact absurd rfl h
theorem fmt_no3 {l a b : List UInt8} (hs : spl 43 l = [a, b]) (h : (spl 120 a).length ≠ 3) : fmtL l = none := by
  cases hf : fmtL l with
  | none => rfl
  | some f =>
    obtain ⟨x, y, z, j⟩ := f
    have := fmt_parts hf
    rw [this.1] at hs
    injection hs with hs
    subst hs
    rw [this.2.1] at h
    exact absurd rfl h
theorem fmt_no {l a b x y z : List UInt8} (hs : spl 43 l = [a, b]) (h2 : spl 120 a = [x, y, z]) (h : numL x = none ∨ numL y = none ∨ numL z = none ∨ numL b = none ∨ ∀ p q r j, numL x = some p → numL y = some q → numL z = some r → numL b = some j → fmtB p q r j = false) : fmtL l = none := by
  cases hf : fmtL l with
  | none => rfl
  | some f =>
    obtain ⟨p, q, r, j⟩ := f
    obtain ⟨e1, e2, s1, s2, s3, s4, hb⟩ := fmt_parts hf
    rw [e1] at hs
    injection hs with ha hs
    injection hs with hb2 _
    subst ha hb2
    rw [e2] at h2
    injection h2 with ex h2
    injection h2 with ey h2
    injection h2 with ez _
    subst ex ey ez
    rw [num_itoa s1, num_itoa s2, num_itoa s3, num_itoa s4] at h
    rcases h with h | h | h | h | h
    · cases h
    · cases h
    · cases h
    · cases h
    · rw [h p q r j rfl rfl rfl rfl] at hb
      cases hb
/-- Moulds: the four numbers, the last behind a word. -/
def mldB (l w h u : Int) : Bool := decide ((30 ≤ l ∧ l ≤ 800) ∧ (30 ≤ w ∧ w ≤ 800) ∧ (30 ≤ h ∧ h ≤ 800) ∧ (0 ≤ u ∧ u ≤ 100000))
def usedL : List UInt8 := [32, 117, 115, 101, 100, 32]
def mText (l w h u : Int) : List UInt8 := sizesT l w h ++ (usedL ++ Lib.itoa u)
def mldL (l : List UInt8) : Option (Int × Int × Int × Int) :=
  match numsL 120 (Lib.cut l usedL).1, numL (Lib.cut l usedL).2.1 with
  | some [x, y, z], some j => if mldB x y z j = true ∧ mText x y z j = l then some (x, y, z, j) else none
  | _, _ => none
theorem mld_small {l w h j : Int} (e : mldB l w h j = true) : Small l ∧ Small w ∧ Small h ∧ Small j := by
  have := of_decide_eq_true e
  unfold Small
  omega
theorem mText_cut (l w h j : Int) : Lib.cut (mText l w h j) usedL = (sizesT l w h, Lib.itoa j, true) := by
  unfold mText usedL
  exact cut_sep (sizes_no (by decide) (by decide) (by decide) l w h)
theorem mld_iff {l : List UInt8} {x y z j : Int} : mldL l = some (x, y, z, j) ↔ mldB x y z j = true ∧ mText x y z j = l := by
  constructor
  · intro h
    unfold mldL at h
    split at h
    · split at h
      · rename_i hc
        injection h with h
        injection h with h1 h2
        injection h2 with h2 h3
        injection h3 with h3 h4
        subst h1 h2 h3 h4
        exact hc
      · cases h
    · cases h
  · rintro ⟨hb, rfl⟩
    obtain ⟨h1, h2, h3, h4⟩ := mld_small hb
    unfold mldL
    rw [mText_cut]
    simp only [nums_of (sizes_spl x y z) h1 h2 h3, num_itoa h4, hb, and_self, if_true]
theorem mld_cut {l : List UInt8} (h : numsL 120 (Lib.cut l usedL).1 = none ∨ numL (Lib.cut l usedL).2.1 = none) : mldL l = none := by
  unfold mldL
  rcases h with h | h
  · rw [h]
  · rw [h]
    split
    · rename_i q; cases q
    · rfl
theorem mld_read {l : List UInt8} {x y z j : Int} (h1 : numsL 120 (Lib.cut l usedL).1 = some [x, y, z]) (h2 : numL (Lib.cut l usedL).2.1 = some j) (h : ¬ (mldB x y z j = true ∧ mText x y z j = l)) : mldL l = none := by
  unfold mldL
  simp only [h1, h2]
  exact if_neg h
def usedW : List UInt8 := [117, 115, 101, 100]
theorem mld_parts {l : List UInt8} {x y z j : Int} (h : mldL l = some (x, y, z, j)) : spl 32 l = [sizesT x y z, usedW, Lib.itoa j] ∧ spl 120 (sizesT x y z) = [Lib.itoa x, Lib.itoa y, Lib.itoa z] ∧ Small x ∧ Small y ∧ Small z ∧ Small j ∧ mldB x y z j = true := by
  obtain ⟨hb, rfl⟩ := mld_iff.1 h
  obtain ⟨h1, h2, h3, h4⟩ := mld_small hb
  refine ⟨?_, sizes_spl x y z, h1, h2, h3, h4, hb⟩
  have e : mText x y z j = sizesT x y z ++ 32 :: (usedW ++ 32 :: Lib.itoa j) := rfl
  rw [e, spl_cut (sizes_no (by decide) (by decide) (by decide) x y z), spl_cut (by decide), spl_none (itoa_no (by decide) (by decide))]
theorem mld_yes {l a b x y z : List UInt8} {p q r j : Int} (h : spl 32 l = [a, usedW, b]) (h2 : spl 120 a = [x, y, z]) (hp : numL x = some p) (hq : numL y = some q) (hr : numL z = some r) (hj : numL b = some j) (hb : mldB p q r j = true) : mldL l = some (p, q, r, j) := by
  rw [mld_iff]
  refine ⟨hb, ?_⟩
  rw [spl_three h, spl_three h2, ← (num_iff.1 hp).1, ← (num_iff.1 hq).1, ← (num_iff.1 hr).1, ← (num_iff.1 hj).1]
  rfl
theorem mld_no3 {l : List UInt8} (h : (spl 32 l).length ≠ 3) : mldL l = none := by
  cases hf : mldL l with
  | none => rfl
  | some f =>
    obtain ⟨x, y, z, j⟩ := f
    rw [(mld_parts hf).1] at h
    exact absurd rfl h
theorem mld_noW {l a u b : List UInt8} (hs : spl 32 l = [a, u, b]) (h : u ≠ usedW) : mldL l = none := by
  cases hf : mldL l with
  | none => rfl
  | some f =>
    obtain ⟨x, y, z, j⟩ := f
    rw [(mld_parts hf).1] at hs
    injection hs with _ hs
    injection hs with hs _
    exact absurd hs.symm h
theorem mld_noS {l a u b : List UInt8} (hs : spl 32 l = [a, u, b]) (h : (spl 120 a).length ≠ 3) : mldL l = none := by
  cases hf : mldL l with
  | none => rfl
  | some f =>
    obtain ⟨x, y, z, j⟩ := f
    have := mld_parts hf
    rw [this.1] at hs
    injection hs with hs
    subst hs
    rw [this.2.1] at h
    exact absurd rfl h
theorem mld_no {l a u b x y z : List UInt8} (hs : spl 32 l = [a, u, b]) (h2 : spl 120 a = [x, y, z]) (h : numL x = none ∨ numL y = none ∨ numL z = none ∨ numL b = none ∨ ∀ p q r j, numL x = some p → numL y = some q → numL z = some r → numL b = some j → mldB p q r j = false) : mldL l = none := by
  cases hf : mldL l with
  | none => rfl
  | some f =>
    obtain ⟨p, q, r, j⟩ := f
    obtain ⟨e1, e2, s1, s2, s3, s4, hb⟩ := mld_parts hf
    rw [e1] at hs
    injection hs with ha hs
    injection hs with _ hs
    injection hs with hb2 _
    subst ha hb2
    rw [e2] at h2
    injection h2 with ex h2
    injection h2 with ey h2
    injection h2 with ez _
    subst ex ey ez
    rw [num_itoa s1, num_itoa s2, num_itoa s3, num_itoa s4] at h
    rcases h with h | h | h | h | h
    · cases h
    · cases h
    · cases h
    · cases h
    · rw [h p q r j rfl rfl rfl rfl] at hb
      cases hb
end Go.Proofs.YtfjdhjbfingofaaGreatDoor
