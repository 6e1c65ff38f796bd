/-
  What is proved: an argument that is a slice of integers, or a slice of structs of one-cell fields, reads as a plain list. No program in sight. No conditions.
-/
import Derived.Test.YtgobpleckeeheaaPlain
import Derived.ProofKit
import Derived.Deep.Slices
import Derived.Deep.Fields
import Derived.ChangeSame
import Derived.Lib.SmallJoins
namespace Go.Proofs.Ytgobpleckeeheaa
open Go.RowKit Go.ChangeShapes Go.WideShapes Go.Deep
set_option linter.unusedVariables false

/-- A mould, a clay, a course as plain data. -/
structure Mould where (l w h u : Int)
structure Clay where (n : ByteArray) (s l d p : Int)
structure Course where (lead cycle : ByteArray)
def I64 (x : Int) : Prop := -9223372036854775808 ≤ x ∧ x ≤ 9223372036854775807
def Mould.enc (m : Mould) : List Value := [.int .i64 m.l, .int .i64 m.w, .int .i64 m.h, .int .i64 m.u]
def Mould.Wf (m : Mould) : Prop := I64 m.l ∧ I64 m.w ∧ I64 m.h ∧ I64 m.u
def Clay.enc (c : Clay) : List Value := [.string c.n, .int .i64 c.s, .int .i64 c.l, .int .i64 c.d, .int .i64 c.p]
def Clay.Wf (c : Clay) : Prop := c.n.size ≤ maxLen ∧ I64 c.s ∧ I64 c.l ∧ I64 c.d ∧ I64 c.p
def Course.enc (c : Course) : List Value := [.string c.lead, .string c.cycle]
def Course.Wf (c : Course) : Prop := c.lead.size ≤ maxLen ∧ c.cycle.size ≤ maxLen
theorem i64_of {x : Int} (h : (Lit.int .i64 x).wf = true) : I64 x := bounds_i64 h

/-- A slice of integers that came in: its n elements. -/
def ArgInts (k : IntKind) (w : World) (A : Option Addr) (n c : Nat) (zs : List Int) : Prop :=
  zs.length = n ∧ n ≤ c ∧ c ≤ maxLen ∧ (∀ z ∈ zs, (Lit.int k z).wf = true) ∧
    (0 < n → ∃ b off, A = some ⟨b, off, none⟩ ∧ b < w.heap.size ∧ ∀ i, i < n → w.cell? ⟨b, off + i, none⟩ = some (.int k (zs.getD i 0)))
/-- A slice of structs of k one-cell fields that came in: its n elements. -/
def ArgRow {α : Type} (enc : α → List Value) (wf : α → Prop) (k : Nat) (w : World) (A : Option Addr) (n c : Nat) (zs : List α) : Prop :=
  zs.length = n ∧ n ≤ c ∧ c ≤ maxLen ∧ (∀ z ∈ zs, wf z) ∧
    (0 < n → ∃ b off, A = some ⟨b, off, none⟩ ∧ b < w.heap.size ∧ ∀ i z, zs[i]? = some z → ∀ j v, (enc z)[j]? = some v → w.cell? ⟨b, off + (i * k + j), none⟩ = some v)

theorem ArgInts.below {k : IntKind} {w w' : World} {A : Option Addr} {n c : Nat} {z : List Int} (h : ArgInts k w A n c z) (hb : Below w.heap.size w w') : ArgInts k w' A n c z := by
  obtain ⟨h1, h2, h3, h4, h5⟩ := h
  refine ⟨h1, h2, h3, h4, fun hn => ?_⟩
  obtain ⟨b, off, e, hlt, hc⟩ := h5 hn
  exact ⟨b, off, e, Nat.lt_of_lt_of_le hlt hb.size, fun i hi => (hb.cell (p := ⟨b, off + i, none⟩) hlt).trans (hc i hi)⟩
theorem ArgRow.below {α : Type} {enc : α → List Value} {wf : α → Prop} {k : Nat} {w w' : World} {A : Option Addr} {n c : Nat} {z : List α} (h : ArgRow enc wf k w A n c z) (hb : Below w.heap.size w w') : ArgRow enc wf k w' A n c z := by
  obtain ⟨h1, h2, h3, h4, h5⟩ := h
  refine ⟨h1, h2, h3, h4, fun hn => ?_⟩
  obtain ⟨b, off, e, hlt, hc⟩ := h5 hn
  exact ⟨b, off, e, Nat.lt_of_lt_of_le hlt hb.size, fun i z hi j v hv => (hb.cell (p := ⟨b, off + (i * k + j), none⟩) hlt).trans (hc i z hi j v hv)⟩

theorem add_none (b off i : Nat) : Addr.add ⟨b, off, none⟩ i = ⟨b, off + i, none⟩ := by
  unfold Addr.add
  split
  · rename_i h
    simp
  · simp

theorem list_of {α : Type} {Q : Nat → α → Prop} : ∀ n : Nat, (∀ i, i < n → ∃ z, Q i z) → ∃ zs : List α, zs.length = n ∧ ∀ i z, zs[i]? = some z → Q i z
  | 0, _ => ⟨[], rfl, fun i z h => by simp at h⟩
  | n + 1, h => by
    obtain ⟨zs, hl, hq⟩ := list_of n (fun i hi => h i (by omega))
    obtain ⟨z, hz⟩ := h n (by omega)
    refine ⟨zs ++ [z], by simp [hl], fun i x hx => ?_⟩
    rcases Nat.lt_or_ge i n with hi | hi
    · rw [List.getElem?_append_left (by omega)] at hx
      exact hq i x hx
    · rw [List.getElem?_append_right (by omega)] at hx
      have e : i - zs.length = 0 := by
        rcases Nat.eq_zero_or_pos (i - zs.length) with e | e
        · exact e
        · rw [List.getElem?_eq_none (by simp; omega)] at hx
          cases hx
      rw [e] at hx
      simp at hx
      subst hx
      obtain rfl : i = n := by omega
      exact hz

section
variable {H : Type} {enc : TypeId × Value → H} {P : Program} {w : World} {base : Nat} {spare : Nat → Bool} {held : Bool} {d : DataW H} {p : List MemPlace}

theorem argInts_open {t e : TypeId} {k : IntKind} {A : Option Addr} {n c : Nat} (ht : P.underlying t = some (.slice e)) (he : P.underlying e = some (.int k)) (hc : P.cellsOf e = 1)
    (h : DataW.Trod enc P w base spare held t (.slice A n c) d p) : ∃ zs, ArgInts k w A n c zs := by
  obtain ⟨fuel, hf⟩ := h
  rcases open_ints ht he hc hf with ⟨hcs, _⟩ | ⟨a, len, cap, zs, hcs, _, hl, hm, hz, _, hcell, hw⟩
  · simp [Value.cells] at hcs
    obtain ⟨rfl, rfl, rfl⟩ := hcs
    exact ⟨[], rfl, Nat.le_refl _, Nat.zero_le _, by simp, fun h => absurd h (by omega)⟩
  · simp [Value.cells] at hcs
    obtain ⟨rfl, rfl, rfl⟩ := hcs
    have hlz : n ≤ zs.length := by rw [hz]; split <;> omega
    refine ⟨zs.take n, by simp; omega, hl, hm, fun z hz' => hw z (List.mem_of_mem_take hz'), fun hn => ?_⟩
    obtain ⟨b, off, spot⟩ := a
    have h0 := hcell 0 (by omega)
    have hspot : spot = none := by simpa [Addr.add] using World.cell?_spot h0
    subst hspot
    refine ⟨b, off, rfl, by have := World.block_lt_of_cell? _ _ h0; simpa [Addr.add] using this, fun i hi => ?_⟩
    have h1 := hcell i (by omega)
    rw [add_none] at h1
    rw [h1]
    congr 2
    simp [List.getD, hi]

/-- The cells of element i. -/
theorem row_cells {t e : TypeId} {k : Nat} {A : Option Addr} {n c : Nat} (ht : P.underlying t = some (.slice e)) (hC : P.cellsOf e = k)
    (h : DataW.Trod enc P w base spare held t (.slice A n c) d p) (hk : 0 < k) :
    n ≤ c ∧ c ≤ maxLen ∧ (0 < n → ∃ b off, A = some ⟨b, off, none⟩ ∧ b < w.heap.size ∧
      ∀ i, i < n → ∃ (cs : List Value) (f : Nat) (x : DataW H × List MemPlace), cs.length = k ∧ (∀ j, j < k → w.cell? ⟨b, off + (i * k + j), none⟩ = cs[j]?) ∧ DataW.trod enc P w base spare held f e cs = some x) := by
  obtain ⟨fuel, hf⟩ := h
  rcases open_slice ht hf with ⟨hcs, _⟩ | ⟨a, len, cap, m, f, D, Pl, hcs, _, hl, hm, hmm, _, hi⟩
  · simp [Value.cells] at hcs
    obtain ⟨rfl, rfl, rfl⟩ := hcs
    exact ⟨Nat.le_refl _, Nat.zero_le _, fun h => absurd h (by omega)⟩
  · simp [Value.cells] at hcs
    obtain ⟨rfl, rfl, rfl⟩ := hcs
    have hnm : n ≤ m := by rw [hmm]; split <;> omega
    refine ⟨hl, hm, fun hn => ?_⟩
    have hcell : ∀ i, i < n → ∃ cs', cs'.length = k ∧ (∀ j, j < k → w.cell? ((a.add (i * k)).add j) = cs'[j]?) ∧ DataW.trod enc P w base spare held f e cs' = some (D i, Pl i) := by
      intro i hin
      obtain ⟨cs', hc1, hc2⟩ := hi i (by omega)
      rw [hC] at hc1
      obtain ⟨_, hcl, hat⟩ := World.cells?_some hc1
      exact ⟨cs', hcl, hat, hc2⟩
    obtain ⟨b, off, spot⟩ := a
    obtain ⟨c0, hl0, ha0, _⟩ := hcell 0 hn
    have h0 := ha0 0 hk
    rw [List.getElem?_eq_getElem (by omega)] at h0
    have hspot : spot = none := by simpa [Addr.add] using World.cell?_spot h0
    subst hspot
    refine ⟨b, off, rfl, by have := World.block_lt_of_cell? _ _ h0; simpa [Addr.add] using this, fun i hin => ?_⟩
    obtain ⟨cs', hcl, hat, htr⟩ := hcell i hin
    refine ⟨cs', f, _, hcl, fun j hj => ?_, htr⟩
    have := hat j hj
    rw [add_none, add_none, Nat.add_assoc] at this
    exact this

/-- A field of one cell. -/
theorem field_of {e : TypeId} {fs : Array Field} {cs : List Value} {f : Nat} {x : DataW H × List MemPlace} (he : P.underlying e = some (.struct fs)) (hone : oneCellFields P fs = true)
    (h : DataW.trod enc P w base spare held f e cs = some x) (j : Nat) (fl : Field) (hj : fs[j]? = some fl) :
    ∃ (v : Value) (y : DataW H × List MemPlace) (g : Nat), (j < cs.length → cs[j]? = some v) ∧ DataW.trod enc P w base spare held g fl.type ((cs.drop j).take 1) = some y ∧ (j < cs.length → (cs.drop j).take 1 = [v]) := by
  obtain ⟨ys, g, _, _, _, hyl, hf⟩ := DataW.trod_struct he h
  obtain ⟨ho, hk⟩ := hone_of hone j fl hj
  have hjl : j < fs.size := (Array.getElem?_eq_some_iff.1 hj).1
  have h1 := hf j fl hj
  rw [ho, hk, List.getElem?_eq_getElem (by omega)] at h1
  by_cases hlt : j < cs.length
  · refine ⟨cs[j], _, g, fun _ => List.getElem?_eq_getElem hlt, h1, fun _ => ?_⟩
    rw [List.drop_eq_getElem_cons hlt]
    rfl
  · exact ⟨undef, _, g, fun h => absurd h hlt, h1, fun h => absurd h hlt⟩

theorem field_int {e : TypeId} {fs : Array Field} {cs : List Value} {f : Nat} {x : DataW H × List MemPlace} (he : P.underlying e = some (.struct fs)) (hone : oneCellFields P fs = true)
    (h : DataW.trod enc P w base spare held f e cs = some x) (j : Nat) (fl : Field) (hj : fs[j]? = some fl) (hlt : j < cs.length) (hi : P.underlying fl.type = some (.int .i64)) :
    ∃ n, cs[j]? = some (.int .i64 n) ∧ I64 n := by
  obtain ⟨v, y, g, hv, ht, h1⟩ := field_of he hone h j fl hj
  rw [h1 hlt] at ht
  obtain ⟨n, e1, _, hw⟩ := DataW.trod_int hi ht
  simp only [List.cons.injEq, and_true] at e1
  exact ⟨n, by rw [hv hlt, e1], i64_of hw⟩
theorem field_string {e : TypeId} {fs : Array Field} {cs : List Value} {f : Nat} {x : DataW H × List MemPlace} (he : P.underlying e = some (.struct fs)) (hone : oneCellFields P fs = true)
    (h : DataW.trod enc P w base spare held f e cs = some x) (j : Nat) (fl : Field) (hj : fs[j]? = some fl) (hlt : j < cs.length) (hi : P.underlying fl.type = some .string) :
    ∃ s : ByteArray, cs[j]? = some (.string s) ∧ s.size ≤ maxLen := by
  obtain ⟨v, y, g, hv, ht, h1⟩ := field_of he hone h j fl hj
  rw [h1 hlt] at ht
  obtain ⟨n, e1, _, hw⟩ := DataW.trod_string hi ht
  simp only [List.cons.injEq, and_true] at e1
  exact ⟨n, by rw [hv hlt, e1], hw⟩

/-- Elements one by one: the whole slice. -/
theorem argRow_of {α : Type} {en : α → List Value} {wf : α → Prop} {t e : TypeId} {k : Nat} {A : Option Addr} {n c : Nat} (ht : P.underlying t = some (.slice e)) (hC : P.cellsOf e = k) (hk : 0 < k)
    (h : DataW.Trod enc P w base spare held t (.slice A n c) d p)
    (hel : ∀ (cs : List Value) (f : Nat) (x : DataW H × List MemPlace), cs.length = k → DataW.trod enc P w base spare held f e cs = some x → ∃ z : α, wf z ∧ en z = cs) :
    ∃ zs, ArgRow en wf k w A n c zs := by
  obtain ⟨h1, h2, h3⟩ := row_cells ht hC h hk
  rcases Nat.eq_zero_or_pos n with h0 | h0
  · subst h0
    exact ⟨[], rfl, h1, h2, by simp, fun h => absurd h (by omega)⟩
  obtain ⟨b, off, rfl, hb, hi⟩ := h3 h0
  obtain ⟨zs, hl, hz⟩ := list_of (Q := fun i (z : α) => wf z ∧ ∀ j v, (en z)[j]? = some v → w.cell? ⟨b, off + (i * k + j), none⟩ = some v) n (fun i hin => by
    obtain ⟨cs, f, x, hcl, hat, htr⟩ := hi i hin
    obtain ⟨z, hw, hez⟩ := hel cs f x hcl htr
    refine ⟨z, hw, fun j v hv => ?_⟩
    rw [hez] at hv
    have hjl : j < cs.length := (List.getElem?_eq_some_iff.1 hv).1
    rw [hat j (by omega), hv])
  refine ⟨zs, hl, h1, h2, fun z hm => ?_, fun _ => ⟨b, off, rfl, hb, fun i z hiz => (hz i z hiz).2⟩⟩
  obtain ⟨i, hi'⟩ := List.getElem?_of_mem hm
  exact (hz i z hi').1

theorem four_of {v0 v1 v2 v3 : Value} {cs : List Value} (h : cs.length = 4) (e0 : cs[0]? = some v0) (e1 : cs[1]? = some v1) (e2 : cs[2]? = some v2) (e3 : cs[3]? = some v3) : cs = [v0, v1, v2, v3] := by
  match cs, h with
  | [a, b, c, d], _ => simp at e0 e1 e2 e3; subst e0 e1 e2 e3; rfl
theorem five_of {v0 v1 v2 v3 v4 : Value} {cs : List Value} (h : cs.length = 5) (e0 : cs[0]? = some v0) (e1 : cs[1]? = some v1) (e2 : cs[2]? = some v2) (e3 : cs[3]? = some v3) (e4 : cs[4]? = some v4) : cs = [v0, v1, v2, v3, v4] := by
  match cs, h with
  | [a, b, c, d, e], _ => simp at e0 e1 e2 e3 e4; subst e0 e1 e2 e3 e4; rfl
theorem two_of {v0 v1 : Value} {cs : List Value} (h : cs.length = 2) (e0 : cs[0]? = some v0) (e1 : cs[1]? = some v1) : cs = [v0, v1] := by
  match cs, h with
  | [a, b], _ => simp at e0 e1; subst e0 e1; rfl

theorem argMoulds_of {t e : TypeId} {fs : Array Field} {f0 f1 f2 f3 : Field} {A : Option Addr} {n c : Nat} (ht : P.underlying t = some (.slice e)) (he : P.underlying e = some (.struct fs)) (hone : oneCellFields P fs = true) (hC : P.cellsOf e = 4)
    (j0 : fs[0]? = some f0) (j1 : fs[1]? = some f1) (j2 : fs[2]? = some f2) (j3 : fs[3]? = some f3)
    (i0 : P.underlying f0.type = some (.int .i64)) (i1 : P.underlying f1.type = some (.int .i64)) (i2 : P.underlying f2.type = some (.int .i64)) (i3 : P.underlying f3.type = some (.int .i64))
    (h : DataW.Trod enc P w base spare held t (.slice A n c) d p) : ∃ zs, ArgRow Mould.enc Mould.Wf 4 w A n c zs :=
  argRow_of ht hC (by omega) h (fun cs f x hl htr => by
    obtain ⟨n0, e0, w0⟩ := field_int he hone htr 0 f0 j0 (by omega) i0
    obtain ⟨n1, e1, w1⟩ := field_int he hone htr 1 f1 j1 (by omega) i1
    obtain ⟨n2, e2, w2⟩ := field_int he hone htr 2 f2 j2 (by omega) i2
    obtain ⟨n3, e3, w3⟩ := field_int he hone htr 3 f3 j3 (by omega) i3
    exact ⟨⟨n0, n1, n2, n3⟩, ⟨w0, w1, w2, w3⟩, (four_of hl e0 e1 e2 e3).symm⟩)
theorem argClays_of {t e : TypeId} {fs : Array Field} {f0 f1 f2 f3 f4 : Field} {A : Option Addr} {n c : Nat} (ht : P.underlying t = some (.slice e)) (he : P.underlying e = some (.struct fs)) (hone : oneCellFields P fs = true) (hC : P.cellsOf e = 5)
    (j0 : fs[0]? = some f0) (j1 : fs[1]? = some f1) (j2 : fs[2]? = some f2) (j3 : fs[3]? = some f3) (j4 : fs[4]? = some f4)
    (i0 : P.underlying f0.type = some .string) (i1 : P.underlying f1.type = some (.int .i64)) (i2 : P.underlying f2.type = some (.int .i64)) (i3 : P.underlying f3.type = some (.int .i64)) (i4 : P.underlying f4.type = some (.int .i64))
    (h : DataW.Trod enc P w base spare held t (.slice A n c) d p) : ∃ zs, ArgRow Clay.enc Clay.Wf 5 w A n c zs :=
  argRow_of ht hC (by omega) h (fun cs f x hl htr => by
    obtain ⟨n0, e0, w0⟩ := field_string he hone htr 0 f0 j0 (by omega) i0
    obtain ⟨n1, e1, w1⟩ := field_int he hone htr 1 f1 j1 (by omega) i1
    obtain ⟨n2, e2, w2⟩ := field_int he hone htr 2 f2 j2 (by omega) i2
    obtain ⟨n3, e3, w3⟩ := field_int he hone htr 3 f3 j3 (by omega) i3
    obtain ⟨n4, e4, w4⟩ := field_int he hone htr 4 f4 j4 (by omega) i4
    exact ⟨⟨n0, n1, n2, n3, n4⟩, ⟨w0, w1, w2, w3, w4⟩, (five_of hl e0 e1 e2 e3 e4).symm⟩)
theorem argCourses_of {t e : TypeId} {fs : Array Field} {f0 f1 : Field} {A : Option Addr} {n c : Nat} (ht : P.underlying t = some (.slice e)) (he : P.underlying e = some (.struct fs)) (hone : oneCellFields P fs = true) (hC : P.cellsOf e = 2)
    (j0 : fs[0]? = some f0) (j1 : fs[1]? = some f1) (i0 : P.underlying f0.type = some .string) (i1 : P.underlying f1.type = some .string)
    (h : DataW.Trod enc P w base spare held t (.slice A n c) d p) : ∃ zs, ArgRow Course.enc Course.Wf 2 w A n c zs :=
  argRow_of ht hC (by omega) h (fun cs f x hl htr => by
    obtain ⟨n0, e0, w0⟩ := field_string he hone htr 0 f0 j0 (by omega) i0
    obtain ⟨n1, e1, w1⟩ := field_string he hone htr 1 f1 j1 (by omega) i1
    exact ⟨⟨n0, n1⟩, ⟨w0, w1⟩, (two_of hl e0 e1).symm⟩)
end
end Go.Proofs.Ytgobpleckeeheaa
