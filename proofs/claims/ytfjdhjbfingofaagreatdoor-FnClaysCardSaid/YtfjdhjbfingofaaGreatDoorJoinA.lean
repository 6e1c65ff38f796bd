/-
  What is proved: the small lemmas of 5 of our texts, joined into one file: each part's own comment says what it proves and under which conditions.
-/
import Derived.Below
import Derived.Calls
import Derived.Deep.Draws
import Derived.ProofKit
import Derived.Deep.Slices
import Derived.Deep.Fields
import Derived.ChangeSame
import Derived.Lib.SmallJoins
import Derived.Laws.OwnMore
import Derived.Laws.MakeOwn
/-
  What is proved: plain facts on numbers and lists that the walks use. No program in sight. No conditions.
-/
namespace Go.Proofs.YtfjdhjbfingofaaGreatDoor
open Go.RowKit

theorem ret_bool {a b : Bool} (h : a = b) : Ending.returned (.bool a) = .returned (.bool b) := by rw [h]
theorem ret_int {k : IntKind} {a b : Int} (h : a = b) : Ending.returned (.int k a) = .returned (.int k b) := by rw [h]
theorem below_drewN {B : Nat} {a w : World} (h : Below B a w) (n : Nat) : Below B a (w.drewN n) := ⟨h.os, h.tape, h.output, h.size, h.block⟩
theorem quiet_below {P : Program} {f : FuncId} {args : Array Value} {w : World} {v : Ending} (h : Calls P f args w fun e w' => e = v ∧ ∃ q, w' = w.drewN q) : Calls P f args w fun e w' => e = v ∧ Below w.heap.size w w' :=
  h.mono fun e w' ⟨he, q, hq⟩ => ⟨he, by rw [hq]; exact below_drewN (Below.refl _ _) q⟩
theorem hide {p : Prop} (h : p) : Hid p := h
theorem unhide {p : Prop} (h : Hid p) : p := h
/-- What a call left below the old size: each old cell and mark reads as it did. -/
theorem bcell {W w1 : World} (hb : Below W.heap.size W w1) : (∀ b o, b < W.heap.size → w1.cell? ⟨b, o, none⟩ = W.cell? ⟨b, o, none⟩) ∧ (∀ b o, b < W.heap.size → w1.frozen? ⟨b, o, none⟩ = W.frozen? ⟨b, o, none⟩) :=
  ⟨fun b o h => hb.cell (p := ⟨b, o, none⟩) h, fun b o h => hb.frozen (p := ⟨b, o, none⟩) h⟩

/-- A valid format. -/
def FmtOk (l w h j : Int) : Prop := 100 ≤ l ∧ l ≤ 500 ∧ 50 ≤ w ∧ w ≤ 250 ∧ 30 ≤ h ∧ h ≤ 150 ∧ 0 ≤ j ∧ j ≤ 20 ∧ w < l
instance (l w h j : Int) : Decidable (FmtOk l w h j) := by unfold FmtOk; infer_instance
def fmtB (l w h j : Int) : Bool := decide (FmtOk l w h j)
/-- The code of a format and a number in a range. -/
def fcode (l w h j n lo hi : Int) : Int := if fmtB l w h j = true then (if lo ≤ n ∧ n ≤ hi then 0 else 2) else 1
def heightOf (l w h j n : Int) : Int := if fcode l w h j n 1 200 = 0 then n * (h + j) - j else 0
def quartersIn (l w h j n : Int) : Int := if fcode l w h j n 0 100000 = 0 then 4 * (n + j) / (l + j) else 0
def coursesIn (l w h j n : Int) : Int := if fcode l w h j n 0 100000 = 0 then (n + j) / (h + j) else 0
def lengthNum (l w h j n : Int) : Int := if fcode l w h j n 1 200 = 0 then (n * (l + j) - 4 * j) / Int.gcd (n * (l + j) - 4 * j) 4 else 0
def lengthDen (l w h j n : Int) : Int := if fcode l w h j n 1 200 = 0 then 4 / Int.gcd (n * (l + j) - 4 * j) 4 else 0
def volIn (l w h j : Int) : Int := if fmtB l w h j = true then l * w * h else 0
def volOut (l w h j : Int) : Int := if fmtB l w h j = true then (l + j) * (w + j) * (h + j) else 0
def modB (l w h j : Int) : Bool := fmtB l w h j && (l == 2 * w + j)
def volCode (l w h j : Int) : Int := if fmtB l w h j = true then 0 else 1
theorem mul_bd (a b A B : Int) (ha : 0 ≤ a) (hA : a ≤ A) (hb : 0 ≤ b) (hB : b ≤ B) (hAB : 0 ≤ A) : 0 ≤ a * b ∧ a * b ≤ A * B :=
  ⟨Int.mul_nonneg ha hb, Int.mul_le_mul hA hB hb hAB⟩
theorem le_mul1 (n a : Int) (ha : 0 ≤ a) (hn : 1 ≤ n) : a ≤ n * a := by
  have h := Int.mul_le_mul_of_nonneg_right hn ha
  omega
theorem fcode_ok {l w h j n lo hi : Int} (e : fcode l w h j n lo hi = 0) : FmtOk l w h j ∧ lo ≤ n ∧ n ≤ hi := by
  unfold fcode at e
  by_cases h1 : fmtB l w h j = true
  · rw [if_pos h1] at e
    by_cases h2 : lo ≤ n ∧ n ≤ hi
    · exact ⟨of_decide_eq_true h1, h2⟩
    · rw [if_neg h2] at e; omega
  · rw [if_neg h1] at e; omega

end Go.Proofs.YtfjdhjbfingofaaGreatDoor

/-
  What is proved: an argument that is a slice of integers, or a slice of structs of one-cell fields, reads as a plain list. No program in sight. No conditions.
-/
namespace Go.Proofs.YtfjdhjbfingofaaGreatDoor
open Go.RowKit Go.ChangeShapes Go.WideShapes Go.Deep
set_option linter.unusedVariables false

/-- A mould, a clay, a course as plain data. -/
structure Mould where (l w h u : Int)
structure Clay where (n : ByteArray) (s l d p : Int)
structure Course where (lead cycle : ByteArray)
def I64 (x : Int) : Prop := -9223372036854775808 ≤ x ∧ x ≤ 9223372036854775807
def Mould.enc (m : Mould) : List Value := [.int .i64 m.l, .int .i64 m.w, .int .i64 m.h, .int .i64 m.u]
def Mould.Wf (m : Mould) : Prop := I64 m.l ∧ I64 m.w ∧ I64 m.h ∧ I64 m.u
def Clay.enc (c : Clay) : List Value := [.string c.n, .int .i64 c.s, .int .i64 c.l, .int .i64 c.d, .int .i64 c.p]
def Clay.Wf (c : Clay) : Prop := c.n.size ≤ maxLen ∧ I64 c.s ∧ I64 c.l ∧ I64 c.d ∧ I64 c.p
def Course.enc (c : Course) : List Value := [.string c.lead, .string c.cycle]
def Course.Wf (c : Course) : Prop := c.lead.size ≤ maxLen ∧ c.cycle.size ≤ maxLen
theorem i64_of {x : Int} (h : (Lit.int .i64 x).wf = true) : I64 x := bounds_i64 h

/-- A slice of integers that came in: its n elements. -/
def ArgInts (k : IntKind) (w : World) (A : Option Addr) (n c : Nat) (zs : List Int) : Prop :=
  zs.length = n ∧ n ≤ c ∧ c ≤ maxLen ∧ (∀ z ∈ zs, (Lit.int k z).wf = true) ∧
    (0 < n → ∃ b off, A = some ⟨b, off, none⟩ ∧ b < w.heap.size ∧ ∀ i, i < n → w.cell? ⟨b, off + i, none⟩ = some (.int k (zs.getD i 0)))
/-- A slice of structs of k one-cell fields that came in: its n elements. -/
def ArgRow {α : Type} (enc : α → List Value) (wf : α → Prop) (k : Nat) (w : World) (A : Option Addr) (n c : Nat) (zs : List α) : Prop :=
  zs.length = n ∧ n ≤ c ∧ c ≤ maxLen ∧ (∀ z ∈ zs, wf z) ∧
    (0 < n → ∃ b off, A = some ⟨b, off, none⟩ ∧ b < w.heap.size ∧ ∀ i z, zs[i]? = some z → ∀ j v, (enc z)[j]? = some v → w.cell? ⟨b, off + (i * k + j), none⟩ = some v)

theorem ArgInts.below {k : IntKind} {w w' : World} {A : Option Addr} {n c : Nat} {z : List Int} (h : ArgInts k w A n c z) (hb : Below w.heap.size w w') : ArgInts k w' A n c z := by
  obtain ⟨h1, h2, h3, h4, h5⟩ := h
  refine ⟨h1, h2, h3, h4, fun hn => ?_⟩
  obtain ⟨b, off, e, hlt, hc⟩ := h5 hn
  exact ⟨b, off, e, Nat.lt_of_lt_of_le hlt hb.size, fun i hi => (hb.cell (p := ⟨b, off + i, none⟩) hlt).trans (hc i hi)⟩
theorem ArgRow.below {α : Type} {enc : α → List Value} {wf : α → Prop} {k : Nat} {w w' : World} {A : Option Addr} {n c : Nat} {z : List α} (h : ArgRow enc wf k w A n c z) (hb : Below w.heap.size w w') : ArgRow enc wf k w' A n c z := by
  obtain ⟨h1, h2, h3, h4, h5⟩ := h
  refine ⟨h1, h2, h3, h4, fun hn => ?_⟩
  obtain ⟨b, off, e, hlt, hc⟩ := h5 hn
  exact ⟨b, off, e, Nat.lt_of_lt_of_le hlt hb.size, fun i z hi j v hv => (hb.cell (p := ⟨b, off + (i * k + j), none⟩) hlt).trans (hc i z hi j v hv)⟩

theorem add_none (b off i : Nat) : Addr.add ⟨b, off, none⟩ i = ⟨b, off + i, none⟩ := by
  unfold Addr.add
  split
  · rename_i h
    simp
  · simp

theorem list_of {α : Type} {Q : Nat → α → Prop} : ∀ n : Nat, (∀ i, i < n → ∃ z, Q i z) → ∃ zs : List α, zs.length = n ∧ ∀ i z, zs[i]? = some z → Q i z
  | 0, _ => ⟨[], rfl, fun i z h => by simp at h⟩
  | n + 1, h => by
    obtain ⟨zs, hl, hq⟩ := list_of n (fun i hi => h i (by omega))
    obtain ⟨z, hz⟩ := h n (by omega)
    refine ⟨zs ++ [z], by simp [hl], fun i x hx => ?_⟩
    rcases Nat.lt_or_ge i n with hi | hi
    · rw [List.getElem?_append_left (by omega)] at hx
      exact hq i x hx
    · rw [List.getElem?_append_right (by omega)] at hx
      have e : i - zs.length = 0 := by
        rcases Nat.eq_zero_or_pos (i - zs.length) with e | e
        · exact e
        · rw [List.getElem?_eq_none (by simp; omega)] at hx
          cases hx
      rw [e] at hx
      simp at hx
      subst hx
      obtain rfl : i = n := by omega
      exact hz

section
variable {H : Type} {enc : TypeId × Value → H} {P : Program} {w : World} {base : Nat} {spare : Nat → Bool} {held : Bool} {d : DataW H} {p : List MemPlace}

theorem argInts_open {t e : TypeId} {k : IntKind} {A : Option Addr} {n c : Nat} (ht : P.underlying t = some (.slice e)) (he : P.underlying e = some (.int k)) (hc : P.cellsOf e = 1)
    (h : DataW.Trod enc P w base spare held t (.slice A n c) d p) : ∃ zs, ArgInts k w A n c zs := by
  obtain ⟨fuel, hf⟩ := h
  rcases open_ints ht he hc hf with ⟨hcs, _⟩ | ⟨a, len, cap, zs, hcs, _, hl, hm, hz, _, hcell, hw⟩
  · simp [Value.cells] at hcs
    obtain ⟨rfl, rfl, rfl⟩ := hcs
    exact ⟨[], rfl, Nat.le_refl _, Nat.zero_le _, by simp, fun h => absurd h (by omega)⟩
  · simp [Value.cells] at hcs
    obtain ⟨rfl, rfl, rfl⟩ := hcs
    have hlz : n ≤ zs.length := by rw [hz]; split <;> omega
    refine ⟨zs.take n, by simp; omega, hl, hm, fun z hz' => hw z (List.mem_of_mem_take hz'), fun hn => ?_⟩
    obtain ⟨b, off, spot⟩ := a
    have h0 := hcell 0 (by omega)
    have hspot : spot = none := by simpa [Addr.add] using World.cell?_spot h0
    subst hspot
    refine ⟨b, off, rfl, by have := World.block_lt_of_cell? _ _ h0; simpa [Addr.add] using this, fun i hi => ?_⟩
    have h1 := hcell i (by omega)
    rw [add_none] at h1
    rw [h1]
    congr 2
    simp [List.getD, hi]

/-- The cells of element i. -/
theorem row_cells {t e : TypeId} {k : Nat} {A : Option Addr} {n c : Nat} (ht : P.underlying t = some (.slice e)) (hC : P.cellsOf e = k)
    (h : DataW.Trod enc P w base spare held t (.slice A n c) d p) (hk : 0 < k) :
    n ≤ c ∧ c ≤ maxLen ∧ (0 < n → ∃ b off, A = some ⟨b, off, none⟩ ∧ b < w.heap.size ∧
      ∀ i, i < n → ∃ (cs : List Value) (f : Nat) (x : DataW H × List MemPlace), cs.length = k ∧ (∀ j, j < k → w.cell? ⟨b, off + (i * k + j), none⟩ = cs[j]?) ∧ DataW.trod enc P w base spare held f e cs = some x) := by
  obtain ⟨fuel, hf⟩ := h
  rcases open_slice ht hf with ⟨hcs, _⟩ | ⟨a, len, cap, m, f, D, Pl, hcs, _, hl, hm, hmm, _, hi⟩
  · simp [Value.cells] at hcs
    obtain ⟨rfl, rfl, rfl⟩ := hcs
    exact ⟨Nat.le_refl _, Nat.zero_le _, fun h => absurd h (by omega)⟩
  · simp [Value.cells] at hcs
    obtain ⟨rfl, rfl, rfl⟩ := hcs
    have hnm : n ≤ m := by rw [hmm]; split <;> omega
    refine ⟨hl, hm, fun hn => ?_⟩
    have hcell : ∀ i, i < n → ∃ cs', cs'.length = k ∧ (∀ j, j < k → w.cell? ((a.add (i * k)).add j) = cs'[j]?) ∧ DataW.trod enc P w base spare held f e cs' = some (D i, Pl i) := by
      intro i hin
      obtain ⟨cs', hc1, hc2⟩ := hi i (by omega)
      rw [hC] at hc1
      obtain ⟨_, hcl, hat⟩ := World.cells?_some hc1
      exact ⟨cs', hcl, hat, hc2⟩
    obtain ⟨b, off, spot⟩ := a
    obtain ⟨c0, hl0, ha0, _⟩ := hcell 0 hn
    have h0 := ha0 0 hk
    rw [List.getElem?_eq_getElem (by omega)] at h0
    have hspot : spot = none := by simpa [Addr.add] using World.cell?_spot h0
    subst hspot
    refine ⟨b, off, rfl, by have := World.block_lt_of_cell? _ _ h0; simpa [Addr.add] using this, fun i hin => ?_⟩
    obtain ⟨cs', hcl, hat, htr⟩ := hcell i hin
    refine ⟨cs', f, _, hcl, fun j hj => ?_, htr⟩
    have := hat j hj
    rw [add_none, add_none, Nat.add_assoc] at this
    exact this

/-- A field of one cell. -/
theorem field_of {e : TypeId} {fs : Array Field} {cs : List Value} {f : Nat} {x : DataW H × List MemPlace} (he : P.underlying e = some (.struct fs)) (hone : oneCellFields P fs = true)
    (h : DataW.trod enc P w base spare held f e cs = some x) (j : Nat) (fl : Field) (hj : fs[j]? = some fl) :
    ∃ (v : Value) (y : DataW H × List MemPlace) (g : Nat), (j < cs.length → cs[j]? = some v) ∧ DataW.trod enc P w base spare held g fl.type ((cs.drop j).take 1) = some y ∧ (j < cs.length → (cs.drop j).take 1 = [v]) := by
  obtain ⟨ys, g, _, _, _, hyl, hf⟩ := DataW.trod_struct he h
  obtain ⟨ho, hk⟩ := hone_of hone j fl hj
  have hjl : j < fs.size := (Array.getElem?_eq_some_iff.1 hj).1
  have h1 := hf j fl hj
  rw [ho, hk, List.getElem?_eq_getElem (by omega)] at h1
  by_cases hlt : j < cs.length
  · refine ⟨cs[j], _, g, fun _ => List.getElem?_eq_getElem hlt, h1, fun _ => ?_⟩
    rw [List.drop_eq_getElem_cons hlt]
    rfl
  · exact ⟨undef, _, g, fun h => absurd h hlt, h1, fun h => absurd h hlt⟩

theorem field_int {e : TypeId} {fs : Array Field} {cs : List Value} {f : Nat} {x : DataW H × List MemPlace} (he : P.underlying e = some (.struct fs)) (hone : oneCellFields P fs = true)
    (h : DataW.trod enc P w base spare held f e cs = some x) (j : Nat) (fl : Field) (hj : fs[j]? = some fl) (hlt : j < cs.length) (hi : P.underlying fl.type = some (.int .i64)) :
    ∃ n, cs[j]? = some (.int .i64 n) ∧ I64 n := by
  obtain ⟨v, y, g, hv, ht, h1⟩ := field_of he hone h j fl hj
  rw [h1 hlt] at ht
  obtain ⟨n, e1, _, hw⟩ := DataW.trod_int hi ht
  simp only [List.cons.injEq, and_true] at e1
  exact ⟨n, by rw [hv hlt, e1], i64_of hw⟩
theorem field_string {e : TypeId} {fs : Array Field} {cs : List Value} {f : Nat} {x : DataW H × List MemPlace} (he : P.underlying e = some (.struct fs)) (hone : oneCellFields P fs = true)
    (h : DataW.trod enc P w base spare held f e cs = some x) (j : Nat) (fl : Field) (hj : fs[j]? = some fl) (hlt : j < cs.length) (hi : P.underlying fl.type = some .string) :
    ∃ s : ByteArray, cs[j]? = some (.string s) ∧ s.size ≤ maxLen := by
  obtain ⟨v, y, g, hv, ht, h1⟩ := field_of he hone h j fl hj
  rw [h1 hlt] at ht
  obtain ⟨n, e1, _, hw⟩ := DataW.trod_string hi ht
  simp only [List.cons.injEq, and_true] at e1
  exact ⟨n, by rw [hv hlt, e1], hw⟩

/-- Elements one by one: the whole slice. -/
theorem argRow_of {α : Type} {en : α → List Value} {wf : α → Prop} {t e : TypeId} {k : Nat} {A : Option Addr} {n c : Nat} (ht : P.underlying t = some (.slice e)) (hC : P.cellsOf e = k) (hk : 0 < k)
    (h : DataW.Trod enc P w base spare held t (.slice A n c) d p)
    (hel : ∀ (cs : List Value) (f : Nat) (x : DataW H × List MemPlace), cs.length = k → DataW.trod enc P w base spare held f e cs = some x → ∃ z : α, wf z ∧ en z = cs) :
    ∃ zs, ArgRow en wf k w A n c zs := by
  obtain ⟨h1, h2, h3⟩ := row_cells ht hC h hk
  rcases Nat.eq_zero_or_pos n with h0 | h0
  · subst h0
    exact ⟨[], rfl, h1, h2, by simp, fun h => absurd h (by omega)⟩
  obtain ⟨b, off, rfl, hb, hi⟩ := h3 h0
  obtain ⟨zs, hl, hz⟩ := list_of (Q := fun i (z : α) => wf z ∧ ∀ j v, (en z)[j]? = some v → w.cell? ⟨b, off + (i * k + j), none⟩ = some v) n (fun i hin => by
    obtain ⟨cs, f, x, hcl, hat, htr⟩ := hi i hin
    obtain ⟨z, hw, hez⟩ := hel cs f x hcl htr
    refine ⟨z, hw, fun j v hv => ?_⟩
    rw [hez] at hv
    have hjl : j < cs.length := (List.getElem?_eq_some_iff.1 hv).1
    rw [hat j (by omega), hv])
  refine ⟨zs, hl, h1, h2, fun z hm => ?_, fun _ => ⟨b, off, rfl, hb, fun i z hiz => (hz i z hiz).2⟩⟩
  obtain ⟨i, hi'⟩ := List.getElem?_of_mem hm
  exact (hz i z hi').1

theorem four_of {v0 v1 v2 v3 : Value} {cs : List Value} (h : cs.length = 4) (e0 : cs[0]? = some v0) (e1 : cs[1]? = some v1) (e2 : cs[2]? = some v2) (e3 : cs[3]? = some v3) : cs = [v0, v1, v2, v3] := by
  match cs, h with
  | [a, b, c, d], _ => simp at e0 e1 e2 e3; subst e0 e1 e2 e3; rfl
theorem five_of {v0 v1 v2 v3 v4 : Value} {cs : List Value} (h : cs.length = 5) (e0 : cs[0]? = some v0) (e1 : cs[1]? = some v1) (e2 : cs[2]? = some v2) (e3 : cs[3]? = some v3) (e4 : cs[4]? = some v4) : cs = [v0, v1, v2, v3, v4] := by
  match cs, h with
  | [a, b, c, d, e], _ => simp at e0 e1 e2 e3 e4; subst e0 e1 e2 e3 e4; rfl
theorem two_of {v0 v1 : Value} {cs : List Value} (h : cs.length = 2) (e0 : cs[0]? = some v0) (e1 : cs[1]? = some v1) : cs = [v0, v1] := by
  match cs, h with
  | [a, b], _ => simp at e0 e1; subst e0 e1; rfl

theorem argMoulds_of {t e : TypeId} {fs : Array Field} {f0 f1 f2 f3 : Field} {A : Option Addr} {n c : Nat} (ht : P.underlying t = some (.slice e)) (he : P.underlying e = some (.struct fs)) (hone : oneCellFields P fs = true) (hC : P.cellsOf e = 4)
    (j0 : fs[0]? = some f0) (j1 : fs[1]? = some f1) (j2 : fs[2]? = some f2) (j3 : fs[3]? = some f3)
    (i0 : P.underlying f0.type = some (.int .i64)) (i1 : P.underlying f1.type = some (.int .i64)) (i2 : P.underlying f2.type = some (.int .i64)) (i3 : P.underlying f3.type = some (.int .i64))
    (h : DataW.Trod enc P w base spare held t (.slice A n c) d p) : ∃ zs, ArgRow Mould.enc Mould.Wf 4 w A n c zs :=
  argRow_of ht hC (by omega) h (fun cs f x hl htr => by
    obtain ⟨n0, e0, w0⟩ := field_int he hone htr 0 f0 j0 (by omega) i0
    obtain ⟨n1, e1, w1⟩ := field_int he hone htr 1 f1 j1 (by omega) i1
    obtain ⟨n2, e2, w2⟩ := field_int he hone htr 2 f2 j2 (by omega) i2
    obtain ⟨n3, e3, w3⟩ := field_int he hone htr 3 f3 j3 (by omega) i3
    exact ⟨⟨n0, n1, n2, n3⟩, ⟨w0, w1, w2, w3⟩, (four_of hl e0 e1 e2 e3).symm⟩)
theorem argClays_of {t e : TypeId} {fs : Array Field} {f0 f1 f2 f3 f4 : Field} {A : Option Addr} {n c : Nat} (ht : P.underlying t = some (.slice e)) (he : P.underlying e = some (.struct fs)) (hone : oneCellFields P fs = true) (hC : P.cellsOf e = 5)
    (j0 : fs[0]? = some f0) (j1 : fs[1]? = some f1) (j2 : fs[2]? = some f2) (j3 : fs[3]? = some f3) (j4 : fs[4]? = some f4)
    (i0 : P.underlying f0.type = some .string) (i1 : P.underlying f1.type = some (.int .i64)) (i2 : P.underlying f2.type = some (.int .i64)) (i3 : P.underlying f3.type = some (.int .i64)) (i4 : P.underlying f4.type = some (.int .i64))
    (h : DataW.Trod enc P w base spare held t (.slice A n c) d p) : ∃ zs, ArgRow Clay.enc Clay.Wf 5 w A n c zs :=
  argRow_of ht hC (by omega) h (fun cs f x hl htr => by
    obtain ⟨n0, e0, w0⟩ := field_string he hone htr 0 f0 j0 (by omega) i0
    obtain ⟨n1, e1, w1⟩ := field_int he hone htr 1 f1 j1 (by omega) i1
    obtain ⟨n2, e2, w2⟩ := field_int he hone htr 2 f2 j2 (by omega) i2
    obtain ⟨n3, e3, w3⟩ := field_int he hone htr 3 f3 j3 (by omega) i3
    obtain ⟨n4, e4, w4⟩ := field_int he hone htr 4 f4 j4 (by omega) i4
    exact ⟨⟨n0, n1, n2, n3, n4⟩, ⟨w0, w1, w2, w3, w4⟩, (five_of hl e0 e1 e2 e3 e4).symm⟩)
theorem argCourses_of {t e : TypeId} {fs : Array Field} {f0 f1 : Field} {A : Option Addr} {n c : Nat} (ht : P.underlying t = some (.slice e)) (he : P.underlying e = some (.struct fs)) (hone : oneCellFields P fs = true) (hC : P.cellsOf e = 2)
    (j0 : fs[0]? = some f0) (j1 : fs[1]? = some f1) (i0 : P.underlying f0.type = some .string) (i1 : P.underlying f1.type = some .string)
    (h : DataW.Trod enc P w base spare held t (.slice A n c) d p) : ∃ zs, ArgRow Course.enc Course.Wf 2 w A n c zs :=
  argRow_of ht hC (by omega) h (fun cs f x hl htr => by
    obtain ⟨n0, e0, w0⟩ := field_string he hone htr 0 f0 j0 (by omega) i0
    obtain ⟨n1, e1, w1⟩ := field_string he hone htr 1 f1 j1 (by omega) i1
    exact ⟨⟨n0, n1⟩, ⟨w0, w1⟩, (two_of hl e0 e1).symm⟩)
end
end Go.Proofs.YtfjdhjbfingofaaGreatDoor

/-
  What is proved: slices of structs in memory, as plain lists: what reads, what the call owns, what a store does. No program in sight. No conditions.
-/
namespace Go.Proofs.YtfjdhjbfingofaaGreatDoor
open Go.RowKit
set_option linter.unusedVariables false

/-- The cells of a list of structs. -/
def flat {α : Type} (enc : α → List Value) (xs : List α) : List Value := xs.flatMap enc
section
variable {α : Type} {enc : α → List Value} {k : Nat}
theorem flat_length (hk : ∀ x, (enc x).length = k) : ∀ xs : List α, (flat enc xs).length = xs.length * k
  | [] => by simp [flat]
  | x :: xs => by
    have := flat_length hk xs
    simp only [flat, List.flatMap_cons, List.length_append, List.length_cons] at this ⊢
    rw [this, hk, Nat.add_mul]
    omega
theorem flat_append (xs ys : List α) : flat enc (xs ++ ys) = flat enc xs ++ flat enc ys := by simp [flat]
theorem flat_at (hk : ∀ x, (enc x).length = k) : ∀ (xs : List α) (i j : Nat) (x : α), xs[i]? = some x → j < k → (flat enc xs)[i * k + j]? = (enc x)[j]?
  | [], i, j, x, h, _ => by simp at h
  | y :: ys, 0, j, x, h, hj => by
    simp only [List.getElem?_cons_zero, Option.some.injEq] at h
    subst h
    simp only [flat, List.flatMap_cons, Nat.zero_mul, Nat.zero_add]
    rw [List.getElem?_append_left (by rw [hk]; exact hj)]
  | y :: ys, i + 1, j, x, h, hj => by
    have ih := flat_at hk ys i j x (by simpa using h) hj
    simp only [flat, List.flatMap_cons] at ih ⊢
    rw [List.getElem?_append_right (by rw [hk, Nat.add_mul]; omega), hk]
    rw [show (i + 1) * k + j - k = i * k + j from by rw [Nat.add_mul]; omega]
    exact ih
theorem flat_take_succ (xs : List α) (i : Nat) (x : α) (h : xs[i]? = some x) : flat enc (xs.take (i + 1)) = flat enc (xs.take i) ++ enc x := by
  obtain ⟨hi, rfl⟩ := List.getElem?_eq_some_iff.1 h
  rw [List.take_succ_eq_append_getElem hi, flat_append]
  simp [flat]
end

/-- One element more of a copy that is being filled. -/
theorem fill_step {α : Type} {enc : α → List Value} {k : Nat} (hk : ∀ x, (enc x).length = k) (xs : List α) (i : Nat) (x : α) (Z : List Value) (h : xs[i]? = some x) :
    (flat enc (xs.take i) ++ Z).take (i * k) ++ enc x ++ (flat enc (xs.take i) ++ Z).drop (i * k + k) = flat enc (xs.take (i + 1)) ++ Z.drop k := by
  have hi : i < xs.length := (List.getElem?_eq_some_iff.1 h).1
  have hl : (flat enc (xs.take i)).length = i * k := by rw [flat_length hk]; simp; rw [Nat.min_eq_left (by omega)]
  rw [flat_take_succ xs i x h]
  congr 1
  · rw [List.take_append_of_le_length (by omega), List.take_of_length_le (by omega)]
  · rw [List.drop_append, List.drop_of_length_le (by omega), hl, List.nil_append, show i * k + k - i * k = k from by omega]

/-- A slice that reads as a list of structs of k cells. -/
def Row {α : Type} (enc : α → List Value) (k : Nat) (w : World) (A : Option Addr) (xs : List α) : Prop :=
  0 < xs.length → ∃ b off, A = some ⟨b, off, none⟩ ∧ b < w.heap.size ∧ ∀ i x, xs[i]? = some x → ∀ j v, (enc x)[j]? = some v → w.cell? ⟨b, off + (i * k + j), none⟩ = some v
section
variable {α : Type} {enc : α → List Value} {k : Nat} {w w' : World} {A : Option Addr} {xs : List α}
theorem Row.nil : Row enc k w A ([] : List α) := fun h => absurd h (by simp)
theorem Row.of_arg {wf : α → Prop} {n c : Nat} (h : ArgRow enc wf k w A n c xs) : Row enc k w A xs := fun hn => h.2.2.2.2 (by rw [← h.1]; exact hn)
theorem Row.below (h : Row enc k w A xs) (hb : Below w.heap.size w w') : Row enc k w' A xs := fun hn => by
  obtain ⟨b, off, e, hlt, hc⟩ := h hn
  exact ⟨b, off, e, Nat.lt_of_lt_of_le hlt hb.size, fun i x hi j v hv => (hb.cell (p := ⟨b, off + (i * k + j), none⟩) hlt).trans (hc i x hi j v hv)⟩
theorem Row.drewN (h : Row enc k w A xs) (m : Nat) : Row enc k (w.drewN m) A xs := h
/-- It lies in old memory. -/
theorem Row.lt (h : Row enc k w A xs) (hn : 0 < xs.length) : ∀ a, A = some a → a.block < w.heap.size := by
  intro a ha
  obtain ⟨b, off, e, hlt, _⟩ := h hn
  rw [e] at ha
  obtain rfl := Option.some.inj ha
  exact hlt
theorem Row.grown {row : Option Nat} (h : Row enc k w A xs) (hg : w.grownBy w' row) (hne : ∀ a g, A = some a → row = some g → a.block ≠ g) : Row enc k w' A xs := fun hn => by
  obtain ⟨b, off, e, hlt, hc⟩ := h hn
  have hbl : w'.heap[b]? = w.heap[b]? := hg.block b hlt (fun er => hne _ b e er.symm rfl)
  exact ⟨b, off, e, Nat.lt_of_lt_of_le hlt hg.size, fun i x hi j v hv => (World.cell?_of_block (w := w) (a := ⟨b, off + (i * k + j), none⟩) hbl).trans (hc i x hi j v hv)⟩
/-- What the call owns reads. -/
theorem Row.of_own {base : Nat} {t : TypeId} {n c : Nat} (hk : ∀ x, (enc x).length = k) (hl : xs.length = n) (h : w.ownsRow base t k (.slice A n c) n (flat enc xs)) : Row enc k w A xs := fun hn => by
  rcases h.2 with ⟨hv, h0⟩ | ⟨g, cap, cur, hv, hb, hg, hnc, hcm, hsz, htk⟩
  · omega
  · injection hv with hA _ hc
    subst hA
    subst hc
    have hlt : g < w.heap.size := (Array.getElem?_eq_some_iff.1 hg).1
    refine ⟨g, 0, rfl, hlt, fun i x hi j v hv => ?_⟩
    have hjk : j < k := by
      have := (List.getElem?_eq_some_iff.1 hv).1
      rwa [hk] at this
    have hil : i < n := by rw [← hl]; exact (List.getElem?_eq_some_iff.1 hi).1
    have hlt2 : i * k + j < n * k := by
      have : (i + 1) * k ≤ n * k := Nat.mul_le_mul_right k hil
      rw [Nat.add_mul] at this
      omega
    rw [Nat.zero_add, h.cellAt _ hlt2, flat_at hk xs i j x hi hjk, hv]
end

/-- Four cells stored one behind the other. -/
theorem set_four (L : List Value) (p : Nat) (a b c d : Value) (h : p + 4 ≤ L.length) :
    (((L.set p a).set (p + 1) b).set (p + 2) c).set (p + 3) d = L.take p ++ [a, b, c, d] ++ L.drop (p + 4) := by
  apply List.ext_getElem?
  intro i
  simp only [List.getElem?_set, List.length_set]
  rcases Nat.lt_or_ge i p with h1 | h1
  · rw [if_neg (by omega), if_neg (by omega), if_neg (by omega), if_neg (by omega), List.append_assoc, List.getElem?_append_left (by simp; omega), List.getElem?_take_of_lt h1]
  · rw [List.append_assoc, List.getElem?_append_right (by simp; omega)]
    have hl : (L.take p).length = p := by simp; omega
    rw [hl]
    rcases Nat.lt_or_ge i (p + 4) with h2 | h2
    · have h3 : i = p ∨ i = p + 1 ∨ i = p + 2 ∨ i = p + 3 := by omega
      rcases h3 with rfl | rfl | rfl | rfl
      · rw [if_neg (by omega), if_neg (by omega), if_neg (by omega), if_pos rfl, if_pos (by omega)]
        simp
      · rw [if_neg (by omega), if_neg (by omega), if_pos rfl, if_pos (by omega), show p + 1 - p = 1 from by omega]
        rfl
      · rw [if_neg (by omega), if_pos rfl, if_pos (by omega), show p + 2 - p = 2 from by omega]
        rfl
      · rw [if_pos rfl, if_pos (by omega), show p + 3 - p = 3 from by omega]
        rfl
    · rw [if_neg (by omega), if_neg (by omega), if_neg (by omega), if_neg (by omega), List.getElem?_append_right (by simp; omega), List.getElem?_drop]
      congr 1
      simp
      omega
end Go.Proofs.YtfjdhjbfingofaaGreatDoor

/-
  What is proved: an element of a slice of structs, cell by cell, in the walk's own spelling; a struct stored into an element. No program in sight. No conditions.
-/
namespace Go.Proofs.YtfjdhjbfingofaaGreatDoor
open Go.RowKit
set_option linter.unusedVariables false

theorem int_eq {a b : Int} (h : a = b) : Value.int .i64 a = .int .i64 b := by rw [h]
theorem grown_trans {a b c : World} {row : Option Nat} (h : a.grownBy b row) (k : b.grownBy c row) : a.grownBy c row :=
  ⟨k.os.trans h.os, k.tape.trans h.tape, k.output.trans h.output, Nat.le_trans h.size k.size, fun i hi hn => (k.block i (Nat.lt_of_lt_of_le hi h.size) hn).trans (h.block i hi hn)⟩
theorem grown_of_below {a b : World} {row : Option Nat} (h : Below a.heap.size a b) : a.grownBy b row := ⟨h.os, h.tape, h.output, h.size, fun i hi _ => h.block i hi⟩
theorem grown_below {a b : World} {g B : Nat} (h : a.grownBy b (some g)) (hg : B ≤ g) (hB : B ≤ a.heap.size) : Below B a b := (Below.refl _ _).grown h hB (fun k e => by injection e with e; omega)
theorem own_below {w w' : World} {base size n : Nat} {t : TypeId} {v : Value} {xs : List Value} (h : w.ownsRow base t size v n xs) (hb : Below w.heap.size w w') : w'.ownsRow base t size v n xs :=
  h.kept (row := none) (grown_of_below hb) (by cases v.ownBlock <;> simp)
theorem own_lt {w : World} {base size n c g : Nat} {t : TypeId} {xs : List Value} (h : w.ownsRow base t size (.slice (some ⟨g, 0, none⟩) n c) n xs) : base ≤ g ∧ g < w.heap.size := h.lt g rfl
theorem Row.at_ {α : Type} {enc : α → List Value} {k : Nat} {w : World} {A : Option Addr} {xs : List α} {i : Nat} {x : α} (h : Row enc k w A xs) (hi : xs[i]? = some x) :
    ∃ b off, A = some ⟨b, off, none⟩ ∧ b < w.heap.size ∧ ∀ j v, (enc x)[j]? = some v → w.cell? ⟨b, off + (i * k + j), none⟩ = some v := by
  obtain ⟨b, off, e, hlt, hc⟩ := h (by have := (List.getElem?_eq_some_iff.1 hi).1; omega)
  exact ⟨b, off, e, hlt, fun j v hv => hc i x hi j v hv⟩

theorem set_1 (L : List Value) (p : Nat) (v0 : Value) (h : p + 1 ≤ L.length) : L.set p v0 = L.take p ++ [v0] ++ L.drop (p + 1) := by
  rw [List.set_eq_take_append_cons_drop, if_pos (by omega)]
  simp
theorem row_at_1 {α : Type} {enc : α → List Value} {w : World} {A : Option Addr} {xs : List α} {i : Nat} {x : α} {v0 : Value} (h : Row enc 1 w A xs) (hi : xs[i]? = some x) (he : enc x = [v0]) :
    ∃ b off, A = some ⟨b, off, none⟩ ∧ b < w.heap.size ∧ w.cell? ⟨b, off + i, none⟩ = some v0 := by
  obtain ⟨b, off, e, hlt, hc⟩ := h.at_ hi
  rw [he] at hc
  refine ⟨b, off, e, hlt, ?_⟩
  · have := hc 0 v0 rfl
    simpa [Nat.add_assoc] using this
theorem own_at_1 {w : World} {base n c g i : Nat} {t : TypeId} {L : List Value} (h : w.ownsRow base t 1 (.slice (some ⟨g, 0, none⟩) n c) n L) (hi : i < n) :
    ∃ v0, w.cell? ⟨g, i, none⟩ = some v0 ∧ w.frozen? ⟨g, i, none⟩ = false := by
  have hl := h.1
  have hm : (i + 1) * 1 ≤ n * 1 := Nat.mul_le_mul_right 1 hi
  refine ⟨L[i]'(by omega), ?_, h.frozenAt _⟩
  · rw [h.cellAt (i) (by omega), List.getElem?_eq_getElem (by omega)]
theorem own_store_1 {w : World} {base n c g i : Nat} {t : TypeId} {L : List Value} (v0 : Value) (h : w.ownsRow base t 1 (.slice (some ⟨g, 0, none⟩) n c) n L) (hi : i < n) :
    World.ownsRow (w.setCell ⟨g, i, none⟩ v0) base t 1 (.slice (some ⟨g, 0, none⟩) n c) n (L.take (i) ++ [v0] ++ L.drop (i + 1)) ∧ w.grownBy (w.setCell ⟨g, i, none⟩ v0) (some g) := by
  have hl := h.1
  have hm : (i + 1) * 1 ≤ n * 1 := Nat.mul_le_mul_right 1 hi
  rw [← set_1 L (i) v0 (by omega)]
  have s0 := h.stored (i) v0
  exact ⟨s0.1, s0.2⟩

theorem set_2 (L : List Value) (p : Nat) (v0 v1 : Value) (h : p + 2 ≤ L.length) :
    ((L.set p v0).set (p + 1) v1) = L.take p ++ [v0, v1] ++ L.drop (p + 2) := by
  apply List.ext_getElem?
  intro i
  simp only [List.getElem?_set, List.length_set]
  rcases Nat.lt_or_ge i p with h1 | h1
  · rw [if_neg (by omega), if_neg (by omega), List.append_assoc, List.getElem?_append_left (by simp; omega), List.getElem?_take_of_lt h1]
  · rw [List.append_assoc, List.getElem?_append_right (by simp; omega)]
    have hl : (L.take p).length = p := by simp; omega
    rw [hl]
    rcases Nat.lt_or_ge i (p + 2) with h2 | h2
    · have h3 : i = p ∨ i = p + 1 := by omega
      rcases h3 with rfl | rfl
      · rw [if_neg (by omega), if_pos rfl, if_pos (by omega)]
        simp
      · rw [if_pos rfl, if_pos (by omega), show p + 1 - p = 1 from by omega]
        rfl
    · rw [if_neg (by omega), if_neg (by omega), List.getElem?_append_right (by simp; omega), List.getElem?_drop]
      congr 1
      simp
      omega
theorem row_at_2 {α : Type} {enc : α → List Value} {w : World} {A : Option Addr} {xs : List α} {i : Nat} {x : α} {v0 v1 : Value} (h : Row enc 2 w A xs) (hi : xs[i]? = some x) (he : enc x = [v0, v1]) :
    ∃ b off, A = some ⟨b, off, none⟩ ∧ b < w.heap.size ∧ w.cell? ⟨b, off + i * 2, none⟩ = some v0 ∧ w.cell? ⟨b, off + i * 2 + 1, none⟩ = some v1 := by
  obtain ⟨b, off, e, hlt, hc⟩ := h.at_ hi
  rw [he] at hc
  refine ⟨b, off, e, hlt, ?_, ?_⟩
  · have := hc 0 v0 rfl
    simpa [Nat.add_assoc] using this
  · have := hc 1 v1 rfl
    simpa [Nat.add_assoc] using this
theorem own_at_2 {w : World} {base n c g i : Nat} {t : TypeId} {L : List Value} (h : w.ownsRow base t 2 (.slice (some ⟨g, 0, none⟩) n c) n L) (hi : i < n) :
    ∃ v0 v1, w.cell? ⟨g, i * 2, none⟩ = some v0 ∧ w.cell? ⟨g, i * 2 + 1, none⟩ = some v1 ∧ w.frozen? ⟨g, i * 2, none⟩ = false ∧ w.frozen? ⟨g, i * 2 + 1, none⟩ = false := by
  have hl := h.1
  have hm : (i + 1) * 2 ≤ n * 2 := Nat.mul_le_mul_right 2 hi
  refine ⟨L[i * 2]'(by omega), L[i * 2 + 1]'(by omega), ?_, ?_, h.frozenAt _, h.frozenAt _⟩
  · rw [h.cellAt (i * 2) (by omega), List.getElem?_eq_getElem (by omega)]
  · rw [h.cellAt (i * 2 + 1) (by omega), List.getElem?_eq_getElem (by omega)]
theorem own_store_2 {w : World} {base n c g i : Nat} {t : TypeId} {L : List Value} (v0 v1 : Value) (h : w.ownsRow base t 2 (.slice (some ⟨g, 0, none⟩) n c) n L) (hi : i < n) :
    World.ownsRow ((w.setCell ⟨g, i * 2, none⟩ v0).setCell ⟨g, i * 2 + 1, none⟩ v1) base t 2 (.slice (some ⟨g, 0, none⟩) n c) n (L.take (i * 2) ++ [v0, v1] ++ L.drop (i * 2 + 2)) ∧ w.grownBy ((w.setCell ⟨g, i * 2, none⟩ v0).setCell ⟨g, i * 2 + 1, none⟩ v1) (some g) := by
  have hl := h.1
  have hm : (i + 1) * 2 ≤ n * 2 := Nat.mul_le_mul_right 2 hi
  rw [← set_2 L (i * 2) v0 v1 (by omega)]
  have s0 := h.stored (i * 2) v0
  have s1 := s0.1.stored (i * 2 + 1) v1
  exact ⟨s1.1, grown_trans (s0.2) s1.2⟩

theorem row_at_4 {α : Type} {enc : α → List Value} {w : World} {A : Option Addr} {xs : List α} {i : Nat} {x : α} {v0 v1 v2 v3 : Value} (h : Row enc 4 w A xs) (hi : xs[i]? = some x) (he : enc x = [v0, v1, v2, v3]) :
    ∃ b off, A = some ⟨b, off, none⟩ ∧ b < w.heap.size ∧ w.cell? ⟨b, off + i * 4, none⟩ = some v0 ∧ w.cell? ⟨b, off + i * 4 + 1, none⟩ = some v1 ∧ w.cell? ⟨b, off + i * 4 + 2, none⟩ = some v2 ∧ w.cell? ⟨b, off + i * 4 + 3, none⟩ = some v3 := by
  obtain ⟨b, off, e, hlt, hc⟩ := h.at_ hi
  rw [he] at hc
  refine ⟨b, off, e, hlt, ?_, ?_, ?_, ?_⟩
  · have := hc 0 v0 rfl
    simpa [Nat.add_assoc] using this
  · have := hc 1 v1 rfl
    simpa [Nat.add_assoc] using this
  · have := hc 2 v2 rfl
    simpa [Nat.add_assoc] using this
  · have := hc 3 v3 rfl
    simpa [Nat.add_assoc] using this
theorem own_at_4 {w : World} {base n c g i : Nat} {t : TypeId} {L : List Value} (h : w.ownsRow base t 4 (.slice (some ⟨g, 0, none⟩) n c) n L) (hi : i < n) :
    ∃ v0 v1 v2 v3, w.cell? ⟨g, i * 4, none⟩ = some v0 ∧ w.cell? ⟨g, i * 4 + 1, none⟩ = some v1 ∧ w.cell? ⟨g, i * 4 + 2, none⟩ = some v2 ∧ w.cell? ⟨g, i * 4 + 3, none⟩ = some v3 ∧ w.frozen? ⟨g, i * 4, none⟩ = false ∧ w.frozen? ⟨g, i * 4 + 1, none⟩ = false ∧ w.frozen? ⟨g, i * 4 + 2, none⟩ = false ∧ w.frozen? ⟨g, i * 4 + 3, none⟩ = false := by
  have hl := h.1
  have hm : (i + 1) * 4 ≤ n * 4 := Nat.mul_le_mul_right 4 hi
  refine ⟨L[i * 4]'(by omega), L[i * 4 + 1]'(by omega), L[i * 4 + 2]'(by omega), L[i * 4 + 3]'(by omega), ?_, ?_, ?_, ?_, h.frozenAt _, h.frozenAt _, h.frozenAt _, h.frozenAt _⟩
  · rw [h.cellAt (i * 4) (by omega), List.getElem?_eq_getElem (by omega)]
  · rw [h.cellAt (i * 4 + 1) (by omega), List.getElem?_eq_getElem (by omega)]
  · rw [h.cellAt (i * 4 + 2) (by omega), List.getElem?_eq_getElem (by omega)]
  · rw [h.cellAt (i * 4 + 3) (by omega), List.getElem?_eq_getElem (by omega)]
theorem own_store_4 {w : World} {base n c g i : Nat} {t : TypeId} {L : List Value} (v0 v1 v2 v3 : Value) (h : w.ownsRow base t 4 (.slice (some ⟨g, 0, none⟩) n c) n L) (hi : i < n) :
    World.ownsRow ((((w.setCell ⟨g, i * 4, none⟩ v0).setCell ⟨g, i * 4 + 1, none⟩ v1).setCell ⟨g, i * 4 + 2, none⟩ v2).setCell ⟨g, i * 4 + 3, none⟩ v3) base t 4 (.slice (some ⟨g, 0, none⟩) n c) n (L.take (i * 4) ++ [v0, v1, v2, v3] ++ L.drop (i * 4 + 4)) ∧ w.grownBy ((((w.setCell ⟨g, i * 4, none⟩ v0).setCell ⟨g, i * 4 + 1, none⟩ v1).setCell ⟨g, i * 4 + 2, none⟩ v2).setCell ⟨g, i * 4 + 3, none⟩ v3) (some g) := by
  have hl := h.1
  have hm : (i + 1) * 4 ≤ n * 4 := Nat.mul_le_mul_right 4 hi
  rw [← set_four L (i * 4) v0 v1 v2 v3 (by omega)]
  have s0 := h.stored (i * 4) v0
  have s1 := s0.1.stored (i * 4 + 1) v1
  have s2 := s1.1.stored (i * 4 + 2) v2
  have s3 := s2.1.stored (i * 4 + 3) v3
  exact ⟨s3.1, grown_trans (grown_trans (grown_trans (s0.2) s1.2) s2.2) s3.2⟩

theorem set_5 (L : List Value) (p : Nat) (v0 v1 v2 v3 v4 : Value) (h : p + 5 ≤ L.length) :
    (((((L.set p v0).set (p + 1) v1).set (p + 2) v2).set (p + 3) v3).set (p + 4) v4) = L.take p ++ [v0, v1, v2, v3, v4] ++ L.drop (p + 5) := by
  apply List.ext_getElem?
  intro i
  simp only [List.getElem?_set, List.length_set]
  rcases Nat.lt_or_ge i p with h1 | h1
  · rw [if_neg (by omega), if_neg (by omega), if_neg (by omega), if_neg (by omega), if_neg (by omega), List.append_assoc, List.getElem?_append_left (by simp; omega), List.getElem?_take_of_lt h1]
  · rw [List.append_assoc, List.getElem?_append_right (by simp; omega)]
    have hl : (L.take p).length = p := by simp; omega
    rw [hl]
    rcases Nat.lt_or_ge i (p + 5) with h2 | h2
    · have h3 : i = p ∨ i = p + 1 ∨ i = p + 2 ∨ i = p + 3 ∨ i = p + 4 := by omega
      rcases h3 with rfl | rfl | rfl | rfl | rfl
      · rw [if_neg (by omega), if_neg (by omega), if_neg (by omega), if_neg (by omega), if_pos rfl, if_pos (by omega)]
        simp
      · rw [if_neg (by omega), if_neg (by omega), if_neg (by omega), if_pos rfl, if_pos (by omega), show p + 1 - p = 1 from by omega]
        rfl
      · rw [if_neg (by omega), if_neg (by omega), if_pos rfl, if_pos (by omega), show p + 2 - p = 2 from by omega]
        rfl
      · rw [if_neg (by omega), if_pos rfl, if_pos (by omega), show p + 3 - p = 3 from by omega]
        rfl
      · rw [if_pos rfl, if_pos (by omega), show p + 4 - p = 4 from by omega]
        rfl
    · rw [if_neg (by omega), if_neg (by omega), if_neg (by omega), if_neg (by omega), if_neg (by omega), List.getElem?_append_right (by simp; omega), List.getElem?_drop]
      congr 1
      simp
      omega
theorem row_at_5 {α : Type} {enc : α → List Value} {w : World} {A : Option Addr} {xs : List α} {i : Nat} {x : α} {v0 v1 v2 v3 v4 : Value} (h : Row enc 5 w A xs) (hi : xs[i]? = some x) (he : enc x = [v0, v1, v2, v3, v4]) :
    ∃ b off, A = some ⟨b, off, none⟩ ∧ b < w.heap.size ∧ w.cell? ⟨b, off + i * 5, none⟩ = some v0 ∧ w.cell? ⟨b, off + i * 5 + 1, none⟩ = some v1 ∧ w.cell? ⟨b, off + i * 5 + 2, none⟩ = some v2 ∧ w.cell? ⟨b, off + i * 5 + 3, none⟩ = some v3 ∧ w.cell? ⟨b, off + i * 5 + 4, none⟩ = some v4 := by
  obtain ⟨b, off, e, hlt, hc⟩ := h.at_ hi
  rw [he] at hc
  refine ⟨b, off, e, hlt, ?_, ?_, ?_, ?_, ?_⟩
  · have := hc 0 v0 rfl
    simpa [Nat.add_assoc] using this
  · have := hc 1 v1 rfl
    simpa [Nat.add_assoc] using this
  · have := hc 2 v2 rfl
    simpa [Nat.add_assoc] using this
  · have := hc 3 v3 rfl
    simpa [Nat.add_assoc] using this
  · have := hc 4 v4 rfl
    simpa [Nat.add_assoc] using this
theorem own_at_5 {w : World} {base n c g i : Nat} {t : TypeId} {L : List Value} (h : w.ownsRow base t 5 (.slice (some ⟨g, 0, none⟩) n c) n L) (hi : i < n) :
    ∃ v0 v1 v2 v3 v4, w.cell? ⟨g, i * 5, none⟩ = some v0 ∧ w.cell? ⟨g, i * 5 + 1, none⟩ = some v1 ∧ w.cell? ⟨g, i * 5 + 2, none⟩ = some v2 ∧ w.cell? ⟨g, i * 5 + 3, none⟩ = some v3 ∧ w.cell? ⟨g, i * 5 + 4, none⟩ = some v4 ∧ w.frozen? ⟨g, i * 5, none⟩ = false ∧ w.frozen? ⟨g, i * 5 + 1, none⟩ = false ∧ w.frozen? ⟨g, i * 5 + 2, none⟩ = false ∧ w.frozen? ⟨g, i * 5 + 3, none⟩ = false ∧ w.frozen? ⟨g, i * 5 + 4, none⟩ = false := by
  have hl := h.1
  have hm : (i + 1) * 5 ≤ n * 5 := Nat.mul_le_mul_right 5 hi
  refine ⟨L[i * 5]'(by omega), L[i * 5 + 1]'(by omega), L[i * 5 + 2]'(by omega), L[i * 5 + 3]'(by omega), L[i * 5 + 4]'(by omega), ?_, ?_, ?_, ?_, ?_, h.frozenAt _, h.frozenAt _, h.frozenAt _, h.frozenAt _, h.frozenAt _⟩
  · rw [h.cellAt (i * 5) (by omega), List.getElem?_eq_getElem (by omega)]
  · rw [h.cellAt (i * 5 + 1) (by omega), List.getElem?_eq_getElem (by omega)]
  · rw [h.cellAt (i * 5 + 2) (by omega), List.getElem?_eq_getElem (by omega)]
  · rw [h.cellAt (i * 5 + 3) (by omega), List.getElem?_eq_getElem (by omega)]
  · rw [h.cellAt (i * 5 + 4) (by omega), List.getElem?_eq_getElem (by omega)]
theorem own_store_5 {w : World} {base n c g i : Nat} {t : TypeId} {L : List Value} (v0 v1 v2 v3 v4 : Value) (h : w.ownsRow base t 5 (.slice (some ⟨g, 0, none⟩) n c) n L) (hi : i < n) :
    World.ownsRow (((((w.setCell ⟨g, i * 5, none⟩ v0).setCell ⟨g, i * 5 + 1, none⟩ v1).setCell ⟨g, i * 5 + 2, none⟩ v2).setCell ⟨g, i * 5 + 3, none⟩ v3).setCell ⟨g, i * 5 + 4, none⟩ v4) base t 5 (.slice (some ⟨g, 0, none⟩) n c) n (L.take (i * 5) ++ [v0, v1, v2, v3, v4] ++ L.drop (i * 5 + 5)) ∧ w.grownBy (((((w.setCell ⟨g, i * 5, none⟩ v0).setCell ⟨g, i * 5 + 1, none⟩ v1).setCell ⟨g, i * 5 + 2, none⟩ v2).setCell ⟨g, i * 5 + 3, none⟩ v3).setCell ⟨g, i * 5 + 4, none⟩ v4) (some g) := by
  have hl := h.1
  have hm : (i + 1) * 5 ≤ n * 5 := Nat.mul_le_mul_right 5 hi
  rw [← set_5 L (i * 5) v0 v1 v2 v3 v4 (by omega)]
  have s0 := h.stored (i * 5) v0
  have s1 := s0.1.stored (i * 5 + 1) v1
  have s2 := s1.1.stored (i * 5 + 2) v2
  have s3 := s2.1.stored (i * 5 + 3) v3
  have s4 := s3.1.stored (i * 5 + 4) v4
  exact ⟨s4.1, grown_trans (grown_trans (grown_trans (grown_trans (s0.2) s1.2) s2.2) s3.2) s4.2⟩

end Go.Proofs.YtfjdhjbfingofaaGreatDoor

/-
  What is proved: lists that the call made, each in a range of blocks of its own; what touches one leaves the others. No program in sight. No conditions.
-/
namespace Go.Proofs.YtfjdhjbfingofaaGreatDoor
open Go.RowKit
set_option linter.unusedVariables false

/-- The slice (A, n, c) holds the list xs, in a block from lo on, below hi. -/
structure Own {α : Type} (t : TypeId) (k : Nat) (enc : α → List Value) (w : World) (lo hi : Nat) (A : Option Addr) (n c : Nat) (xs : List α) : Prop where
  len : xs.length = n
  own : w.ownsRow lo t k (.slice A n c) n (flat enc xs)
  up : ∀ a, A = some a → a.block < hi
  hi_le : hi ≤ w.heap.size
/-- Only blocks from lo on and below hi may have changed, and new blocks may have come. -/
structure Touch (lo hi : Nat) (w w' : World) : Prop where
  os : w'.os = w.os
  tape : w'.tape = w.tape
  output : w'.output = w.output
  size : w.heap.size ≤ w'.heap.size
  block : ∀ k, k < w.heap.size → k < lo ∨ hi ≤ k → w'.heap[k]? = w.heap[k]?
theorem Touch.refl (lo hi : Nat) (w : World) : Touch lo hi w w := ⟨rfl, rfl, rfl, Nat.le_refl _, fun _ _ _ => rfl⟩
theorem Touch.below {lo hi B : Nat} {w w' : World} (h : Touch lo hi w w') (h1 : B ≤ lo) (h2 : B ≤ w.heap.size) : Below B w w' :=
  ⟨h.os, h.tape, h.output, h.size, fun k hk => h.block k (by omega) (.inl (by omega))⟩
theorem Touch.of_grown {lo hi g : Nat} {w w' : World} (h : w.grownBy w' (some g)) (h1 : lo ≤ g) (h2 : g < hi) : Touch lo hi w w' :=
  ⟨h.os, h.tape, h.output, h.size, fun k hk hne => h.block k hk (by intro e; injection e with e; omega)⟩
section
variable {α : Type} {t : TypeId} {k : Nat} {enc : α → List Value} {w w' : World} {lo hi : Nat} {A : Option Addr} {n c : Nat} {xs : List α}
theorem Own.below (h : Own t k enc w lo hi A n c xs) (hb : Below w.heap.size w w') : Own t k enc w' lo hi A n c xs :=
  ⟨h.len, own_below h.own hb, h.up, Nat.le_trans h.hi_le hb.size⟩
theorem Own.row (hk : ∀ x, (enc x).length = k) (h : Own t k enc w lo hi A n c xs) : Row enc k w A xs := Row.of_own hk h.len h.own
theorem Own.touch {lo' hi' : Nat} (h : Own t k enc w lo hi A n c xs) (ht : Touch lo' hi' w w') (ha : hi ≤ lo' ∨ hi' ≤ lo) : Own t k enc w' lo hi A n c xs := by
  refine ⟨h.len, ⟨h.own.1, ?_⟩, h.up, Nat.le_trans h.hi_le ht.size⟩
  rcases h.own.2 with hv | ⟨g, cap, cur, hv, hb, hg, rest⟩
  · exact .inl hv
  · have hA : A = some ⟨g, 0, none⟩ := by injection hv
    have hup := h.up _ hA
    refine .inr ⟨g, cap, cur, hv, hb, ?_, rest⟩
    rw [ht.block g (Array.getElem?_eq_some_iff.1 hg).1 (by rcases ha with h1 | h1 <;> simp at hup <;> omega)]
    exact hg
theorem Own.nil (hlo : hi ≤ w.heap.size) : Own t k enc w lo hi none 0 0 ([] : List α) :=
  ⟨rfl, ⟨by simp [flat], .inl ⟨rfl, rfl⟩⟩, (fun a h => by cases h), hlo⟩
/-- Out of what the kit's laws leave. -/
theorem Own.of_row {v : Value} (hl : xs.length = n) (h : w.ownsRow lo t k v n (flat enc xs)) (hs : lo ≤ w.heap.size) : ∃ A c, v = .slice A n c ∧ Own t k enc w lo w.heap.size A n c xs := by
  rcases h.2 with ⟨rfl, h0⟩ | ⟨g, cap, cur, rfl, hb, hg, rest⟩
  · subst h0
    exact ⟨none, 0, rfl, hl, h, (fun a e => by cases e), Nat.le_refl _⟩
  · refine ⟨_, _, rfl, hl, h, fun a e => ?_, Nat.le_refl _⟩
    obtain rfl := Option.some.inj e
    exact (Array.getElem?_eq_some_iff.1 hg).1
/-- Where the list is empty or its head is a block of its own. -/
theorem Own.head (h : Own t k enc w lo hi A n c xs) : (A = none ∧ n = 0 ∧ c = 0) ∨ ∃ g, A = some ⟨g, 0, none⟩ ∧ lo ≤ g ∧ g < hi := by
  rcases h.own.2 with ⟨hv, h0⟩ | ⟨g, cap, cur, hv, hb, hg, rest⟩
  · injection hv with h1 h2 h3
    exact .inl ⟨h1, h2, h3⟩
  · have hA : A = some ⟨g, 0, none⟩ := by injection hv
    exact .inr ⟨g, hA, hb, h.up _ hA⟩
end
end Go.Proofs.YtfjdhjbfingofaaGreatDoor
