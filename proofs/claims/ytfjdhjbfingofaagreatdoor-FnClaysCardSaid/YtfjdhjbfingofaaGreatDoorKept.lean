/-
  What is proved: plain facts on cells that stay as they were while a call writes only above, and on what a reading gives. No program in sight. No conditions.
-/
import Derived.Test.YtfjdhjbfingofaaGreatDoorReadClayS4
import Derived.Test.YtfjdhjbfingofaaGreatDoorDrawC9
import Derived.Test.YtfjdhjbfingofaaGreatDoorMeans
namespace Go.Proofs.YtfjdhjbfingofaaGreatDoor
open Go.RowKit
set_option linter.unusedVariables false

/-- The block b holds two values, or five. -/
def Kept2 (b : Nat) (x y : Value) (u : World) : Prop := b < u.heap.size ∧ u.cell? ⟨b, 0, none⟩ = some x ∧ u.cell? ⟨b, 1, none⟩ = some y
def Kept5 (b : Nat) (x0 x1 x2 x3 x4 : Value) (u : World) : Prop := b < u.heap.size ∧ u.cell? ⟨b, 0, none⟩ = some x0 ∧ u.cell? ⟨b, 1, none⟩ = some x1 ∧ u.cell? ⟨b, 2, none⟩ = some x2 ∧ u.cell? ⟨b, 3, none⟩ = some x3 ∧ u.cell? ⟨b, 4, none⟩ = some x4
theorem Kept2.new (u : World) (x y : Value) (t : TypeId) : Kept2 u.heap.size x y (u.alloc (.cells #[x, y] t)) := by
  refine ⟨by simp, ?_, ?_⟩ <;> simp [go_sem]
theorem Kept5.new (u : World) (x0 x1 x2 x3 x4 : Value) (t : TypeId) : Kept5 u.heap.size x0 x1 x2 x3 x4 (u.alloc (.cells #[x0, x1, x2, x3, x4] t)) := by
  refine ⟨by simp, ?_, ?_, ?_, ?_, ?_⟩ <;> simp [go_sem]
theorem Kept2.below {b : Nat} {x y : Value} {u u' : World} (h : Kept2 b x y u) (hb : Below u.heap.size u u') : Kept2 b x y u' :=
  ⟨Nat.lt_of_lt_of_le h.1 hb.size, (hb.cell (p := ⟨b, 0, none⟩) h.1).trans h.2.1, (hb.cell (p := ⟨b, 1, none⟩) h.1).trans h.2.2⟩
theorem Kept5.below {b : Nat} {x0 x1 x2 x3 x4 : Value} {u u' : World} (h : Kept5 b x0 x1 x2 x3 x4 u) (hb : Below u.heap.size u u') : Kept5 b x0 x1 x2 x3 x4 u' :=
  ⟨Nat.lt_of_lt_of_le h.1 hb.size, (hb.cell (p := ⟨b, 0, none⟩) h.1).trans h.2.1, (hb.cell (p := ⟨b, 1, none⟩) h.1).trans h.2.2.1, (hb.cell (p := ⟨b, 2, none⟩) h.1).trans h.2.2.2.1, (hb.cell (p := ⟨b, 3, none⟩) h.1).trans h.2.2.2.2.1, (hb.cell (p := ⟨b, 4, none⟩) h.1).trans h.2.2.2.2.2⟩
theorem str_ne (s : ByteArray) : (s.toList != s.toList) = false := by simp
theorem str_eq (s : ByteArray) : (s.toList == s.toList) = true := by simp
theorem names_short {zs : List Clay} (h : ShortNames zs) : Names zs := fun k z hz => by
  have := h z (List.mem_of_getElem? hz)
  unfold maxLen
  omega
/-- What a reading gives, in one form. -/
def ReadIs (o : Option Clay) (r0 : ByteArray) (r1 r2 r3 r4 : Int) (rb : Bool) : Prop := (o = none ∧ r0 = ⟨#[]⟩ ∧ r1 = 0 ∧ r2 = 0 ∧ r3 = 0 ∧ r4 = 0 ∧ rb = false) ∨ (o = some ⟨r0, r1, r2, r3, r4⟩ ∧ rb = true)
theorem read_is (o : Option Clay) : ∃ r0 r1 r2 r3 r4 rb, ReadIs o r0 r1 r2 r3 r4 rb := by
  cases o with
  | none => exact ⟨_, _, _, _, _, _, .inl ⟨rfl, rfl, rfl, rfl, rfl, rfl, rfl⟩⟩
  | some c => obtain ⟨n, s, l, d, p⟩ := c; exact ⟨_, _, _, _, _, _, .inr ⟨rfl, rfl⟩⟩
theorem read_post {o : Option Clay} {r0 : ByteArray} {r1 r2 r3 r4 : Int} {rb : Bool} {w w' : World} {e : Ending} (hr : ReadIs o r0 r1 r2 r3 r4 rb) (h : ClayPost o w e w') : e = .returned (.tuple #[.agg #[.string r0, .int .i64 r1, .int .i64 r2, .int .i64 r3, .int .i64 r4], .bool rb]) ∧ Below w.heap.size w w' := by
  obtain ⟨hb, ⟨h1, h2⟩ | ⟨n, s, l, d, p, h1, h2⟩⟩ := h
  · rcases hr with ⟨_, rfl, rfl, rfl, rfl, rfl, rfl⟩ | ⟨h3, _⟩
    · exact ⟨h2, hb⟩
    · rw [h1] at h3; cases h3
  · rcases hr with ⟨h3, _⟩ | ⟨h3, rfl⟩
    · rw [h1] at h3; cases h3
    · rw [h1] at h3
      injection h3 with h3
      injection h3 with e1 e2 e3 e4 e5
      subst e1 e2 e3 e4 e5
      exact ⟨h2, hb⟩
/-- What a reading of the text of a clay gives: the clay, if it is a good one; else nothing, and the text is empty. -/
theorem read_text {t0 r0 TX : ByteArray} {t1 t2 t3 t4 r1 r2 r3 r4 : Int} {rb : Bool} (hx : clayT ⟨t0, t1, t2, t3, t4⟩ = TX) (hr : ReadIs (clyL TX.data.toList) r0 r1 r2 r3 r4 rb) :
    (TX.toList.isEmpty = false ∧ rb = true ∧ t0 = r0 ∧ t1 = r1 ∧ t2 = r2 ∧ t3 = r3 ∧ t4 = r4) ∨ (TX.toList.isEmpty = true ∧ rb = false) := by
  by_cases hk : Clay.ok ⟨t0, t1, t2, t3, t4⟩ = true
  · have hcl : clyL TX.data.toList = some ⟨t0, t1, t2, t3, t4⟩ := by
      rw [← hx, clayT_yes hk, ba_data]
      exact cly_iff.2 ⟨hk, rfl⟩
    rw [hcl] at hr
    rcases hr with ⟨h1, _⟩ | ⟨h1, rfl⟩
    · cases h1
    injection h1 with h1
    injection h1 with e1 e2 e3 e4 e5
    subst e1 e2 e3 e4 e5
    refine .inl ⟨?_, rfl, rfl, rfl, rfl, rfl, rfl⟩
    rw [Lib.toList_data]
    cases hd : TX.data.toList with
    | nil => rw [hd] at hcl; exact absurd hcl (by simp [show clyL [] = none from rfl])
    | cons a l => rfl
  · have htx : TX = ⟨#[]⟩ := by rw [← hx]; exact clayT_no (by simpa using hk)
    rw [htx, show clyL (⟨#[]⟩ : ByteArray).data.toList = none from rfl] at hr
    rcases hr with ⟨_, -, -, -, -, -, rfl⟩ | ⟨h1, _⟩
    case inr => cases h1
    exact .inr ⟨by rw [htx, Lib.toList_data]; rfl, rfl⟩
end Go.Proofs.YtfjdhjbfingofaaGreatDoor
