/-
  What is proved: a bond under way in its block, its courses grown one by one. No program in sight but for the types' numbers. No conditions.
-/
import Derived.Test.YtgobpleckeeheaaDoorReadP
import Derived.Test.YtgobpleckeeheaaDoorCourseM
import Derived.Deep.AppendLies
namespace Go.Proofs.YtgobpleckeeheaaDoor
open Go.RowKit Go.PlainAid
set_option linter.unusedVariables false

theorem course_new_at (w : World) (l y : ByteArray) (t : TypeId) (s : Nat) (hs : w.heap.size = s) : ∀ (j : Nat) (u : Value), [Value.string l, .string y][j]? = some u → (w.alloc (.cells #[.string l, .string y] t)).cell? ((⟨s, 0, none⟩ : Addr).add j) = some u := by
  subst hs
  intro j u hj
  match j, hj with
  | 0, hj => obtain rfl := Option.some.inj hj; simp [Addr.add, World.cell?_alloc_new]
  | 1, hj => obtain rfl := Option.some.inj hj; simp [Addr.add, World.cell?_alloc_new]
theorem course_one {l y : ByteArray} : ∀ u ∈ [Value.string l, .string y], u.oneCell' = true := fun x hx => by
  simp at hx
  rcases hx with rfl | rfl <;> rfl
theorem own_push_course {w : World} {base n : Nat} {t : TypeId} {v : Value} {xs : List Course} {l y : ByteArray} (h : w.ownsRow base t 2 v n (flat Course.enc xs ++ [Value.string l, .string y])) : w.ownsRow base t 2 v n (flat Course.enc (xs ++ [⟨l, y⟩])) := by
  rw [flat_append]
  exact h
/-- The courses that were read so far, and the bond under way in its block. -/
structure Under (gb : Nat) (nm : ByteArray) (t : TypeId) (xs : List Course) (w : World) (v : Value) : Prop where
  c0 : w.cell? ⟨gb, 0, none⟩ = some (.string nm)
  c1 : w.cell? ⟨gb, 1, none⟩ = some v
  f0 : w.frozen? ⟨gb, 0, none⟩ = false
  f1 : w.frozen? ⟨gb, 1, none⟩ = false
  lt : gb < w.heap.size
  own : w.ownsRow (gb + 1) t 2 v xs.length (flat Course.enc xs)
theorem Under.below {gb : Nat} {nm : ByteArray} {t : TypeId} {xs : List Course} {w w' : World} {v : Value} (h : Under gb nm t xs w v) (hb : Below w.heap.size w w') : Under gb nm t xs w' v :=
  ⟨(hb.cell (p := ⟨gb, 0, none⟩) h.lt).trans h.c0, (hb.cell (p := ⟨gb, 1, none⟩) h.lt).trans h.c1, (hb.frozen (p := ⟨gb, 0, none⟩) h.lt).trans h.f0, (hb.frozen (p := ⟨gb, 1, none⟩) h.lt).trans h.f1, Nat.lt_of_lt_of_le h.lt hb.size, own_below h.own hb⟩
theorem Under.drew {gb : Nat} {nm : ByteArray} {t : TypeId} {xs : List Course} {w : World} {v : Value} (h : Under gb nm t xs w v) : Under gb nm t xs w.drew v := ⟨h.c0, h.c1, h.f0, h.f1, h.lt, h.own⟩
/-- One course more: the list has grown, the bond's field holds it. -/
theorem Under.more {gb : Nat} {nm l y : ByteArray} {t : TypeId} {xs : List Course} {w2 w5 : World} {v : Value} {o : Obj} {g cap : Nat} (h : Under gb nm t xs w2 v) (hg : (w2.alloc o).grownBy w5 v.ownBlock) (hown : w5.ownsRow (gb + 1) t 2 (.slice (some ⟨g, 0, none⟩) (xs.length + 1) cap) (xs.length + 1) (flat Course.enc xs ++ [Value.string l, .string y])) :
    Under gb nm t (xs ++ [⟨l, y⟩]) (w5.setCell ⟨gb, 1, none⟩ (.slice (some ⟨g, 0, none⟩) (xs.length + 1) cap)) (.slice (some ⟨g, 0, none⟩) (xs.length + 1) cap) := by
  have hne : some gb ≠ v.ownBlock := fun q => by
    have := (h.own.lt gb q.symm).1
    omega
  have hlt : gb < (w2.alloc o).heap.size := by have := h.lt; simp; omega
  have t0 := (hg.cell_far ⟨gb, 0, none⟩ hlt hne).trans ((World.cell?_alloc_lt w2 o ⟨gb, 0, none⟩ h.lt).trans h.c0)
  have t1 := (hg.cell_far ⟨gb, 1, none⟩ hlt hne).trans ((World.cell?_alloc_lt w2 o ⟨gb, 1, none⟩ h.lt).trans h.c1)
  have f0 := (hg.frozen_far ⟨gb, 0, none⟩ hlt hne).trans ((World.frozen?_of_block (w := w2) (a := ⟨gb, 0, none⟩) (Below.heap_alloc w2 o gb h.lt)).trans h.f0)
  have f1 := (hg.frozen_far ⟨gb, 1, none⟩ hlt hne).trans ((World.frozen?_of_block (w := w2) (a := ⟨gb, 1, none⟩) (Below.heap_alloc w2 o gb h.lt)).trans h.f1)
  have hs := hg.size
  refine ⟨by simp [go_sem, t0], by simp [go_sem, t1], by simp [go_sem, f0], by simp [go_sem, f1], ?_, ?_⟩
  · have := h.lt
    simp at hs ⊢
    omega
  · rw [List.length_append]
    exact ownsRow_setCell_below (own_push_course hown) (a := ⟨gb, 1, none⟩) (Nat.lt_succ_self gb) _
theorem Under.start {gb : Nat} {nm : ByteArray} {t : TypeId} {w : World} (hz : w.heap.size = gb) (t2 : TypeId) : Under gb nm t [] (w.alloc (.cells #[.string nm, .slice none 0 0] t2)) (.slice none 0 0) := by
  subst hz
  exact ⟨by simp [go_sem], by simp [go_sem], by simp [go_sem], by simp [go_sem], by simp, (Own.nil (w := w.alloc (.cells #[.string nm, .slice none 0 0] t2)) (lo := w.heap.size + 1) (hi := 0) (Nat.zero_le _)).own⟩
/-- As a bond. -/
theorem Under.form {gb : Nat} {nm : ByteArray} {t : TypeId} {xs : List Course} {w : World} {v : Value} (h : Under gb nm t xs w v) : ∃ A c, v = .slice A xs.length c ∧ Row Course.enc 2 w A xs ∧ Own t 2 Course.enc w (gb + 1) w.heap.size A xs.length c xs := by
  obtain ⟨A, c, rfl, ho⟩ := Own.of_row rfl h.own h.lt
  exact ⟨A, c, rfl, ho.row (fun _ => rfl), ho⟩
theorem own_low1' {w : World} {base base' size n : Nat} {t : TypeId} {v : Value} {xs : List Value} (h : w.ownsRow base t size v n xs) (hb : base' ≤ base) : w.ownsRow base' t size v n xs :=
  ⟨h.1, h.2.imp id fun ⟨g, cap, cur, h1, h2, h3⟩ => ⟨g, cap, cur, h1, Nat.le_trans hb h2, h3⟩⟩
theorem Under.grown {gb : Nat} {nm : ByteArray} {t : TypeId} {xs : List Course} {w w' : World} {u : Value} {row : Option Nat} (h : Under gb nm t xs w u) (hg : w.grownBy w' row) (hne : some gb ≠ row) (hu : ∀ j, row = some j → u.ownBlock = some j → False) : Under gb nm t xs w' u :=
  ⟨(hg.cell_far ⟨gb, 0, none⟩ h.lt hne).trans h.c0, (hg.cell_far ⟨gb, 1, none⟩ h.lt hne).trans h.c1, (hg.frozen_far ⟨gb, 0, none⟩ h.lt hne).trans h.f0, (hg.frozen_far ⟨gb, 1, none⟩ h.lt hne).trans h.f1, Nat.lt_of_lt_of_le h.lt hg.size, h.own.kept hg (by
    cases ho : u.ownBlock with
    | none => exact .inl rfl
    | some j => exact .inr (fun e => hu j e.symm ho))⟩
/-- What reading a text gives: the bond of its words, or none. -/
def ReadPost (t : ByteArray) (w : World) (e : Ending) (w' : World) : Prop := ∃ A' c', e = .returned (.tuple #[.agg #[.string (readN t), .slice A' (readZ t).length c'], .bool (okT t)]) ∧ Own 33 2 Course.enc w' w.heap.size w'.heap.size A' (readZ t).length c' (readZ t) ∧ Below w.heap.size w w'
theorem readPost_no {t : ByteArray} {w w' : World} {e : Ending} (h : okT t = false) (he : e = .returned (.tuple #[.agg #[.string ⟨#[]⟩, .slice none 0 0], .bool false])) (hb : Below w.heap.size w w') : ReadPost t w e w' := by
  refine ⟨none, 0, ?_, ?_, hb⟩
  · rw [readN_no h, readZ_no h, h]
    exact he
  · rw [readZ_no h]
    exact Own.nil (Nat.le_refl _)
theorem readPost_yes {t nm : ByteArray} {zs : List Course} {w w' : World} {e : Ending} {A : Option Addr} {c : Nat} (h : okT t = true ∧ readN t = nm ∧ readZ t = zs) (he : e = .returned (.tuple #[.agg #[.string nm, .slice A zs.length c], .bool true])) (ho : Own 33 2 Course.enc w' w.heap.size w'.heap.size A zs.length c zs) (hb : Below w.heap.size w w') : ReadPost t w e w' := by
  obtain ⟨h1, h2, h3⟩ := h
  refine ⟨A, c, ?_, ?_, hb⟩
  · rw [h1, h2, h3]
    exact he
  · rw [h3]
    exact ho
end Go.Proofs.YtgobpleckeeheaaDoor
