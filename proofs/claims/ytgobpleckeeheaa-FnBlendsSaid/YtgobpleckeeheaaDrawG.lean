/-
  What is proved: what draws and appends leave of a source, of lists and of blocks; an empty list just made; a clay just laid. No program in sight. No conditions.
-/
import Derived.Test.YtgobpleckeeheaaAmong
import Derived.Test.YtgobpleckeeheaaOwnSet
import Derived.Deep.AppendLies
namespace Go.Proofs.Ytgobpleckeeheaa
open Go.RowKit
set_option linter.unusedVariables false

theorem Src.grw {w0 w w' : World} {b : Nat} {A : Option Addr} {n c k : Nat} {row : Option Nat} (h : Src w0 w b A n c k) (hg : w.grownBy w' row) (hne : some b ≠ row) (hr : ∀ j, row = some j → w0.heap.size ≤ j) : Src w0 w' b A n c k := by
  have hl := h.lt
  obtain ⟨h1, h2, seed, h3⟩ := h
  exact ⟨h1, h2.grown hg h2.size hr, seed, (hg.block b hl hne).trans h3⟩
theorem Only.grw {b : Nat} {u v w' : World} {row : Option Nat} (h : Only b u v) (hg : v.grownBy w' row) (hr : ∀ j, row = some j → u.heap.size ≤ j) : Only b u w' :=
  ⟨hg.os.trans h.os, hg.tape.trans h.tape, hg.output.trans h.output, Nat.le_trans h.size hg.size, fun i hi hn => (hg.block i (Nat.lt_of_lt_of_le hi h.size) (fun e => by have := hr i e.symm; omega)).trans (h.block i hi hn)⟩
theorem Blk.grw {w w' : World} {g : Nat} {t : TypeId} {cs : Array Value} {row : Option Nat} (h : Blk w g t cs) (hg : w.grownBy w' row) (hne : some g ≠ row) : Blk w' g t cs := (hg.block g h.lt hne).trans h
theorem ow_only {w w' : World} {base size n b : Nat} {t : TypeId} {v : Value} {xs : List Value} (h : w.ownsRow base t size v n xs) (ho : Only b w w') (hb : b < base) : w'.ownsRow base t size v n xs :=
  h.kept (row := some b) ⟨ho.os, ho.tape, ho.output, ho.size, fun k hk hne => ho.block k hk (fun e => hne (by rw [e]))⟩ (by
    cases hv : v.ownBlock with
    | none => exact .inl rfl
    | some j => exact .inr (fun e => by have := (h.lt j hv).1; injection e with e; omega))
theorem ow_far {w : World} {lo k n : Nat} {t : TypeId} {v : Value} {L : List Value} {p : Addr} (h : w.ownsRow lo t k v n L) (hp : p.block < lo) (x : Value) : (w.setCell p x).ownsRow lo t k v n L :=
  h.kept (row := some p.block) ⟨rfl, rfl, rfl, by simp, fun i hi hne => Below.heap_setCell _ _ _ _ (fun e => hne (by rw [e]))⟩ (by
    cases hv : v.ownBlock with
    | none => exact .inl rfl
    | some j => exact .inr (fun e => by have := (h.lt j hv).1; injection e with e; omega))
theorem Row.alc {α : Type} {enc : α → List Value} {k : Nat} {w : World} {A : Option Addr} {xs : List α} (h : Row enc k w A xs) (o : Obj) : Row enc k (w.alloc o) A xs := h.below ((Below.refl _ _).alloc (Nat.le_refl _) o)
theorem own_entire {α : Type} {t : TypeId} {k : Nat} {enc : α → List Value} {w : World} {lo g n c : Nat} {xs : List α} (hl : xs.length = n) (h : w.ownsRow lo t k (.slice (some ⟨g, 0, none⟩) n c) n (flat enc xs)) : Own t k enc w lo w.heap.size (some ⟨g, 0, none⟩) n c xs :=
  ⟨hl, h, fun a ha => by injection ha with ha; subst ha; exact (own_lt h).2, Nat.le_refl _⟩
theorem own_empty_at (w : World) (base k : Nat) (t : TypeId) (s : Nat) (hs : w.heap.size = s) (hb : base ≤ s) : (w.alloc (.cells #[] t)).ownsRow base t k (.slice (some ⟨s, 0, none⟩) 0 0) 0 [] := by
  subst hs
  exact own_empty w base k t hb
theorem flat_snoc {α : Type} {enc : α → List Value} (xs : List α) (x : α) : flat enc xs ++ enc x = flat enc (xs ++ [x]) := by simp [flat]
theorem clayN_at (w : World) (x0 : ByteArray) (x1 x2 x3 x4 : Int) (t : TypeId) (s : Nat) (hs : w.heap.size = s) : ∀ (j : Nat) (u : Value), [Value.string x0, .int .i64 x1, .int .i64 x2, .int .i64 x3, .int .i64 x4][j]? = some u → (w.alloc (.cells #[.string x0, .int .i64 x1, .int .i64 x2, .int .i64 x3, .int .i64 x4] t)).cell? ((⟨s, 0, none⟩ : Addr).add j) = some u := by
  subst hs
  intro j u hj
  match j, hj with
  | 0, hj => obtain rfl := Option.some.inj hj; simp [go_sem, Addr.add]
  | 1, hj => obtain rfl := Option.some.inj hj; simp [go_sem, Addr.add]
  | 2, hj => obtain rfl := Option.some.inj hj; simp [go_sem, Addr.add]
  | 3, hj => obtain rfl := Option.some.inj hj; simp [go_sem, Addr.add]
  | 4, hj => obtain rfl := Option.some.inj hj; simp [go_sem, Addr.add]
theorem clayN_one {x0 : ByteArray} {x1 x2 x3 x4 : Int} : ∀ u ∈ [Value.string x0, .int .i64 x1, .int .i64 x2, .int .i64 x3, .int .i64 x4], u.oneCell' = true := fun x hx => by
  simp at hx
  rcases hx with rfl | rfl | rfl | rfl | rfl <;> rfl
/-- A value for a clay's field j. -/
def FieldC (j : Nat) (u : Value) : Prop := (j = 0 ∧ ∃ s : ByteArray, s.size ≤ 16 ∧ u = .string s) ∨ (1 ≤ j ∧ j < 5 ∧ ∃ v : Int, u = .int .i64 v)
def ShortNames (zs : List Clay) : Prop := ∀ z ∈ zs, z.n.size ≤ 16
theorem own_field_clay {w : World} {base n c g i j : Nat} {t : TypeId} {xs : List Clay} {u : Value} (hu : FieldC j u) (h : w.ownsRow base t 5 (.slice (some ⟨g, 0, none⟩) n c) n (flat Clay.enc xs)) (hl : xs.length = n) (hi : i < n) (hS : ShortNames xs) :
    ∃ y : Clay, ShortNames (xs.set i y) ∧ World.ownsRow (w.setCell ⟨g, i * 5 + j, none⟩ u) base t 5 (.slice (some ⟨g, 0, none⟩) n c) n (flat Clay.enc (xs.set i y)) ∧ w.grownBy (w.setCell ⟨g, i * 5 + j, none⟩ u) (some g) := by
  obtain ⟨x, hx⟩ : ∃ x, xs[i]? = some x := ⟨xs[i]'(by omega), List.getElem?_eq_getElem (by omega)⟩
  have hxs := hS x (List.mem_of_getElem? hx)
  have key : ∀ y : Clay, y.n.size ≤ 16 → ShortNames (xs.set i y) := fun y hy z hz => by
    rcases List.mem_or_eq_of_mem_set hz with hz | rfl
    · exact hS z hz
    · exact hy
  rcases hu with ⟨rfl, s, hs, rfl⟩ | ⟨h1, h5, v, rfl⟩
  · exact ⟨⟨s, x.s, x.l, x.d, x.p⟩, key _ hs, own_field (k := 5) (j := 0) (fun _ => rfl) _ h hx (by omega) rfl⟩
  · match j, h1, h5 with
    | 1, _, _ => exact ⟨⟨x.n, v, x.l, x.d, x.p⟩, key _ hxs, own_field (k := 5) (j := 1) (fun _ => rfl) _ h hx (by omega) rfl⟩
    | 2, _, _ => exact ⟨⟨x.n, x.s, v, x.d, x.p⟩, key _ hxs, own_field (k := 5) (j := 2) (fun _ => rfl) _ h hx (by omega) rfl⟩
    | 3, _, _ => exact ⟨⟨x.n, x.s, x.l, v, x.p⟩, key _ hxs, own_field (k := 5) (j := 3) (fun _ => rfl) _ h hx (by omega) rfl⟩
    | 4, _, _ => exact ⟨⟨x.n, x.s, x.l, x.d, v⟩, key _ hxs, own_field (k := 5) (j := 4) (fun _ => rfl) _ h hx (by omega) rfl⟩
end Go.Proofs.Ytgobpleckeeheaa
