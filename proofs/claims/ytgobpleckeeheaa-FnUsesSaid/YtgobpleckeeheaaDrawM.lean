/-
  What is proved: what the reference draws as moulds: some list in memory of its own; nothing but the source is changed. Conditions: as for the source.
-/
import Derived.Test.YtgobpleckeeheaaNewM
import Derived.Test.YtgobpleckeeheaaRowSet
import Derived.Test.YtgobpleckeeheaaMouldS
namespace Go.Proofs.Ytgobpleckeeheaa
open Go.RowKit
set_option linter.unusedVariables false

theorem src_grown {w0 w w' : World} {b : Nat} {A : Option Addr} {n c k : Nat} {row : Option Nat} (h : Src w0 w b A n c k) (hg : w.grownBy w' row) (hne : some b ≠ row) (hr : ∀ j, row = some j → w0.heap.size ≤ j) : Src w0 w' b A n c k := by
  have hl := h.lt
  obtain ⟨h1, h2, seed, h3⟩ := h
  exact ⟨h1, h2.grown hg h2.size hr, seed, (hg.block b hl hne).trans h3⟩
theorem only_grown {b : Nat} {u v w' : World} {row : Option Nat} (h : Only b u v) (hg : v.grownBy w' row) (hr : ∀ j, row = some j → u.heap.size ≤ j) : Only b u w' :=
  ⟨hg.os.trans h.os, hg.tape.trans h.tape, hg.output.trans h.output, Nat.le_trans h.size hg.size, fun i hi hn => (hg.block i (Nat.lt_of_lt_of_le hi h.size) (fun e => by have := hr i e.symm; omega)).trans (h.block i hi hn)⟩
theorem owns_only {w w' : World} {base size n b : Nat} {t : TypeId} {v : Value} {xs : List Value} (h : w.ownsRow base t size v n xs) (ho : Only b w w') (hb : b < base) : w'.ownsRow base t size v n xs :=
  h.kept (row := some b) ⟨ho.os, ho.tape, ho.output, ho.size, fun k hk hne => ho.block k hk (fun e => hne (by rw [e]))⟩ (by
    cases hv : v.ownBlock with
    | none => exact .inl rfl
    | some j => exact .inr (fun e => by have := (h.lt j hv).1; injection e with e; omega))
theorem mould_new_at (w : World) (x0 x1 x2 x3 : Int) (t : TypeId) (s : Nat) (hs : w.heap.size = s) : ∀ (j : Nat) (u : Value), [Value.int .i64 x0, .int .i64 x1, .int .i64 x2, .int .i64 x3][j]? = some u → (w.alloc (.cells #[.int .i64 x0, .int .i64 x1, .int .i64 x2, .int .i64 x3] t)).cell? ((⟨s, 0, none⟩ : Addr).add j) = some u := by
  subst hs
  intro j u hj
  match j, hj with
  | 0, hj => obtain rfl := Option.some.inj hj; simp [go_sem, Addr.add]
  | 1, hj => obtain rfl := Option.some.inj hj; simp [go_sem, Addr.add]
  | 2, hj => obtain rfl := Option.some.inj hj; simp [go_sem, Addr.add]
  | 3, hj => obtain rfl := Option.some.inj hj; simp [go_sem, Addr.add]
theorem mould_one {x0 x1 x2 x3 : Int} : ∀ u ∈ [Value.int .i64 x0, .int .i64 x1, .int .i64 x2, .int .i64 x3], u.oneCell' = true := fun x hx => by
  simp at hx
  rcases hx with rfl | rfl | rfl | rfl <;> rfl
theorem flat_push {α : Type} {enc : α → List Value} (xs : List α) (x : α) : flat enc xs ++ enc x = flat enc (xs ++ [x]) := by simp [flat]
/-- What a spoiled field leaves. -/
def SpoiltM (w0 w : World) (b : Nat) (A : Option Addr) (n c k g o : Nat) (e : Ending) (w' : World) : Prop :=
  ∃ (j : Nat) (v : Int) (k' : Nat) (w1 : World), j < 4 ∧ e = .returned (.tuple #[]) ∧ k' ≤ k + 4 ∧ Src w0 w1 b A n c k' ∧ Only b w w1 ∧ w' = w1.setCell ⟨g, o + j, none⟩ (.int .i64 v)
set_option maxRecDepth 100000 in
set_option maxHeartbeats 1000000 in
theorem src_l05Spoil (w0 w : World) (b : Nat) (A : Option Addr) (n c k : Nat) (z : List Int) (g o : Nat) (x0 x1 x2 x3 : Value) (hgl : g < w.heap.size) (hgb : g ≠ b)
    (c0 : w.cell? ⟨g, o, none⟩ = some x0) (c1 : w.cell? ⟨g, o + 1, none⟩ = some x1) (c2 : w.cell? ⟨g, o + 2, none⟩ = some x2) (c3 : w.cell? ⟨g, o + 3, none⟩ = some x3)
    (f0 : w.frozen? ⟨g, o, none⟩ = false) (f1 : w.frozen? ⟨g, o + 1, none⟩ = false) (f2 : w.frozen? ⟨g, o + 2, none⟩ = false) (f3 : w.frozen? ⟨g, o + 3, none⟩ = false)
    (hk : k < 1099511627700) (ha : ArgInts .u8 w0 A n c z) (hs : Src w0 w b A n c k) :
    Calls Try.prog 108 #[.pointer (some ⟨b, 0, none⟩), .pointer (some ⟨g, o, none⟩)] w (SpoiltM w0 w b A n c k g o) := by
  have HA := hide ha
  have HS := hide hs
  have HC := hide (And.intro (And.intro c0 (And.intro c1 (And.intro c2 c3))) (And.intro f0 (And.intro f1 (And.intro f2 f3))))
  clear ha hs c0 c1 c2 c3 f0 f1 f2 f3
  go_enter Try.func108, Try.ntmps108
  go_wp2_with fail
  refine (src_pick w0 _ b A n c k z 4 (by omega) (by omega) (by omega) HA.out HS.out).mono ?_
  rintro e w1 ⟨v, k1, hv0, hv1, rfl, hk1, hs1, ho1⟩
  have HS1 := hide hs1
  have HO1 := hide ho1
  clear hs1 ho1
  rcases (show v = 0 ∨ v = 1 ∨ v = 2 ∨ v = 3 from by omega) with rfl | rfl | rfl | rfl
  · go_wp2_with fail
    refine (src_amongL [29, 30, 800, 801, -9223372036854775808] _ _ rfl w0 _ b A n c k1 z 5 rfl (by omega) (by omega) (by omega) HA.out HS1.out _ _ rfl).mono ?_
    rintro e w2 ⟨v, k2, hv, rfl, hk2, hs2, ho2⟩
    have HO2 := hide (HO1.out.trans ho2)
    have HS2 := hide hs2
    obtain ⟨⟨c0, c1, c2, c3⟩, f0, f1, f2, f3⟩ := HC.out
    have e0 := ((ocell HO2.out).1 g o hgl hgb).trans c0
    have g0 := ((ocell HO2.out).2 g o hgl hgb).trans f0
    clear hs2 ho2 hv c0 c1 c2 c3 f0 f1 f2 f3
    go_wp2
    go_end0
    exact ⟨0, v, k2, w2, by omega, rfl, by omega, HS2.out, HO2.out, rfl⟩
  · go_wp2_with fail
    refine (src_amongL [-1, 30, 800, 801] _ _ rfl w0 _ b A n c k1 z 4 rfl (by omega) (by omega) (by omega) HA.out HS1.out _ _ rfl).mono ?_
    rintro e w2 ⟨v, k2, hv, rfl, hk2, hs2, ho2⟩
    have HO2 := hide (HO1.out.trans ho2)
    have HS2 := hide hs2
    obtain ⟨⟨c0, c1, c2, c3⟩, f0, f1, f2, f3⟩ := HC.out
    have e0 := ((ocell HO2.out).1 g (o + 1) hgl hgb).trans c1
    have g0 := ((ocell HO2.out).2 g (o + 1) hgl hgb).trans f1
    clear hs2 ho2 hv c0 c1 c2 c3 f0 f1 f2 f3
    go_wp2
    go_end0
    exact ⟨1, v, k2, w2, by omega, rfl, by omega, HS2.out, HO2.out, rfl⟩
  · go_wp2_with fail
    refine (src_amongL [29, 30, 800, 801] _ _ rfl w0 _ b A n c k1 z 4 rfl (by omega) (by omega) (by omega) HA.out HS1.out _ _ rfl).mono ?_
    rintro e w2 ⟨v, k2, hv, rfl, hk2, hs2, ho2⟩
    have HO2 := hide (HO1.out.trans ho2)
    have HS2 := hide hs2
    obtain ⟨⟨c0, c1, c2, c3⟩, f0, f1, f2, f3⟩ := HC.out
    have e0 := ((ocell HO2.out).1 g (o + 2) hgl hgb).trans c2
    have g0 := ((ocell HO2.out).2 g (o + 2) hgl hgb).trans f2
    clear hs2 ho2 hv c0 c1 c2 c3 f0 f1 f2 f3
    go_wp2
    go_end0
    exact ⟨2, v, k2, w2, by omega, rfl, by omega, HS2.out, HO2.out, rfl⟩
  · go_wp2_with fail
    refine (src_amongL [-1, 0, 100000, 100001] _ _ rfl w0 _ b A n c k1 z 4 rfl (by omega) (by omega) (by omega) HA.out HS1.out _ _ rfl).mono ?_
    rintro e w2 ⟨v, k2, hv, rfl, hk2, hs2, ho2⟩
    have HO2 := hide (HO1.out.trans ho2)
    have HS2 := hide hs2
    obtain ⟨⟨c0, c1, c2, c3⟩, f0, f1, f2, f3⟩ := HC.out
    have e0 := ((ocell HO2.out).1 g (o + 3) hgl hgb).trans c3
    have g0 := ((ocell HO2.out).2 g (o + 3) hgl hgb).trans f3
    clear hs2 ho2 hv c0 c1 c2 c3 f0 f1 f2 f3
    go_wp2
    go_end0
    exact ⟨3, v, k2, w2, by omega, rfl, by omega, HS2.out, HO2.out, rfl⟩
end Go.Proofs.Ytgobpleckeeheaa
