/-
  What is proved: the small lemmas of 10 of our texts, joined into one file: each part's own comment says what it proves and under which conditions.
-/
import Derived.Test.YtfjdhjbfingofaaGreatDoorProg
import Derived.Test.YtfjdhjbfingofaaGreatDoorJoinA
import Derived.Handy
import Derived.Lib.Hide
import Derived.BigQuiet
import Derived.Deep.QuietTactic
import Derived.StillTailTactics
import Derived.WalkSpells
import Derived.Laws.OwnMore
import Derived.Laws.AppendOwn
import Derived.Deep.AppendLies
import Derived.Laws.BytesArg
/-
  What is proved: contracts of the laws' own functions on lists of whole numbers: the comparison of equal lists, the marks. Conditions: lengths as named in each.
-/
namespace Go.Proofs.YtfjdhjbfingofaaGreatDoor
open Go.RowKit
set_option linter.unusedVariables false

def encI (x : Int) : List Value := [.int .i64 x]
/-- An empty list that was just made: '[]T{}'. -/
theorem own_empty (w : World) (base k : Nat) (t : TypeId) (hb : base ≤ w.heap.size) : (w.alloc (.cells #[] t)).ownsRow base t k (.slice (some ⟨w.heap.size, 0, none⟩) 0 0) 0 [] :=
  ⟨by simp, .inr ⟨w.heap.size, 0, #[], rfl, hb, (show (w.heap.push (.cells #[] t))[w.heap.size]? = _ from Array.getElem?_push_size), Nat.le_refl _, by unfold maxLen; omega, by simp, by simp⟩⟩
theorem cell_new_at (w : World) (v : Value) (t : TypeId) (s : Nat) (hs : w.heap.size = s) : ∀ (j : Nat) (u : Value), [v][j]? = some u → (w.alloc (.cells #[v] t)).cell? ((⟨s, 0, none⟩ : Addr).add j) = some u := by
  subst hs
  exact cell_one_new w v t
theorem flatI_push (xs : List Int) (x : Int) : flat encI xs ++ [.int .i64 x] = flat encI (xs ++ [x]) := by rw [flat_append]; rfl
theorem own_push {w : World} {base : Nat} {t : TypeId} {v : Value} {xs ys : List Int} {x : Int} (h : w.ownsRow base t 1 v (xs.length + 1) (flat encI xs ++ [.int .i64 x])) (hy : ys = xs ++ [x]) : w.ownsRow base t 1 v ys.length (flat encI ys) := by
  subst hy
  rw [← flatI_push, List.length_append]
  exact h
theorem flatI_map (xs : List Int) : flat encI xs = xs.map (Value.int .i64) := by
  induction xs with
  | nil => rfl
  | cons x xs ih => simp only [flat, List.flatMap_cons, List.map_cons] at ih ⊢; rw [ih]; rfl
theorem made_ints (n : Nat) : (madeCells (Value.int .i64 0).cells (n * 1)).toList = flat encI (List.replicate n 0) := by
  rw [flatI_map, List.map_replicate]
  apply List.ext_getElem <;> simp [madeCells, Value.cells, Nat.mod_one]
theorem own_int_at {w : World} {base n c g i : Nat} {t : TypeId} {xs : List Int} {x : Int} (h : w.ownsRow base t 1 (.slice (some ⟨g, 0, none⟩) n c) n (flat encI xs)) (hi : xs[i]? = some x) :
    w.cell? ⟨g, i, none⟩ = some (.int .i64 x) ∧ w.frozen? ⟨g, i, none⟩ = false := by
  have hl := h.1
  have hx := (List.getElem?_eq_some_iff.1 hi).1
  rw [flatI_map, List.length_map] at hl
  refine ⟨?_, h.frozenAt _⟩
  rw [h.cellAt i (by omega), flatI_map, List.getElem?_map, hi]
  rfl
theorem own_int_set {w : World} {base n c g i : Nat} {t : TypeId} {xs : List Int} (y : Int) (h : w.ownsRow base t 1 (.slice (some ⟨g, 0, none⟩) n c) n (flat encI xs)) (hi : i < n) :
    World.ownsRow (w.setCell ⟨g, i, none⟩ (.int .i64 y)) base t 1 (.slice (some ⟨g, 0, none⟩) n c) n (flat encI (xs.set i y)) ∧ w.grownBy (w.setCell ⟨g, i, none⟩ (.int .i64 y)) (some g) := by
  have s0 := h.stored i (.int .i64 y)
  rw [flatI_map, ← List.map_set, ← flatI_map] at s0
  exact ⟨s0.1, s0.2⟩
theorem below_push {w wr w1 : World} {v : Value} {o : Obj} {n : Nat} {L : List Value} {t : TypeId} {k : Nat} (hb : Below w.heap.size w wr) (hown : wr.ownsRow w.heap.size t k v n L) (hg : (wr.alloc o).grownBy w1 v.ownBlock) : Below w.heap.size w w1 :=
  (hb.alloc hb.size o).grown hg (by have := hb.size; simp; omega) (fun j hj => (hown.lt j hj).1)
/-- The marked elements, from k0 on. -/
def marksInt (k0 : Int) (n : Nat) : List Int := (List.range n).map fun i : Nat => k0 + (i : Int)
theorem marksInt_at (k0 : Int) (n i : Nat) (h : i < n) : (marksInt k0 n)[i]? = some (k0 + (i : Int)) := by
  unfold marksInt
  rw [List.getElem?_map, List.getElem?_range h]
  rfl
theorem marksInt_length (k0 : Int) (n : Nat) : (marksInt k0 n).length = n := by simp [marksInt]
end Go.Proofs.YtfjdhjbfingofaaGreatDoor

/-
  What is proved: the reference's source of choices: each number that it draws lies in its range, and nothing but the source itself is changed. Conditions: the source lies in a block of its own; fewer than 2^40 numbers have been drawn.
-/
namespace Go.Proofs.YtfjdhjbfingofaaGreatDoor
open Go.RowKit
set_option linter.unusedVariables false

/-- A block that is known whole, none of it frozen. -/
def Blk (w : World) (g : Nat) (t : TypeId) (cs : Array Value) : Prop := w.heap[g]? = some (.cells cs t (0, 0))
section
variable {w w' : World} {g : Nat} {t : TypeId} {cs : Array Value}
theorem Blk.lt (h : Blk w g t cs) : g < w.heap.size := by
  rcases Nat.lt_or_ge g w.heap.size with hlt | hge
  · exact hlt
  · unfold Blk at h; rw [Array.getElem?_eq_none hge] at h; cases h
theorem Blk.cell (h : Blk w g t cs) (i : Nat) : w.cell? ⟨g, i, none⟩ = cs[i]? := by
  unfold Blk at h
  simp [World.cell?, h]
theorem Blk.frozen (h : Blk w g t cs) (i : Nat) : w.frozen? ⟨g, i, none⟩ = false := by
  unfold Blk at h
  simp [World.frozen?, h]
theorem Blk.new (w : World) (t : TypeId) (cs : Array Value) : Blk (w.alloc (.cells cs t)) w.heap.size t cs := by
  show (w.heap.push _)[w.heap.size]? = _
  simp
theorem Blk.drewN (h : Blk w g t cs) (n : Nat) : Blk (w.drewN n) g t cs := h
theorem Blk.alloc (h : Blk w g t cs) (o : Obj) : Blk (w.alloc o) g t cs := (Below.heap_alloc w o g h.lt).trans h
theorem Blk.set_ (h : Blk w g t cs) (i : Nat) (u : Value) : Blk (w.setCell ⟨g, i, none⟩ u) g t (cs.setIfInBounds i u) := by
  unfold Blk at h ⊢
  simp [World.setCell, Array.getElem?_modify, h]
theorem Blk.far (h : Blk w g t cs) {p : Addr} (hp : g ≠ p.block) (u : Value) : Blk (w.setCell p u) g t cs := (Below.heap_setCell w p u g hp).trans h
theorem Blk.below {B : Nat} (h : Blk w g t cs) (hb : Below B w w') (hg : g < B) : Blk w' g t cs := (hb.block g hg).trans h
end

/-- Only block b may have changed, and new blocks may have come. -/
structure Only (b : Nat) (w w' : World) : Prop where
  os : w'.os = w.os
  tape : w'.tape = w.tape
  output : w'.output = w.output
  size : w.heap.size ≤ w'.heap.size
  block : ∀ k, k < w.heap.size → k ≠ b → w'.heap[k]? = w.heap[k]?
theorem Only.refl (b : Nat) (w : World) : Only b w w := ⟨rfl, rfl, rfl, Nat.le_refl _, fun _ _ _ => rfl⟩
theorem Only.trans {b : Nat} {u v w : World} (h : Only b u v) (k : Only b v w) : Only b u w :=
  ⟨k.os.trans h.os, k.tape.trans h.tape, k.output.trans h.output, Nat.le_trans h.size k.size, fun i hi hn => (k.block i (Nat.lt_of_lt_of_le hi h.size) hn).trans (h.block i hi hn)⟩
theorem Only.of_below {b : Nat} {u v : World} (h : Below u.heap.size u v) : Only b u v := ⟨h.os, h.tape, h.output, h.size, fun i hi _ => h.block i hi⟩
theorem Only.drewN {b : Nat} {u v : World} (h : Only b u v) (n : Nat) : Only b u (v.drewN n) := ⟨h.os, h.tape, h.output, h.size, h.block⟩
theorem Only.drew {b : Nat} {u v : World} (h : Only b u v) : Only b u v.drew := ⟨h.os, h.tape, h.output, h.size, h.block⟩
theorem Only.alloc {b : Nat} {u v : World} (h : Only b u v) (o : Obj) : Only b u (v.alloc o) :=
  h.trans ⟨rfl, rfl, rfl, by simp, fun k hk _ => Below.heap_alloc _ _ _ hk⟩
theorem Only.set_ {b : Nat} {u v : World} (h : Only b u v) {p : Addr} (hp : p.block = b ∨ u.heap.size ≤ p.block) (x : Value) : Only b u (v.setCell p x) :=
  ⟨h.os, h.tape, h.output, by simpa [World.setCell] using h.size, fun k hk hn => (Below.heap_setCell _ _ _ _ (by rcases hp with e | e <;> omega)).trans (h.block k hk hn)⟩
/-- Below a bound that the block does not lie under. -/
theorem Only.below {b B : Nat} {u v : World} (h : Only b u v) (hb : B ≤ b) (hB : B ≤ u.heap.size) : Below B u v :=
  ⟨h.os, h.tape, h.output, h.size, fun k hk => h.block k (by omega) (by omega)⟩
theorem ocell {b : Nat} {W w1 : World} (h : Only b W w1) : (∀ g o, g < W.heap.size → g ≠ b → w1.cell? ⟨g, o, none⟩ = W.cell? ⟨g, o, none⟩) ∧ (∀ g o, g < W.heap.size → g ≠ b → w1.frozen? ⟨g, o, none⟩ = W.frozen? ⟨g, o, none⟩) :=
  ⟨fun g o h1 h2 => World.cell?_of_block (w := W) (h.block g h1 h2), fun g o h1 h2 => World.frozen?_of_block (w := W) (h.block g h1 h2)⟩

/-- The source: code read from A (as it stood in the world w0), k numbers drawn. -/
def Src (w0 w : World) (b : Nat) (A : Option Addr) (n c : Nat) (k : Nat) : Prop :=
  w0.heap.size ≤ b ∧ Below w0.heap.size w0 w ∧ ∃ seed : Int, Blk w b 82 #[.slice A n c, .int .i64 (k : Int), .int .u64 seed]
theorem Src.lt {w0 w : World} {b : Nat} {A : Option Addr} {n c k : Nat} (h : Src w0 w b A n c k) : b < w.heap.size := by
  obtain ⟨_, _, seed, hb⟩ := h
  exact hb.lt
/-- What leaves the source's block alone keeps the source. -/
theorem Src.keep {w0 w w' : World} {b : Nat} {A : Option Addr} {n c k : Nat} (h : Src w0 w b A n c k) (hb : Below w.heap.size w w') : Src w0 w' b A n c k := by
  have hl := h.lt
  obtain ⟨h1, h2, seed, h3⟩ := h
  exact ⟨h1, h2.trans (hb.mono h2.size), seed, h3.below hb hl⟩
theorem Src.more {w0 w w' : World} {b b' : Nat} {A : Option Addr} {n c k : Nat} (h : Src w0 w b A n c k) (hb : Only b' w w') (hne : b ≠ b') (hge : w0.heap.size ≤ b') : Src w0 w' b A n c k := by
  have hl := h.lt
  obtain ⟨h1, h2, seed, h3⟩ := h
  exact ⟨h1, h2.trans (hb.below hge h2.size), seed, (hb.block b hl hne).trans h3⟩
/-- What a drawn number leaves. -/
def Drawn (w0 w : World) (b : Nat) (A : Option Addr) (n c k : Nat) (P : Int → Prop) (e : Ending) (w' : World) : Prop :=
  ∃ v : Int, P v ∧ e = .returned (.int .i64 v) ∧ (∃ k', k ≤ k' ∧ k' ≤ k + 2 ∧ Src w0 w' b A n c k') ∧ Only b w w'

theorem src_done {w0 w : World} {b : Nat} {A : Option Addr} {n c k : Nat} {seed : Int} (s' : Int) (m1 m2 : Nat) (h1 : w0.heap.size ≤ b) (h2 : Below w0.heap.size w0 w) (h3 : Blk w b 82 #[.slice A n c, .int .i64 (k : Int), .int .u64 seed]) :
    Src w0 ((((w.drewN m1).setCell ⟨b, 1, none⟩ (.int .i64 ((k : Int) + 1))).setCell ⟨b, 2, none⟩ (.int .u64 s')).drewN m2) b A n c (k + 1) ∧
    Only b w ((((w.drewN m1).setCell ⟨b, 1, none⟩ (.int .i64 ((k : Int) + 1))).setCell ⟨b, 2, none⟩ (.int .u64 s')).drewN m2) := by
  have hO : Only b w ((((w.drewN m1).setCell ⟨b, 1, none⟩ (.int .i64 ((k : Int) + 1))).setCell ⟨b, 2, none⟩ (.int .u64 s')).drewN m2) :=
    ((((Only.refl b w).drewN m1).set_ (.inl rfl) _).set_ (.inl rfl) _).drewN m2
  refine ⟨⟨h1, h2.trans (hO.below h1 h2.size), s', ?_⟩, hO⟩
  rw [show ((k + 1 : Nat) : Int) = (k : Int) + 1 from by omega]
  exact (((h3.drewN m1).set_ 1 (.int .i64 ((k : Int) + 1))).set_ 2 (.int .u64 s')).drewN m2
theorem low_byte (Y : Int) : 0 ≤ wrap64 (bits BinOp.and IntKind.u64 (IntKind.u64.wrap Y / 1099511627776) 255) ∧ wrap64 (bits BinOp.and IntKind.u64 (IntKind.u64.wrap Y / 1099511627776) 255) ≤ 255 := by
  have e : IntKind.u64.wrap Y = Y % 18446744073709551616 := IntKind.wrap_u64 _
  have h0 : 0 ≤ Y % 18446744073709551616 := Int.emod_nonneg _ (by omega)
  have h9 : Y % 18446744073709551616 < 18446744073709551616 := Int.emod_lt_of_pos _ (by omega)
  rw [e]
  generalize Y % 18446744073709551616 = X at *
  rw [u64_and (X / 1099511627776) 255 (by omega) (by omega) (by omega) (by omega)]
  have h : (X / 1099511627776).toNat &&& (255 : Int).toNat ≤ 255 := Nat.and_le_right
  generalize (X / 1099511627776).toNat &&& (255 : Int).toNat = m at *
  rw [IntWalk.wrap64_in _ ⟨by omega, by omega⟩]
  omega

set_option maxHeartbeats 1000000 in
theorem src_next (w0 w : World) (b : Nat) (A : Option Addr) (n c k : Nat) (z : List Int) (hk : k < 1099511627776) (ha : ArgInts .u8 w0 A n c z) (hs : Src w0 w b A n c k) :
    Calls Tryz.prog 81 #[.pointer (some ⟨b, 0, none⟩)] w fun e w' => ∃ v : Int, 0 ≤ v ∧ v ≤ 255 ∧ e = .returned (.int .i64 v) ∧ Src w0 w' b A n c (k + 1) ∧ Only b w w' := by
  obtain ⟨h1, h2, seed, h3⟩ := hs
  obtain ⟨hz, hnc, hcm, hwz, hat⟩ := ha
  unfold maxLen at hcm
  have hl := h3.lt
  have c0 : w.cell? ⟨b, 0, none⟩ = some (.slice A n c) := h3.cell 0
  have c1 : w.cell? ⟨b, 1, none⟩ = some (.int .i64 (k : Int)) := h3.cell 1
  have c2 : w.cell? ⟨b, 2, none⟩ = some (.int .u64 seed) := h3.cell 2
  have f1 : w.frozen? ⟨b, 1, none⟩ = false := h3.frozen 1
  have f2 : w.frozen? ⟨b, 2, none⟩ = false := h3.frozen 2
  by_cases hlt : k < n
  · obtain ⟨cb, off, rfl, hcb, hcell⟩ := hat (by omega)
    have hck : w.cell? ⟨cb, off + k, none⟩ = some (.int .u8 (z.getD k 0)) := (h2.cell (p := ⟨cb, off + k, none⟩) hcb).trans (hcell k hlt)
    have hb := bounds_u8 (hwz (z.getD k 0) (by
      rw [List.getD, List.getElem?_eq_getElem (by omega)]
      exact List.getElem_mem _))
    generalize z.getD k 0 = x at *
    have hki : (k : Int) < (n : Int) := by omega
    clear hcell hwz hz hat
    go_enter Tryz.func81, Tryz.ntmps81
    go_wp2
    go_quiet (fail)
    go_wp2
    go_quiet (fail)
    go_wp2
    go_quiet (fail)
    go_wp2
    go_ret
    exact ⟨x, hb.1, hb.2, rfl, (src_done _ _ _ h1 h2 h3).1, (src_done _ _ _ h1 h2 h3).2⟩
  · have d1 : decide ((k : Int) < (n : Int)) = false := by simp; omega
    have d2 : decide ((k : Int) + 1 ≤ (n : Int)) = false := by simp; omega
    clear hwz hz hat
    go_enter Tryz.func81, Tryz.ntmps81
    go_wp2
    go_quiet (fail)
    go_wp2
    go_quiet (fail)
    go_wp2
    go_ret
    exact ⟨_, (low_byte _).1, (low_byte _).2, rfl, (src_done _ _ _ h1 h2 h3).1, (src_done _ _ _ h1 h2 h3).2⟩
end Go.Proofs.YtfjdhjbfingofaaGreatDoor

/-
  What is proved: pick and one of the reference's source: in range, and nothing but the source is changed. Conditions: as named in each.
-/
namespace Go.Proofs.YtfjdhjbfingofaaGreatDoor
open Go.RowKit
set_option linter.unusedVariables false

theorem Only.blk {b g : Nat} {u v : World} {t : TypeId} {cs : Array Value} (ho : Only b u v) (h : Blk u g t cs) (hne : g ≠ b) : Blk v g t cs := (ho.block g h.lt hne).trans h
theorem Src.set_ {w0 w : World} {b : Nat} {A : Option Addr} {n c k : Nat} (h : Src w0 w b A n c k) {p : Addr} (hne : p.block ≠ b) (hge : w0.heap.size ≤ p.block) (x : Value) : Src w0 (w.setCell p x) b A n c k :=
  h.more (b' := p.block) ((Only.refl _ _).set_ (.inl rfl) x) (fun e => hne e.symm) hge
theorem Src.alloc {w0 w : World} {b : Nat} {A : Option Addr} {n c k : Nat} (h : Src w0 w b A n c k) (o : Obj) : Src w0 (w.alloc o) b A n c k := h.keep ((Below.refl _ _).alloc (Nat.le_refl _) o)
theorem Src.base {w0 w : World} {b : Nat} {A : Option Addr} {n c k : Nat} (h : Src w0 w b A n c k) : w0.heap.size ≤ b := h.1

/-- What a pick leaves: a number from 0 to m - 1, at most two numbers drawn, no block but the source's turned. -/
def Picked (w0 w : World) (b : Nat) (A : Option Addr) (n c k : Nat) (m : Int) (e : Ending) (w' : World) : Prop :=
  ∃ (v : Int) (k' : Nat), 0 ≤ v ∧ v < m ∧ e = .returned (.int .i64 v) ∧ k' ≤ k + 2 ∧ Src w0 w' b A n c k' ∧ Only b w w'

set_option maxHeartbeats 400000 in
theorem src_pick (w0 w : World) (b : Nat) (A : Option Addr) (n c k : Nat) (z : List Int) (m : Int) (hm : 1 ≤ m) (hm2 : m ≤ 65536) (hk : k < 1099511627774) (ha : ArgInts .u8 w0 A n c z) (hs : Src w0 w b A n c k) :
    Calls Tryz.prog 58 #[.pointer (some ⟨b, 0, none⟩), .int .i64 m] w (Picked w0 w b A n c k m) := by
  have HA := hide ha
  have HS := hide hs
  clear ha hs
  by_cases h1 : m ≤ 1
  · have d1 : decide (m ≤ 1) = true := by simpa using h1
    go_enter Tryz.func58, Tryz.ntmps58
    go_wp2
    go_ret
    exact ⟨0, k, by omega, by omega, rfl, by omega, HS.out, Only.refl _ _⟩
  · have d1 : decide (m ≤ 1) = false := by simpa using h1
    have gz : (m == 0) = false := by simp; omega
    by_cases h2 : 200 < m
    · have d2 : decide (200 < m) = true := by simpa using h2
      go_enter Tryz.func58, Tryz.ntmps58
      go_wp2_with fail
      refine (src_next w0 _ b A n c k z (by omega) HA.out HS.out).mono ?_
      rintro e w1 ⟨v, hv0, hv1, rfl, hs1, ho1⟩
      have HS1 := hide hs1
      have HO1 := hide ho1
      clear hs1 ho1
      go_wp2_with fail
      refine (src_next w0 _ b A n c (k + 1) z (by omega) HA.out HS1.out).mono ?_
      rintro e w2 ⟨v2, hv20, hv21, rfl, hs2, ho2⟩
      have HS2 := hide hs2
      have HO2 := hide ho2
      clear hs2 ho2
      have q0 : 0 ≤ (v * 256 + v2) % m := Int.emod_nonneg _ (by omega)
      have q1 : (v * 256 + v2) % m < m := Int.emod_lt_of_pos _ (by omega)
      go_wp2
      go_ret
      exact ⟨_, k + 2, q0, q1, rfl, by omega, HS2.out, HO1.out.trans HO2.out⟩
    · have d2 : decide (200 < m) = false := by simpa using h2
      go_enter Tryz.func58, Tryz.ntmps58
      go_wp2_with fail
      refine (src_next w0 _ b A n c k z (by omega) HA.out HS.out).mono ?_
      rintro e w1 ⟨v, hv0, hv1, rfl, hs1, ho1⟩
      have HS1 := hide hs1
      have HO1 := hide ho1
      clear hs1 ho1
      have q0 : 0 ≤ v % m := Int.emod_nonneg _ (by omega)
      have q1 : v % m < m := Int.emod_lt_of_pos _ (by omega)
      go_wp2
      go_ret
      exact ⟨_, k + 1, q0, q1, rfl, by omega, HS1.out, HO1.out⟩

/-- What a one leaves: yes or no. -/
def Oned (w0 w : World) (b : Nat) (A : Option Addr) (n c k : Nat) (e : Ending) (w' : World) : Prop :=
  ∃ (v : Bool) (k' : Nat), e = .returned (.bool v) ∧ k' ≤ k + 2 ∧ Src w0 w' b A n c k' ∧ Only b w w'
set_option maxHeartbeats 400000 in
theorem src_one (w0 w : World) (b : Nat) (A : Option Addr) (n c k : Nat) (z : List Int) (m : Int) (hm : 1 ≤ m) (hm2 : m ≤ 65536) (hk : k < 1099511627774) (ha : ArgInts .u8 w0 A n c z) (hs : Src w0 w b A n c k) :
    Calls Tryz.prog 43 #[.pointer (some ⟨b, 0, none⟩), .int .i64 m] w (Oned w0 w b A n c k) := by
  have HA := hide ha
  have HS := hide hs
  clear ha hs
  go_enter Tryz.func43, Tryz.ntmps43
  go_wp2_with fail
  refine (src_pick w0 _ b A n c k z m hm hm2 hk HA.out HS.out).mono ?_
  rintro e w1 ⟨v, k1, hv0, hv1, rfl, hk1, hs1, ho1⟩
  have HS1 := hide hs1
  have HO1 := hide ho1
  clear hs1 ho1
  go_wp2
  go_ret
  exact ⟨_, k1, rfl, hk1, HS1.out, HO1.out⟩

/-- A new source over the code. -/
theorem src_from (w : World) (A : Option Addr) (n c : Nat) :
    Calls Tryz.prog 30 #[.slice A n c] w fun e w' => e = .returned (.pointer (some ⟨w.heap.size, 0, none⟩)) ∧ w.alloc (.cells #[.slice A n c, .int .i64 0, .int .u64 0] 82) = w' := by
  go_enter Tryz.func30, Tryz.ntmps30
  go_wp2
  go_ret
  exact ⟨rfl, rfl⟩
theorem src_start (w : World) (A : Option Addr) (n c : Nat) (w1 : World) (h : w.alloc (.cells #[.slice A n c, .int .i64 0, .int .u64 0] 82) = w1) : Src w w1 w.heap.size A n c 0 ∧ Below w.heap.size w w1 := by
  subst h
  have hb : Below w.heap.size w (w.alloc (.cells #[.slice A n c, .int .i64 0, .int .u64 0] 82)) := (Below.refl _ _).alloc (Nat.le_refl _) _
  exact ⟨⟨Nat.le_refl _, hb, 0, Blk.new _ _ _⟩, hb⟩
end Go.Proofs.YtfjdhjbfingofaaGreatDoor

/-
  What is proved: one number and one text of a list, drawn by the reference. Conditions: as for the source.
-/
namespace Go.Proofs.YtfjdhjbfingofaaGreatDoor
open Go.RowKit
set_option linter.unusedVariables false

theorem row_only {α : Type} {enc : α → List Value} {k b : Nat} {w w' : World} {A : Option Addr} {xs : List α} (h : Row enc k w A xs) (ho : Only b w w') (hne : ∀ a, A = some a → a.block ≠ b) : Row enc k w' A xs :=
  h.grown (row := some b) ⟨ho.os, ho.tape, ho.output, ho.size, fun i hi hn => ho.block i hi (fun e => hn (by rw [e]))⟩ (fun a g h1 h2 => by
    injection h2 with h2
    subst h2
    exact hne a h1)
/-- A list of one-cell elements, laid as a block. -/
theorem row_lits {α : Type} {enc : α → List Value} {w : World} {g : Nat} {t : TypeId} {cs : Array Value} {f : α → Value} (he : ∀ x, enc x = [f x]) (xs : List α) (h : Blk w g t cs) (hc : cs.toList = xs.map f) : Row enc 1 w (some ⟨g, 0, none⟩) xs :=
  fun _ => ⟨g, 0, rfl, h.lt, fun i x hi j v hv => by
    rw [he] at hv
    have hj : j = 0 := by
      have := (List.getElem?_eq_some_iff.1 hv).1
      simp at this
      exact this
    subst hj
    obtain rfl : f x = v := by simpa using hv
    rw [Nat.zero_add, Nat.mul_one, Nat.add_zero, h.cell, ← Array.getElem?_toList, hc, List.getElem?_map, hi]
    rfl⟩
set_option maxHeartbeats 1000000 in
theorem src_among (w0 w : World) (b : Nat) (A : Option Addr) (n c k : Nat) (z : List Int) (g m d : Nat) (xs : List Int) (hx : xs.length = m) (hm : 1 ≤ m) (hm2 : m ≤ 100) (hg : g ≠ b) (hr : Row encI 1 w (some ⟨g, 0, none⟩) xs) (hk : k < 1099511627774) (ha : ArgInts .u8 w0 A n c z) (hs : Src w0 w b A n c k) :
    Calls Tryz.prog 60 #[.pointer (some ⟨b, 0, none⟩), .slice (some ⟨g, 0, none⟩) m d] w fun e w' => ∃ (x : Int) (k' : Nat), x ∈ xs ∧ e = .returned (.int .i64 x) ∧ k' ≤ k + 2 ∧ Src w0 w' b A n c k' ∧ Only b w w' := by
  have HA := hide ha
  have HS := hide hs
  have HR := hide hr
  clear ha hs hr
  go_enter Tryz.func60, Tryz.ntmps60
  go_wp2_with fail
  refine (src_pick w0 _ b A n c k z (m : Int) (by omega) (by omega) hk HA.out HS.out).mono ?_
  rintro e w1 ⟨v, k1, hv0, hv1, rfl, hk1, hs1, ho1⟩
  obtain ⟨i, rfl⟩ := Int.eq_ofNat_of_zero_le hv0
  have hi : i < xs.length := by omega
  obtain ⟨b2, off2, e2, hb2, a1⟩ := row_at_1 (row_only HR.out ho1 (fun a h => by injection h with h; subst h; exact hg)) (List.getElem?_eq_getElem hi) rfl
  obtain ⟨rfl, rfl⟩ : b2 = g ∧ off2 = 0 := by injection e2 with e2; injection e2 with e1 e3 e4; exact ⟨e1.symm, e3.symm⟩
  rw [Nat.zero_add] at a1
  have hmem : xs[i] ∈ xs := List.getElem_mem hi
  generalize xs[i] = x at *
  have HX := hide hmem
  have HS1 := hide hs1
  have HO1 := hide ho1
  clear hs1 ho1 hmem e2
  go_wp2
  go_ret
  exact ⟨x, k1, HX.out, rfl, hk1, HS1.out, HO1.out⟩
/-- The list is a literal, laid just before. -/
theorem src_amongL (xs : List Int) (cs : Array Value) (t : TypeId) (hc : cs.toList = xs.map (Value.int .i64)) (w0 v : World) (b : Nat) (A : Option Addr) (n c k : Nat) (z : List Int) (m : Nat) (hx : xs.length = m) (hm : 1 ≤ m) (hm2 : m ≤ 100) (hk : k < 1099511627774) (ha : ArgInts .u8 w0 A n c z) (hs : Src w0 v b A n c k) (g d : Nat) (hg : g = v.heap.size) :
    Calls Tryz.prog 60 #[.pointer (some ⟨b, 0, none⟩), .slice (some ⟨g, 0, none⟩) m d] (v.alloc (.cells cs t)) fun e w' => ∃ (x : Int) (k' : Nat), x ∈ xs ∧ e = .returned (.int .i64 x) ∧ k' ≤ k + 2 ∧ Src w0 w' b A n c k' ∧ Only b v w' := by
  subst hg
  have hl := hs.lt
  exact (src_among w0 _ b A n c k z v.heap.size m d xs hx hm hm2 (by omega) (row_lits (fun _ => rfl) xs (Blk.new v t cs) hc) hk ha (hs.alloc _)).mono fun e w' ⟨x, k', h1, h2, h3, h4, h5⟩ => ⟨x, k', h1, h2, h3, h4, ((Only.refl b v).alloc _).trans h5⟩
def encT (x : ByteArray) : List Value := [.string x]
set_option maxHeartbeats 1000000 in
theorem src_txt (w0 w : World) (b : Nat) (A : Option Addr) (n c k : Nat) (z : List Int) (g m d : Nat) (xs : List ByteArray) (hx : xs.length = m) (hm : 1 ≤ m) (hm2 : m ≤ 100) (hg : g ≠ b) (hr : Row encT 1 w (some ⟨g, 0, none⟩) xs) (hk : k < 1099511627774) (ha : ArgInts .u8 w0 A n c z) (hs : Src w0 w b A n c k) :
    Calls Tryz.prog 41 #[.pointer (some ⟨b, 0, none⟩), .slice (some ⟨g, 0, none⟩) m d] w fun e w' => ∃ (x : ByteArray) (k' : Nat), x ∈ xs ∧ e = .returned (.string x) ∧ k' ≤ k + 2 ∧ Src w0 w' b A n c k' ∧ Only b w w' := by
  have HA := hide ha
  have HS := hide hs
  have HR := hide hr
  clear ha hs hr
  go_enter Tryz.func41, Tryz.ntmps41
  go_wp2_with fail
  refine (src_pick w0 _ b A n c k z (m : Int) (by omega) (by omega) hk HA.out HS.out).mono ?_
  rintro e w1 ⟨v, k1, hv0, hv1, rfl, hk1, hs1, ho1⟩
  obtain ⟨i, rfl⟩ := Int.eq_ofNat_of_zero_le hv0
  have hi : i < xs.length := by omega
  obtain ⟨b2, off2, e2, hb2, a1⟩ := row_at_1 (row_only HR.out ho1 (fun a h => by injection h with h; subst h; exact hg)) (List.getElem?_eq_getElem hi) rfl
  obtain ⟨rfl, rfl⟩ : b2 = g ∧ off2 = 0 := by injection e2 with e2; injection e2 with e1 e3 e4; exact ⟨e1.symm, e3.symm⟩
  rw [Nat.zero_add] at a1
  have hmem : xs[i] ∈ xs := List.getElem_mem hi
  generalize xs[i] = x at *
  have HX := hide hmem
  have HS1 := hide hs1
  have HO1 := hide ho1
  clear hs1 ho1 hmem e2
  go_wp2
  go_ret
  exact ⟨x, k1, HX.out, rfl, hk1, HS1.out, HO1.out⟩
theorem src_txtL (xs : List ByteArray) (cs : Array Value) (t : TypeId) (hc : cs.toList = xs.map Value.string) (w0 v : World) (b : Nat) (A : Option Addr) (n c k : Nat) (z : List Int) (m : Nat) (hx : xs.length = m) (hm : 1 ≤ m) (hm2 : m ≤ 100) (hk : k < 1099511627774) (ha : ArgInts .u8 w0 A n c z) (hs : Src w0 v b A n c k) (g d : Nat) (hg : g = v.heap.size) :
    Calls Tryz.prog 41 #[.pointer (some ⟨b, 0, none⟩), .slice (some ⟨g, 0, none⟩) m d] (v.alloc (.cells cs t)) fun e w' => ∃ (x : ByteArray) (k' : Nat), x ∈ xs ∧ e = .returned (.string x) ∧ k' ≤ k + 2 ∧ Src w0 w' b A n c k' ∧ Only b v w' := by
  subst hg
  have hl := hs.lt
  exact (src_txt w0 _ b A n c k z v.heap.size m d xs hx hm hm2 (by omega) (row_lits (fun _ => rfl) xs (Blk.new v t cs) hc) hk ha (hs.alloc _)).mono fun e w' ⟨x, k', h1, h2, h3, h4, h5⟩ => ⟨x, k', h1, h2, h3, h4, ((Only.refl b v).alloc _).trans h5⟩
end Go.Proofs.YtfjdhjbfingofaaGreatDoor

/-
  What is proved: what the reference draws as one clay. Conditions: as for the source.
-/
namespace Go.Proofs.YtfjdhjbfingofaaGreatDoor
open Go.RowKit
set_option linter.unusedVariables false

theorem five_cells {w : World} {g : Nat} {t : TypeId} {x0 x1 x2 x3 x4 : Value} (h : Blk w g t #[x0, x1, x2, x3, x4]) :
    w.cell? ⟨g, 0, none⟩ = some x0 ∧ w.cell? ⟨g, 1, none⟩ = some x1 ∧ w.cell? ⟨g, 2, none⟩ = some x2 ∧ w.cell? ⟨g, 3, none⟩ = some x3 ∧ w.cell? ⟨g, 4, none⟩ = some x4 ∧
    w.frozen? ⟨g, 0, none⟩ = false ∧ w.frozen? ⟨g, 1, none⟩ = false ∧ w.frozen? ⟨g, 2, none⟩ = false ∧ w.frozen? ⟨g, 3, none⟩ = false ∧ w.frozen? ⟨g, 4, none⟩ = false :=
  ⟨h.cell 0, h.cell 1, h.cell 2, h.cell 3, h.cell 4, h.frozen 0, h.frozen 1, h.frozen 2, h.frozen 3, h.frozen 4⟩
set_option maxRecDepth 100000 in
set_option maxHeartbeats 2000000 in
theorem src_l03New (nm : ByteArray) (w0 w : World) (b : Nat) (A : Option Addr) (n c k : Nat) (z : List Int) (hk : k < 1099511627700) (ha : ArgInts .u8 w0 A n c z) (hs : Src w0 w b A n c k) :
    Calls Tryz.prog 42 #[.pointer (some ⟨b, 0, none⟩), .string nm] w fun e w' => ∃ (v1 v2 v3 v4 : Int) (k' : Nat), (0 ≤ v1 ∧ v1 < 20 ∧ 0 ≤ v2 ∧ v2 < 20 ∧ 0 ≤ v3 ∧ v3 < 30 ∧ 0 ≤ v4 ∧ v4 < 40) ∧ e = .returned (.agg #[.string nm, .int .i64 (40 + 5 * v1), .int .i64 (10 * v2), .int .i64 (20 * v3), .int .i64 (10 * v4)]) ∧ k' ≤ k + 8 ∧ Src w0 w' b A n c k' ∧ Only b w w' := by
  have HA := hide ha
  have hbl := hs.lt
  have hba := hs.base
  have hw0 : w0.heap.size ≤ w.heap.size := hs.2.1.size
  have HS := hide (hs.alloc (.cells #[.string ⟨#[]⟩, .int .i64 0, .int .i64 0, .int .i64 0, .int .i64 0] 35))
  have HR := hide (Blk.new w 35 #[.string ⟨#[]⟩, .int .i64 0, .int .i64 0, .int .i64 0, .int .i64 0])
  have hn0 : w.heap.size ≠ b := by omega
  clear ha hs
  go_enter Tryz.func42, Tryz.ntmps42
  go_wp2_with fail
  refine (src_pick w0 _ b A n c k z 20 (by omega) (by omega) (by omega) HA.out HS.out).mono ?_
  rintro e w1 ⟨v1, k1, hv1, hv1', rfl, hk1, hs1, ho1⟩
  have hz1 : w.heap.size < w1.heap.size := by have := ho1.size; simp at this; omega
  have hn1 : w1.heap.size ≠ b := by omega
  have hwa : w0.heap.size ≤ w1.heap.size := by omega
  have HO1 := hide ((((Only.refl b w).alloc _).trans ho1).alloc (.cells #[.string nm, .int .i64 (40 + 5 * v1), .int .i64 0, .int .i64 0, .int .i64 0] 35))
  have HR1 := hide ((ho1.blk HR.out hn0).alloc (.cells #[.string nm, .int .i64 (40 + 5 * v1), .int .i64 0, .int .i64 0, .int .i64 0] 35))
  have HS1 := hide (hs1.alloc (.cells #[.string nm, .int .i64 (40 + 5 * v1), .int .i64 0, .int .i64 0, .int .i64 0] 35))
  have HF1 := hide (Blk.new w1 35 #[.string nm, .int .i64 (40 + 5 * v1), .int .i64 0, .int .i64 0, .int .i64 0])
  clear hs1 ho1
  go_wp2_with fail
  refine (src_pick w0 _ b A n c k1 z 20 (by omega) (by omega) (by omega) HA.out HS1.out).mono ?_
  rintro e w2 ⟨v2, k2, hv2, hv2', rfl, hk2, hs2, ho2⟩
  have hz2 : w1.heap.size < w2.heap.size := by have := ho2.size; simp at this; omega
  have hF2 := ho2.blk HF1.out hn1
  obtain ⟨a0, a1, a2, a3, a4, g0, g1, g2, g3, g4⟩ := five_cells hF2
  have HR2 := hide ((ho2.blk HR1.out hn0).far (p := ⟨w1.heap.size, 2, none⟩) (by show w.heap.size ≠ w1.heap.size; omega) (.int .i64 (10 * v2)))
  have HS2 := hide (hs2.set_ (p := ⟨w1.heap.size, 2, none⟩) hn1 hwa (.int .i64 (10 * v2)))
  have HO2 := hide ((HO1.out.trans ho2).set_ (p := ⟨w1.heap.size, 2, none⟩) (.inr (by show w.heap.size ≤ w1.heap.size; omega)) (.int .i64 (10 * v2)))
  have HF2 := hide (hF2.set_ 2 (.int .i64 (10 * v2)))
  clear hs2 ho2 hF2
  go_wp2_with fail
  refine (src_pick w0 _ b A n c k2 z 30 (by omega) (by omega) (by omega) HA.out HS2.out).mono ?_
  rintro e w3 ⟨v3, k3, hv3, hv3', rfl, hk3, hs3, ho3⟩
  have hz3 : w1.heap.size < w3.heap.size := by have := ho3.size; simp at this; omega
  clear a0 a1 a2 a3 a4 g0 g1 g2 g3 g4
  have hF3 := ho3.blk HF2.out hn1
  obtain ⟨a0, a1, a2, a3, a4, g0, g1, g2, g3, g4⟩ := five_cells hF3
  have HR3 := hide ((ho3.blk HR2.out hn0).far (p := ⟨w1.heap.size, 3, none⟩) (by show w.heap.size ≠ w1.heap.size; omega) (.int .i64 (20 * v3)))
  have HS3 := hide (hs3.set_ (p := ⟨w1.heap.size, 3, none⟩) hn1 hwa (.int .i64 (20 * v3)))
  have HO3 := hide ((HO2.out.trans ho3).set_ (p := ⟨w1.heap.size, 3, none⟩) (.inr (by show w.heap.size ≤ w1.heap.size; omega)) (.int .i64 (20 * v3)))
  have HF3 := hide (hF3.set_ 3 (.int .i64 (20 * v3)))
  clear hs3 ho3 hF3
  go_wp2_with fail
  refine (src_pick w0 _ b A n c k3 z 40 (by omega) (by omega) (by omega) HA.out HS3.out).mono ?_
  rintro e w4 ⟨v4, k4, hv4, hv4', rfl, hk4, hs4, ho4⟩
  have hz4 : w1.heap.size < w4.heap.size := by have := ho4.size; simp at this; omega
  clear a0 a1 a2 a3 a4 g0 g1 g2 g3 g4
  have hF4 := ho4.blk HF3.out hn1
  obtain ⟨a0, a1, a2, a3, a4, g0, g1, g2, g3, g4⟩ := five_cells hF4
  have hR4 := ho4.blk HR3.out hn0
  obtain ⟨r0, r1, r2, r3, r4, q0, q1, q2, q3, q4⟩ := five_cells hR4
  have HS4 := hide (hs4.set_ (p := ⟨w1.heap.size, 4, none⟩) hn1 hwa (.int .i64 (10 * v4)))
  have HO4 := hide ((HO3.out.trans ho4).set_ (p := ⟨w1.heap.size, 4, none⟩) (.inr (by show w.heap.size ≤ w1.heap.size; omega)) (.int .i64 (10 * v4)))
  clear hs4 ho4 hF4 hR4
  go_wp2
  refine bodyPost_ret (v := .agg #[.string nm, .int .i64 (40 + 5 * v1), .int .i64 (10 * v2), .int .i64 (20 * v3), .int .i64 (10 * v4)]) ?_ rfl ?_
  · simp [results, Tryz.results42, go_sem, r0, r1, r2, r3, r4]
  · exact ⟨v1, v2, v3, v4, k4, ⟨hv1, hv1', hv2, hv2', hv3, hv3', hv4, hv4'⟩, rfl, by omega, (((((HS4.out.set_ (p := ⟨w.heap.size, 0, none⟩) hn0 hw0 _).set_ (p := ⟨w.heap.size, 1, none⟩) hn0 hw0 _).set_ (p := ⟨w.heap.size, 2, none⟩) hn0 hw0 _).set_ (p := ⟨w.heap.size, 3, none⟩) hn0 hw0 _).set_ (p := ⟨w.heap.size, 4, none⟩) hn0 hw0 _), (((((HO4.out.set_ (p := ⟨w.heap.size, 0, none⟩) (.inr (Nat.le_refl _)) _).set_ (p := ⟨w.heap.size, 1, none⟩) (.inr (Nat.le_refl _)) _).set_ (p := ⟨w.heap.size, 2, none⟩) (.inr (Nat.le_refl _)) _).set_ (p := ⟨w.heap.size, 3, none⟩) (.inr (Nat.le_refl _)) _).set_ (p := ⟨w.heap.size, 4, none⟩) (.inr (Nat.le_refl _)) _)⟩
end Go.Proofs.YtfjdhjbfingofaaGreatDoor

/-
  What is proved: a list of structs that the call owns: what its cells hold, one element set anew, the cells as a source of an append. No program in sight. No conditions.
-/
namespace Go.Proofs.YtfjdhjbfingofaaGreatDoor
open Go.RowKit
set_option linter.unusedVariables false

theorem set_same {L : List Value} {p : Nat} {a : Value} (h : L[p]? = some a) : L.set p a = L := by
  apply List.ext_getElem?
  intro i
  rw [List.getElem?_set]
  split
  · rename_i e
    subst e
    split
    · exact h.symm
    · rename_i hn
      rw [List.getElem?_eq_none (by omega)]
  · rfl
theorem flat_set {α : Type} {enc : α → List Value} {k : Nat} (hk : ∀ x, (enc x).length = k) : ∀ (xs : List α) (i : Nat) (x : α), i < xs.length → flat enc (xs.set i x) = (flat enc xs).take (i * k) ++ enc x ++ (flat enc xs).drop (i * k + k)
  | y :: ys, 0, x, _ => by
    have hy := hk y
    show enc x ++ flat enc ys = (enc y ++ flat enc ys).take (0 * k) ++ enc x ++ (enc y ++ flat enc ys).drop (0 * k + k)
    rw [Nat.zero_mul, Nat.zero_add, List.take_zero, List.nil_append, ← hy, List.drop_left]
  | y :: ys, i + 1, x, h => by
    have hy := hk y
    have ih := flat_set hk ys i x (by simpa using h)
    show enc y ++ flat enc (ys.set i x) = (enc y ++ flat enc ys).take ((i + 1) * k) ++ enc x ++ (enc y ++ flat enc ys).drop ((i + 1) * k + k)
    rw [ih, Nat.succ_mul]
    generalize i * k = p
    have t1 : (enc y ++ flat enc ys).take (p + k) = enc y ++ (flat enc ys).take p := by rw [List.take_append, hy, List.take_of_length_le (by omega), show p + k - k = p by omega]
    have d1 : (enc y ++ flat enc ys).drop (p + k + k) = (flat enc ys).drop (p + k) := by rw [List.drop_append, hy, List.drop_of_length_le (by omega), show p + k + k - k = p + k by omega, List.nil_append]
    rw [t1, d1]
    simp only [List.append_assoc]
theorem row_news {α : Type} {enc : α → List Value} {k : Nat} {w : World} {ad : Addr} {xs : List α} (hk : ∀ x, (enc x).length = k) (hk0 : 0 < k) (h : Row enc k w (some ad) xs) : ∀ (j : Nat) (u : Value), (flat enc xs)[j]? = some u → w.cell? (ad.add j) = some u := by
  intro j u hj
  have hlt := (List.getElem?_eq_some_iff.1 hj).1
  rw [flat_length hk] at hlt
  have hi : j / k < xs.length := Nat.div_lt_of_lt_mul (by rwa [Nat.mul_comm])
  obtain ⟨x, hx⟩ : ∃ x, xs[j / k]? = some x := ⟨_, List.getElem?_eq_getElem hi⟩
  have hm : j % k < k := Nat.mod_lt _ hk0
  have e : j / k * k + j % k = j := by rw [Nat.mul_comm]; exact Nat.div_add_mod j k
  obtain ⟨b, off, he, hb, hc⟩ := h.at_ hx
  obtain rfl := Option.some.inj he
  have h1 := hc (j % k) u (by rw [← flat_at hk xs _ _ x hx hm, e]; exact hj)
  rw [e] at h1
  by_cases hj0 : j = 0
  · subst hj0
    simpa [Addr.add] using h1
  · simpa [Addr.add, hj0] using h1
theorem enc_oneCell {xs : List Mould} : ∀ u ∈ flat Mould.enc xs, u.oneCell' = true := by
  intro u hu
  obtain ⟨x, hx, hu⟩ := List.mem_flatMap.1 hu
  simp [Mould.enc] at hu
  rcases hu with rfl | rfl | rfl | rfl <;> rfl
theorem own_mould_at {w : World} {base n c g i : Nat} {t : TypeId} {xs : List Mould} {x0 x1 x2 x3 : Int} (h : w.ownsRow base t 4 (.slice (some ⟨g, 0, none⟩) n c) n (flat Mould.enc xs)) (hi : xs[i]? = some ⟨x0, x1, x2, x3⟩) :
    w.cell? ⟨g, i * 4, none⟩ = some (.int .i64 x0) ∧ w.cell? ⟨g, i * 4 + 1, none⟩ = some (.int .i64 x1) ∧ w.cell? ⟨g, i * 4 + 2, none⟩ = some (.int .i64 x2) ∧ w.cell? ⟨g, i * 4 + 3, none⟩ = some (.int .i64 x3) ∧
      w.frozen? ⟨g, i * 4, none⟩ = false ∧ w.frozen? ⟨g, i * 4 + 1, none⟩ = false ∧ w.frozen? ⟨g, i * 4 + 2, none⟩ = false ∧ w.frozen? ⟨g, i * 4 + 3, none⟩ = false := by
  have hl := h.1
  have hx := (List.getElem?_eq_some_iff.1 hi).1
  rw [flat_length (enc := Mould.enc) (k := 4) (fun _ => rfl)] at hl
  have hm : (i + 1) * 4 ≤ n * 4 := Nat.mul_le_mul_right 4 (by omega)
  have f := fun j hj => flat_at (enc := Mould.enc) (k := 4) (fun _ => rfl) xs i j _ hi hj
  refine ⟨?_, ?_, ?_, ?_, h.frozenAt _, h.frozenAt _, h.frozenAt _, h.frozenAt _⟩
  · rw [h.cellAt _ (by omega)]; exact f 0 (by omega)
  · rw [h.cellAt _ (by omega)]; exact f 1 (by omega)
  · rw [h.cellAt _ (by omega)]; exact f 2 (by omega)
  · rw [h.cellAt _ (by omega)]; exact f 3 (by omega)
theorem own_mould_set {w : World} {base n c g i : Nat} {t : TypeId} {xs : List Mould} (x0 x1 x2 x3 : Int) (h : w.ownsRow base t 4 (.slice (some ⟨g, 0, none⟩) n c) n (flat Mould.enc xs)) (hl : xs.length = n) (hi : i < n) :
    World.ownsRow ((((w.setCell ⟨g, i * 4, none⟩ (.int .i64 x0)).setCell ⟨g, i * 4 + 1, none⟩ (.int .i64 x1)).setCell ⟨g, i * 4 + 2, none⟩ (.int .i64 x2)).setCell ⟨g, i * 4 + 3, none⟩ (.int .i64 x3)) base t 4 (.slice (some ⟨g, 0, none⟩) n c) n (flat Mould.enc (xs.set i ⟨x0, x1, x2, x3⟩)) ∧
      w.grownBy ((((w.setCell ⟨g, i * 4, none⟩ (.int .i64 x0)).setCell ⟨g, i * 4 + 1, none⟩ (.int .i64 x1)).setCell ⟨g, i * 4 + 2, none⟩ (.int .i64 x2)).setCell ⟨g, i * 4 + 3, none⟩ (.int .i64 x3)) (some g) := by
  have s := own_store_4 (.int .i64 x0) (.int .i64 x1) (.int .i64 x2) (.int .i64 x3) h hi
  rw [flat_set (k := 4) (fun _ => rfl) xs i ⟨x0, x1, x2, x3⟩ (by omega)]
  exact s
theorem own_mould_use {w : World} {base n c g i : Nat} {t : TypeId} {xs : List Mould} {x0 x1 x2 x3 : Int} (y : Int) (h : w.ownsRow base t 4 (.slice (some ⟨g, 0, none⟩) n c) n (flat Mould.enc xs)) (hi : xs[i]? = some ⟨x0, x1, x2, x3⟩) :
    World.ownsRow (w.setCell ⟨g, i * 4 + 3, none⟩ (.int .i64 y)) base t 4 (.slice (some ⟨g, 0, none⟩) n c) n (flat Mould.enc (xs.set i ⟨x0, x1, x2, y⟩)) ∧ w.grownBy (w.setCell ⟨g, i * 4 + 3, none⟩ (.int .i64 y)) (some g) := by
  have hx := (List.getElem?_eq_some_iff.1 hi).1
  have f := fun j hj => flat_at (enc := Mould.enc) (k := 4) (fun _ => rfl) xs i j _ hi hj
  have s := h.stored (i * 4 + 3) (.int .i64 y)
  have hl := flat_length (enc := Mould.enc) (k := 4) (fun _ => rfl) xs
  have hm : (i + 1) * 4 ≤ xs.length * 4 := Nat.mul_le_mul_right 4 (by omega)
  have e : (flat Mould.enc xs).set (i * 4 + 3) (.int .i64 y) = flat Mould.enc (xs.set i ⟨x0, x1, x2, y⟩) := by
    rw [flat_set (k := 4) (fun _ => rfl) xs i ⟨x0, x1, x2, y⟩ hx]
    show _ = (flat Mould.enc xs).take (i * 4) ++ [.int .i64 x0, .int .i64 x1, .int .i64 x2, .int .i64 y] ++ (flat Mould.enc xs).drop (i * 4 + 4)
    rw [← set_four (flat Mould.enc xs) (i * 4) _ _ _ _ (by omega), set_same (show (flat Mould.enc xs)[i * 4]? = some (.int .i64 x0) from f 0 (by omega)), set_same (show (flat Mould.enc xs)[i * 4 + 1]? = some (.int .i64 x1) from f 1 (by omega)), set_same (show (flat Mould.enc xs)[i * 4 + 2]? = some (.int .i64 x2) from f 2 (by omega))]
  rw [e] at s
  exact ⟨s.1, s.2⟩
end Go.Proofs.YtfjdhjbfingofaaGreatDoor

/-
  What is proved: one field of one element of an owned list, set anew. No program in sight. No conditions.
-/
namespace Go.Proofs.YtfjdhjbfingofaaGreatDoor
open Go.RowKit
set_option linter.unusedVariables false

theorem flat_set_cell {α : Type} {enc : α → List Value} {k : Nat} (hk : ∀ x, (enc x).length = k) : ∀ (xs : List α) (i j : Nat) (x y : α) (u : Value), xs[i]? = some x → j < k → enc y = (enc x).set j u → (flat enc xs).set (i * k + j) u = flat enc (xs.set i y)
  | z :: xs, 0, j, x, y, u, hx, hj, he => by
    obtain rfl : z = x := Option.some.inj hx
    show (enc z ++ flat enc xs).set (0 * k + j) u = enc y ++ flat enc xs
    rw [Nat.zero_mul, Nat.zero_add, List.set_append, if_pos (by rw [hk]; exact hj), he]
  | z :: xs, i + 1, j, x, y, u, hx, hj, he => by
    have ih := flat_set_cell hk xs i j x y u hx hj he
    show (enc z ++ flat enc xs).set ((i + 1) * k + j) u = enc z ++ flat enc (xs.set i y)
    rw [List.set_append, if_neg (by rw [hk, Nat.succ_mul]; omega), hk, show (i + 1) * k + j - k = i * k + j from by rw [Nat.succ_mul]; omega, ih]
theorem own_field {α : Type} {enc : α → List Value} {k : Nat} (hk : ∀ x, (enc x).length = k) {w : World} {base n c g i j : Nat} {t : TypeId} {xs : List α} {x y : α} (u : Value) (h : w.ownsRow base t k (.slice (some ⟨g, 0, none⟩) n c) n (flat enc xs)) (hi : xs[i]? = some x) (hj : j < k) (he : enc y = (enc x).set j u) :
    World.ownsRow (w.setCell ⟨g, i * k + j, none⟩ u) base t k (.slice (some ⟨g, 0, none⟩) n c) n (flat enc (xs.set i y)) ∧ w.grownBy (w.setCell ⟨g, i * k + j, none⟩ u) (some g) := by
  have s := h.stored (i * k + j) u
  rw [flat_set_cell hk xs i j x y u hi hj he] at s
  exact ⟨s.1, s.2⟩
theorem owns_low {w : World} {lo lo' k n : Nat} {t : TypeId} {v : Value} {L : List Value} (h : w.ownsRow lo t k v n L) (hle : lo' ≤ lo) : w.ownsRow lo' t k v n L := by
  refine ⟨h.1, ?_⟩
  rcases h.2 with hv | ⟨g, cap, cur, hv, hb, rest⟩
  · exact .inl hv
  · exact .inr ⟨g, cap, cur, hv, Nat.le_trans hle hb, rest⟩
theorem own_field_mould {w : World} {base n c g i j : Nat} {t : TypeId} {xs : List Mould} (v : Int) (h : w.ownsRow base t 4 (.slice (some ⟨g, 0, none⟩) n c) n (flat Mould.enc xs)) (hl : xs.length = n) (hi : i < n) (hj : j < 4) :
    ∃ y : Mould, World.ownsRow (w.setCell ⟨g, i * 4 + j, none⟩ (.int .i64 v)) base t 4 (.slice (some ⟨g, 0, none⟩) n c) n (flat Mould.enc (xs.set i y)) ∧ w.grownBy (w.setCell ⟨g, i * 4 + j, none⟩ (.int .i64 v)) (some g) := by
  obtain ⟨x, hx⟩ : ∃ x, xs[i]? = some x := ⟨xs[i]'(by omega), List.getElem?_eq_getElem (by omega)⟩
  match j, hj with
  | 0, _ => exact ⟨⟨v, x.w, x.h, x.u⟩, own_field (k := 4) (j := 0) (fun _ => rfl) _ h hx (by omega) rfl⟩
  | 1, _ => exact ⟨⟨x.l, v, x.h, x.u⟩, own_field (k := 4) (j := 1) (fun _ => rfl) _ h hx (by omega) rfl⟩
  | 2, _ => exact ⟨⟨x.l, x.w, v, x.u⟩, own_field (k := 4) (j := 2) (fun _ => rfl) _ h hx (by omega) rfl⟩
  | 3, _ => exact ⟨⟨x.l, x.w, x.h, v⟩, own_field (k := 4) (j := 3) (fun _ => rfl) _ h hx (by omega) rfl⟩
end Go.Proofs.YtfjdhjbfingofaaGreatDoor

/-
  What is proved: what draws and appends leave of a source, of lists and of blocks; an empty list just made; a clay just laid. No program in sight. No conditions.
-/
namespace Go.Proofs.YtfjdhjbfingofaaGreatDoor
open Go.RowKit
set_option linter.unusedVariables false

theorem Src.grw {w0 w w' : World} {b : Nat} {A : Option Addr} {n c k : Nat} {row : Option Nat} (h : Src w0 w b A n c k) (hg : w.grownBy w' row) (hne : some b ≠ row) (hr : ∀ j, row = some j → w0.heap.size ≤ j) : Src w0 w' b A n c k := by
  have hl := h.lt
  obtain ⟨h1, h2, seed, h3⟩ := h
  exact ⟨h1, h2.grown hg h2.size hr, seed, (hg.block b hl hne).trans h3⟩
theorem Only.grw {b : Nat} {u v w' : World} {row : Option Nat} (h : Only b u v) (hg : v.grownBy w' row) (hr : ∀ j, row = some j → u.heap.size ≤ j) : Only b u w' :=
  ⟨hg.os.trans h.os, hg.tape.trans h.tape, hg.output.trans h.output, Nat.le_trans h.size hg.size, fun i hi hn => (hg.block i (Nat.lt_of_lt_of_le hi h.size) (fun e => by have := hr i e.symm; omega)).trans (h.block i hi hn)⟩
theorem Blk.grw {w w' : World} {g : Nat} {t : TypeId} {cs : Array Value} {row : Option Nat} (h : Blk w g t cs) (hg : w.grownBy w' row) (hne : some g ≠ row) : Blk w' g t cs := (hg.block g h.lt hne).trans h
theorem ow_only {w w' : World} {base size n b : Nat} {t : TypeId} {v : Value} {xs : List Value} (h : w.ownsRow base t size v n xs) (ho : Only b w w') (hb : b < base) : w'.ownsRow base t size v n xs :=
  h.kept (row := some b) ⟨ho.os, ho.tape, ho.output, ho.size, fun k hk hne => ho.block k hk (fun e => hne (by rw [e]))⟩ (by
    cases hv : v.ownBlock with
    | none => exact .inl rfl
    | some j => exact .inr (fun e => by have := (h.lt j hv).1; injection e with e; omega))
theorem ow_far {w : World} {lo k n : Nat} {t : TypeId} {v : Value} {L : List Value} {p : Addr} (h : w.ownsRow lo t k v n L) (hp : p.block < lo) (x : Value) : (w.setCell p x).ownsRow lo t k v n L :=
  h.kept (row := some p.block) ⟨rfl, rfl, rfl, by simp, fun i hi hne => Below.heap_setCell _ _ _ _ (fun e => hne (by rw [e]))⟩ (by
    cases hv : v.ownBlock with
    | none => exact .inl rfl
    | some j => exact .inr (fun e => by have := (h.lt j hv).1; injection e with e; omega))
theorem Row.alc {α : Type} {enc : α → List Value} {k : Nat} {w : World} {A : Option Addr} {xs : List α} (h : Row enc k w A xs) (o : Obj) : Row enc k (w.alloc o) A xs := h.below ((Below.refl _ _).alloc (Nat.le_refl _) o)
theorem own_entire {α : Type} {t : TypeId} {k : Nat} {enc : α → List Value} {w : World} {lo g n c : Nat} {xs : List α} (hl : xs.length = n) (h : w.ownsRow lo t k (.slice (some ⟨g, 0, none⟩) n c) n (flat enc xs)) : Own t k enc w lo w.heap.size (some ⟨g, 0, none⟩) n c xs :=
  ⟨hl, h, fun a ha => by injection ha with ha; subst ha; exact (own_lt h).2, Nat.le_refl _⟩
theorem own_empty_at (w : World) (base k : Nat) (t : TypeId) (s : Nat) (hs : w.heap.size = s) (hb : base ≤ s) : (w.alloc (.cells #[] t)).ownsRow base t k (.slice (some ⟨s, 0, none⟩) 0 0) 0 [] := by
  subst hs
  exact own_empty w base k t hb
theorem flat_snoc {α : Type} {enc : α → List Value} (xs : List α) (x : α) : flat enc xs ++ enc x = flat enc (xs ++ [x]) := by simp [flat]
theorem clayN_at (w : World) (x0 : ByteArray) (x1 x2 x3 x4 : Int) (t : TypeId) (s : Nat) (hs : w.heap.size = s) : ∀ (j : Nat) (u : Value), [Value.string x0, .int .i64 x1, .int .i64 x2, .int .i64 x3, .int .i64 x4][j]? = some u → (w.alloc (.cells #[.string x0, .int .i64 x1, .int .i64 x2, .int .i64 x3, .int .i64 x4] t)).cell? ((⟨s, 0, none⟩ : Addr).add j) = some u := by
  subst hs
  intro j u hj
  match j, hj with
  | 0, hj => obtain rfl := Option.some.inj hj; simp [go_sem, Addr.add]
  | 1, hj => obtain rfl := Option.some.inj hj; simp [go_sem, Addr.add]
  | 2, hj => obtain rfl := Option.some.inj hj; simp [go_sem, Addr.add]
  | 3, hj => obtain rfl := Option.some.inj hj; simp [go_sem, Addr.add]
  | 4, hj => obtain rfl := Option.some.inj hj; simp [go_sem, Addr.add]
theorem clayN_one {x0 : ByteArray} {x1 x2 x3 x4 : Int} : ∀ u ∈ [Value.string x0, .int .i64 x1, .int .i64 x2, .int .i64 x3, .int .i64 x4], u.oneCell' = true := fun x hx => by
  simp at hx
  rcases hx with rfl | rfl | rfl | rfl | rfl <;> rfl
/-- A value for a clay's field j. -/
def FieldC (j : Nat) (u : Value) : Prop := (j = 0 ∧ ∃ s : ByteArray, s.size ≤ 16 ∧ u = .string s) ∨ (1 ≤ j ∧ j < 5 ∧ ∃ v : Int, u = .int .i64 v)
def ShortNames (zs : List Clay) : Prop := ∀ z ∈ zs, z.n.size ≤ 16
theorem own_field_clay {w : World} {base n c g i j : Nat} {t : TypeId} {xs : List Clay} {u : Value} (hu : FieldC j u) (h : w.ownsRow base t 5 (.slice (some ⟨g, 0, none⟩) n c) n (flat Clay.enc xs)) (hl : xs.length = n) (hi : i < n) (hS : ShortNames xs) :
    ∃ y : Clay, ShortNames (xs.set i y) ∧ World.ownsRow (w.setCell ⟨g, i * 5 + j, none⟩ u) base t 5 (.slice (some ⟨g, 0, none⟩) n c) n (flat Clay.enc (xs.set i y)) ∧ w.grownBy (w.setCell ⟨g, i * 5 + j, none⟩ u) (some g) := by
  obtain ⟨x, hx⟩ : ∃ x, xs[i]? = some x := ⟨xs[i]'(by omega), List.getElem?_eq_getElem (by omega)⟩
  have hxs := hS x (List.mem_of_getElem? hx)
  have key : ∀ y : Clay, y.n.size ≤ 16 → ShortNames (xs.set i y) := fun y hy z hz => by
    rcases List.mem_or_eq_of_mem_set hz with hz | rfl
    · exact hS z hz
    · exact hy
  rcases hu with ⟨rfl, s, hs, rfl⟩ | ⟨h1, h5, v, rfl⟩
  · exact ⟨⟨s, x.s, x.l, x.d, x.p⟩, key _ hs, own_field (k := 5) (j := 0) (fun _ => rfl) _ h hx (by omega) rfl⟩
  · match j, h1, h5 with
    | 1, _, _ => exact ⟨⟨x.n, v, x.l, x.d, x.p⟩, key _ hxs, own_field (k := 5) (j := 1) (fun _ => rfl) _ h hx (by omega) rfl⟩
    | 2, _, _ => exact ⟨⟨x.n, x.s, v, x.d, x.p⟩, key _ hxs, own_field (k := 5) (j := 2) (fun _ => rfl) _ h hx (by omega) rfl⟩
    | 3, _, _ => exact ⟨⟨x.n, x.s, x.l, v, x.p⟩, key _ hxs, own_field (k := 5) (j := 3) (fun _ => rfl) _ h hx (by omega) rfl⟩
    | 4, _, _ => exact ⟨⟨x.n, x.s, x.l, x.d, v⟩, key _ hxs, own_field (k := 5) (j := 4) (fun _ => rfl) _ h hx (by omega) rfl⟩
end Go.Proofs.YtfjdhjbfingofaaGreatDoor

/-
  What is proved: the text of a mark. Conditions: a mark that is not too great.
-/
namespace Go.Proofs.YtfjdhjbfingofaaGreatDoor
open Go.RowKit
set_option linter.unusedVariables false

def digitsAcc : Nat → Nat → ByteArray → ByteArray
  | 0, _, out => out
  | f + 1, k, out => if k = 0 then out else digitsAcc f (k / 10) ((⟨#[48 + UInt8.ofNat (k % 10)]⟩ ++ out))
def markT (k : Int) : ByteArray := ⟨#[109]⟩ ++ digitsAcc 19 k.toNat ⟨#[]⟩
end Go.Proofs.YtfjdhjbfingofaaGreatDoor

/-
  What is proved: contracts of the laws' own functions on lists of the kind Clay: the copy, the comparison of equal lists, the marks. Conditions: lengths as named in each.
-/
namespace Go.Proofs.YtfjdhjbfingofaaGreatDoor
open Go.RowKit
set_option linter.unusedVariables false

theorem info_Clay : (Tryz.prog.info? 35).map (fun i => (i.zero, i.size, i.bytes)) = some (some (.agg #[.string ⟨#[]⟩, .int .i64 0, .int .i64 0, .int .i64 0, .int .i64 0]), 5, 48) := by kernel_rfl

/-- The marked elements, from k0 on. -/
def marksClay (k0 : Int) (n : Nat) : List Clay := (List.range n).map fun i : Nat => ⟨markT (k0 + 5 * (i : Int)), k0 + 5 * (i : Int) + 1, k0 + 5 * (i : Int) + 1 + 1, k0 + 5 * (i : Int) + 1 + 1 + 1, k0 + 5 * (i : Int) + 1 + 1 + 1 + 1⟩
theorem marksClay_at (k0 : Int) (n i : Nat) (h : i < n) : (marksClay k0 n)[i]? = some ⟨markT (k0 + 5 * (i : Int)), k0 + 5 * (i : Int) + 1, k0 + 5 * (i : Int) + 1 + 1, k0 + 5 * (i : Int) + 1 + 1 + 1, k0 + 5 * (i : Int) + 1 + 1 + 1 + 1⟩ := by
  unfold marksClay
  rw [List.getElem?_map, List.getElem?_range h]
  rfl
theorem marksClay_length (k0 : Int) (n : Nat) : (marksClay k0 n).length = n := by simp [marksClay]
theorem marksClay_take (k0 : Int) (n i : Nat) (h : i ≤ n) : (marksClay k0 n).take i = marksClay k0 i := by
  unfold marksClay
  rw [← List.map_take, List.take_range, Nat.min_eq_left h]
end Go.Proofs.YtfjdhjbfingofaaGreatDoor
