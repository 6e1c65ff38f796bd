/-
  What is proved: the reference's source of choices: each number that it draws lies in its range, and nothing but the source itself is changed. Conditions: the source lies in a block of its own; fewer than 2^40 numbers have been drawn.
-/
import Derived.Test.YtgobpleckeeheaaProg
import Derived.Test.YtgobpleckeeheaaArgs
import Derived.Handy
import Derived.Lib.Hide
import Derived.BigQuiet
import Derived.Deep.QuietTactic
import Derived.Laws.OwnMore
namespace Go.Proofs.Ytgobpleckeeheaa
open Go.RowKit
set_option linter.unusedVariables false

/-- A block that is known whole, none of it frozen. -/
def Blk (w : World) (g : Nat) (t : TypeId) (cs : Array Value) : Prop := w.heap[g]? = some (.cells cs t (0, 0))
section
variable {w w' : World} {g : Nat} {t : TypeId} {cs : Array Value}
theorem Blk.lt (h : Blk w g t cs) : g < w.heap.size := by
  rcases Nat.lt_or_ge g w.heap.size with hlt | hge
  · exact hlt
  · unfold Blk at h; rw [Array.getElem?_eq_none hge] at h; cases h
theorem Blk.cell (h : Blk w g t cs) (i : Nat) : w.cell? ⟨g, i, none⟩ = cs[i]? := by
  unfold Blk at h
  simp [World.cell?, h]
theorem Blk.frozen (h : Blk w g t cs) (i : Nat) : w.frozen? ⟨g, i, none⟩ = false := by
  unfold Blk at h
  simp [World.frozen?, h]
theorem Blk.new (w : World) (t : TypeId) (cs : Array Value) : Blk (w.alloc (.cells cs t)) w.heap.size t cs := by
  show (w.heap.push _)[w.heap.size]? = _
  simp
theorem Blk.drewN (h : Blk w g t cs) (n : Nat) : Blk (w.drewN n) g t cs := h
theorem Blk.alloc (h : Blk w g t cs) (o : Obj) : Blk (w.alloc o) g t cs := (Below.heap_alloc w o g h.lt).trans h
theorem Blk.set_ (h : Blk w g t cs) (i : Nat) (u : Value) : Blk (w.setCell ⟨g, i, none⟩ u) g t (cs.setIfInBounds i u) := by
  unfold Blk at h ⊢
  simp [World.setCell, Array.getElem?_modify, h]
theorem Blk.far (h : Blk w g t cs) {p : Addr} (hp : g ≠ p.block) (u : Value) : Blk (w.setCell p u) g t cs := (Below.heap_setCell w p u g hp).trans h
theorem Blk.below {B : Nat} (h : Blk w g t cs) (hb : Below B w w') (hg : g < B) : Blk w' g t cs := (hb.block g hg).trans h
end

/-- Only block b may have changed, and new blocks may have come. -/
structure Only (b : Nat) (w w' : World) : Prop where
  os : w'.os = w.os
  tape : w'.tape = w.tape
  output : w'.output = w.output
  size : w.heap.size ≤ w'.heap.size
  block : ∀ k, k < w.heap.size → k ≠ b → w'.heap[k]? = w.heap[k]?
theorem Only.refl (b : Nat) (w : World) : Only b w w := ⟨rfl, rfl, rfl, Nat.le_refl _, fun _ _ _ => rfl⟩
theorem Only.trans {b : Nat} {u v w : World} (h : Only b u v) (k : Only b v w) : Only b u w :=
  ⟨k.os.trans h.os, k.tape.trans h.tape, k.output.trans h.output, Nat.le_trans h.size k.size, fun i hi hn => (k.block i (Nat.lt_of_lt_of_le hi h.size) hn).trans (h.block i hi hn)⟩
theorem Only.of_below {b : Nat} {u v : World} (h : Below u.heap.size u v) : Only b u v := ⟨h.os, h.tape, h.output, h.size, fun i hi _ => h.block i hi⟩
theorem Only.drewN {b : Nat} {u v : World} (h : Only b u v) (n : Nat) : Only b u (v.drewN n) := ⟨h.os, h.tape, h.output, h.size, h.block⟩
theorem Only.drew {b : Nat} {u v : World} (h : Only b u v) : Only b u v.drew := ⟨h.os, h.tape, h.output, h.size, h.block⟩
theorem Only.alloc {b : Nat} {u v : World} (h : Only b u v) (o : Obj) : Only b u (v.alloc o) :=
  h.trans ⟨rfl, rfl, rfl, by simp, fun k hk _ => Below.heap_alloc _ _ _ hk⟩
theorem Only.set_ {b : Nat} {u v : World} (h : Only b u v) {p : Addr} (hp : p.block = b ∨ u.heap.size ≤ p.block) (x : Value) : Only b u (v.setCell p x) :=
  ⟨h.os, h.tape, h.output, by simpa [World.setCell] using h.size, fun k hk hn => (Below.heap_setCell _ _ _ _ (by rcases hp with e | e <;> omega)).trans (h.block k hk hn)⟩
/-- Below a bound that the block does not lie under. -/
theorem Only.below {b B : Nat} {u v : World} (h : Only b u v) (hb : B ≤ b) (hB : B ≤ u.heap.size) : Below B u v :=
  ⟨h.os, h.tape, h.output, h.size, fun k hk => h.block k (by omega) (by omega)⟩
theorem ocell {b : Nat} {W w1 : World} (h : Only b W w1) : (∀ g o, g < W.heap.size → g ≠ b → w1.cell? ⟨g, o, none⟩ = W.cell? ⟨g, o, none⟩) ∧ (∀ g o, g < W.heap.size → g ≠ b → w1.frozen? ⟨g, o, none⟩ = W.frozen? ⟨g, o, none⟩) :=
  ⟨fun g o h1 h2 => World.cell?_of_block (w := W) (h.block g h1 h2), fun g o h1 h2 => World.frozen?_of_block (w := W) (h.block g h1 h2)⟩

/-- The source: code read from A (as it stood in the world w0), k numbers drawn. -/
def Src (w0 w : World) (b : Nat) (A : Option Addr) (n c : Nat) (k : Nat) : Prop :=
  w0.heap.size ≤ b ∧ Below w0.heap.size w0 w ∧ ∃ seed : Int, Blk w b 119 #[.slice A n c, .int .i64 (k : Int), .int .u64 seed]
theorem Src.lt {w0 w : World} {b : Nat} {A : Option Addr} {n c k : Nat} (h : Src w0 w b A n c k) : b < w.heap.size := by
  obtain ⟨_, _, seed, hb⟩ := h
  exact hb.lt
/-- What leaves the source's block alone keeps the source. -/
theorem Src.keep {w0 w w' : World} {b : Nat} {A : Option Addr} {n c k : Nat} (h : Src w0 w b A n c k) (hb : Below w.heap.size w w') : Src w0 w' b A n c k := by
  have hl := h.lt
  obtain ⟨h1, h2, seed, h3⟩ := h
  exact ⟨h1, h2.trans (hb.mono h2.size), seed, h3.below hb hl⟩
theorem Src.more {w0 w w' : World} {b b' : Nat} {A : Option Addr} {n c k : Nat} (h : Src w0 w b A n c k) (hb : Only b' w w') (hne : b ≠ b') (hge : w0.heap.size ≤ b') : Src w0 w' b A n c k := by
  have hl := h.lt
  obtain ⟨h1, h2, seed, h3⟩ := h
  exact ⟨h1, h2.trans (hb.below hge h2.size), seed, (hb.block b hl hne).trans h3⟩
/-- What a drawn number leaves. -/
def Drawn (w0 w : World) (b : Nat) (A : Option Addr) (n c k : Nat) (P : Int → Prop) (e : Ending) (w' : World) : Prop :=
  ∃ v : Int, P v ∧ e = .returned (.int .i64 v) ∧ (∃ k', k ≤ k' ∧ k' ≤ k + 2 ∧ Src w0 w' b A n c k') ∧ Only b w w'

theorem src_done {w0 w : World} {b : Nat} {A : Option Addr} {n c k : Nat} {seed : Int} (s' : Int) (m1 m2 : Nat) (h1 : w0.heap.size ≤ b) (h2 : Below w0.heap.size w0 w) (h3 : Blk w b 119 #[.slice A n c, .int .i64 (k : Int), .int .u64 seed]) :
    Src w0 ((((w.drewN m1).setCell ⟨b, 1, none⟩ (.int .i64 ((k : Int) + 1))).setCell ⟨b, 2, none⟩ (.int .u64 s')).drewN m2) b A n c (k + 1) ∧
    Only b w ((((w.drewN m1).setCell ⟨b, 1, none⟩ (.int .i64 ((k : Int) + 1))).setCell ⟨b, 2, none⟩ (.int .u64 s')).drewN m2) := by
  have hO : Only b w ((((w.drewN m1).setCell ⟨b, 1, none⟩ (.int .i64 ((k : Int) + 1))).setCell ⟨b, 2, none⟩ (.int .u64 s')).drewN m2) :=
    ((((Only.refl b w).drewN m1).set_ (.inl rfl) _).set_ (.inl rfl) _).drewN m2
  refine ⟨⟨h1, h2.trans (hO.below h1 h2.size), s', ?_⟩, hO⟩
  rw [show ((k + 1 : Nat) : Int) = (k : Int) + 1 from by omega]
  exact (((h3.drewN m1).set_ 1 (.int .i64 ((k : Int) + 1))).set_ 2 (.int .u64 s')).drewN m2
theorem low_byte (Y : Int) : 0 ≤ wrap64 (bits BinOp.and IntKind.u64 (IntKind.u64.wrap Y / 1099511627776) 255) ∧ wrap64 (bits BinOp.and IntKind.u64 (IntKind.u64.wrap Y / 1099511627776) 255) ≤ 255 := by
  have e : IntKind.u64.wrap Y = Y % 18446744073709551616 := IntKind.wrap_u64 _
  have h0 : 0 ≤ Y % 18446744073709551616 := Int.emod_nonneg _ (by omega)
  have h9 : Y % 18446744073709551616 < 18446744073709551616 := Int.emod_lt_of_pos _ (by omega)
  rw [e]
  generalize Y % 18446744073709551616 = X at *
  rw [u64_and (X / 1099511627776) 255 (by omega) (by omega) (by omega) (by omega)]
  have h : (X / 1099511627776).toNat &&& (255 : Int).toNat ≤ 255 := Nat.and_le_right
  generalize (X / 1099511627776).toNat &&& (255 : Int).toNat = m at *
  rw [IntWalk.wrap64_in _ ⟨by omega, by omega⟩]
  omega

set_option maxHeartbeats 1000000 in
theorem src_next (w0 w : World) (b : Nat) (A : Option Addr) (n c k : Nat) (z : List Int) (hk : k < 1099511627776) (ha : ArgInts .u8 w0 A n c z) (hs : Src w0 w b A n c k) :
    Calls Try.prog 103 #[.pointer (some ⟨b, 0, none⟩)] w fun e w' => ∃ v : Int, 0 ≤ v ∧ v ≤ 255 ∧ e = .returned (.int .i64 v) ∧ Src w0 w' b A n c (k + 1) ∧ Only b w w' := by
  obtain ⟨h1, h2, seed, h3⟩ := hs
  obtain ⟨hz, hnc, hcm, hwz, hat⟩ := ha
  unfold maxLen at hcm
  have hl := h3.lt
  have c0 : w.cell? ⟨b, 0, none⟩ = some (.slice A n c) := h3.cell 0
  have c1 : w.cell? ⟨b, 1, none⟩ = some (.int .i64 (k : Int)) := h3.cell 1
  have c2 : w.cell? ⟨b, 2, none⟩ = some (.int .u64 seed) := h3.cell 2
  have f1 : w.frozen? ⟨b, 1, none⟩ = false := h3.frozen 1
  have f2 : w.frozen? ⟨b, 2, none⟩ = false := h3.frozen 2
  by_cases hlt : k < n
  · obtain ⟨cb, off, rfl, hcb, hcell⟩ := hat (by omega)
    have hck : w.cell? ⟨cb, off + k, none⟩ = some (.int .u8 (z.getD k 0)) := (h2.cell (p := ⟨cb, off + k, none⟩) hcb).trans (hcell k hlt)
    have hb := bounds_u8 (hwz (z.getD k 0) (by
      rw [List.getD, List.getElem?_eq_getElem (by omega)]
      exact List.getElem_mem _))
    generalize z.getD k 0 = x at *
    have hki : (k : Int) < (n : Int) := by omega
    clear hcell hwz hz hat
    go_enter Try.func103, Try.ntmps103
    go_wp2
    go_quiet (fail)
    go_wp2
    go_quiet (fail)
    go_wp2
    go_quiet (fail)
    go_wp2
    go_ret
    exact ⟨x, hb.1, hb.2, rfl, (src_done _ _ _ h1 h2 h3).1, (src_done _ _ _ h1 h2 h3).2⟩
  · have d1 : decide ((k : Int) < (n : Int)) = false := by simp; omega
    have d2 : decide ((k : Int) + 1 ≤ (n : Int)) = false := by simp; omega
    clear hwz hz hat
    go_enter Try.func103, Try.ntmps103
    go_wp2
    go_quiet (fail)
    go_wp2
    go_quiet (fail)
    go_wp2
    go_ret
    exact ⟨_, (low_byte _).1, (low_byte _).2, rfl, (src_done _ _ _ h1 h2 h3).1, (src_done _ _ _ h1 h2 h3).2⟩
end Go.Proofs.Ytgobpleckeeheaa
