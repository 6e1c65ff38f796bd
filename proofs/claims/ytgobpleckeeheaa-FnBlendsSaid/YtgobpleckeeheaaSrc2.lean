/-
  What is proved: pick and one of the reference's source: in range, and nothing but the source is changed. Conditions: as named in each.
-/
import Derived.Test.YtgobpleckeeheaaSrc
namespace Go.Proofs.Ytgobpleckeeheaa
open Go.RowKit
set_option linter.unusedVariables false

theorem Only.blk {b g : Nat} {u v : World} {t : TypeId} {cs : Array Value} (ho : Only b u v) (h : Blk u g t cs) (hne : g ≠ b) : Blk v g t cs := (ho.block g h.lt hne).trans h
theorem Src.set_ {w0 w : World} {b : Nat} {A : Option Addr} {n c k : Nat} (h : Src w0 w b A n c k) {p : Addr} (hne : p.block ≠ b) (hge : w0.heap.size ≤ p.block) (x : Value) : Src w0 (w.setCell p x) b A n c k :=
  h.more (b' := p.block) ((Only.refl _ _).set_ (.inl rfl) x) (fun e => hne e.symm) hge
theorem Src.alloc {w0 w : World} {b : Nat} {A : Option Addr} {n c k : Nat} (h : Src w0 w b A n c k) (o : Obj) : Src w0 (w.alloc o) b A n c k := h.keep ((Below.refl _ _).alloc (Nat.le_refl _) o)
theorem Src.base {w0 w : World} {b : Nat} {A : Option Addr} {n c k : Nat} (h : Src w0 w b A n c k) : w0.heap.size ≤ b := h.1

/-- What a pick leaves: a number from 0 to m - 1, at most two numbers drawn, no block but the source's turned. -/
def Picked (w0 w : World) (b : Nat) (A : Option Addr) (n c k : Nat) (m : Int) (e : Ending) (w' : World) : Prop :=
  ∃ (v : Int) (k' : Nat), 0 ≤ v ∧ v < m ∧ e = .returned (.int .i64 v) ∧ k' ≤ k + 2 ∧ Src w0 w' b A n c k' ∧ Only b w w'

set_option maxHeartbeats 400000 in
theorem src_pick (w0 w : World) (b : Nat) (A : Option Addr) (n c k : Nat) (z : List Int) (m : Int) (hm : 1 ≤ m) (hm2 : m ≤ 65536) (hk : k < 1099511627774) (ha : ArgInts .u8 w0 A n c z) (hs : Src w0 w b A n c k) :
    Calls Try.prog 61 #[.pointer (some ⟨b, 0, none⟩), .int .i64 m] w (Picked w0 w b A n c k m) := by
  have HA := hide ha
  have HS := hide hs
  clear ha hs
  by_cases h1 : m ≤ 1
  · have d1 : decide (m ≤ 1) = true := by simpa using h1
    go_enter Try.func61, Try.ntmps61
    go_wp2
    go_ret
    exact ⟨0, k, by omega, by omega, rfl, by omega, HS.out, Only.refl _ _⟩
  · have d1 : decide (m ≤ 1) = false := by simpa using h1
    have gz : (m == 0) = false := by simp; omega
    by_cases h2 : 200 < m
    · have d2 : decide (200 < m) = true := by simpa using h2
      go_enter Try.func61, Try.ntmps61
      go_wp2_with fail
      refine (src_next w0 _ b A n c k z (by omega) HA.out HS.out).mono ?_
      rintro e w1 ⟨v, hv0, hv1, rfl, hs1, ho1⟩
      have HS1 := hide hs1
      have HO1 := hide ho1
      clear hs1 ho1
      go_wp2_with fail
      refine (src_next w0 _ b A n c (k + 1) z (by omega) HA.out HS1.out).mono ?_
      rintro e w2 ⟨v2, hv20, hv21, rfl, hs2, ho2⟩
      have HS2 := hide hs2
      have HO2 := hide ho2
      clear hs2 ho2
      have q0 : 0 ≤ (v * 256 + v2) % m := Int.emod_nonneg _ (by omega)
      have q1 : (v * 256 + v2) % m < m := Int.emod_lt_of_pos _ (by omega)
      go_wp2
      go_ret
      exact ⟨_, k + 2, q0, q1, rfl, by omega, HS2.out, HO1.out.trans HO2.out⟩
    · have d2 : decide (200 < m) = false := by simpa using h2
      go_enter Try.func61, Try.ntmps61
      go_wp2_with fail
      refine (src_next w0 _ b A n c k z (by omega) HA.out HS.out).mono ?_
      rintro e w1 ⟨v, hv0, hv1, rfl, hs1, ho1⟩
      have HS1 := hide hs1
      have HO1 := hide ho1
      clear hs1 ho1
      have q0 : 0 ≤ v % m := Int.emod_nonneg _ (by omega)
      have q1 : v % m < m := Int.emod_lt_of_pos _ (by omega)
      go_wp2
      go_ret
      exact ⟨_, k + 1, q0, q1, rfl, by omega, HS1.out, HO1.out⟩

/-- What a one leaves: yes or no. -/
def Oned (w0 w : World) (b : Nat) (A : Option Addr) (n c k : Nat) (e : Ending) (w' : World) : Prop :=
  ∃ (v : Bool) (k' : Nat), e = .returned (.bool v) ∧ k' ≤ k + 2 ∧ Src w0 w' b A n c k' ∧ Only b w w'
set_option maxHeartbeats 400000 in
theorem src_one (w0 w : World) (b : Nat) (A : Option Addr) (n c k : Nat) (z : List Int) (m : Int) (hm : 1 ≤ m) (hm2 : m ≤ 65536) (hk : k < 1099511627774) (ha : ArgInts .u8 w0 A n c z) (hs : Src w0 w b A n c k) :
    Calls Try.prog 58 #[.pointer (some ⟨b, 0, none⟩), .int .i64 m] w (Oned w0 w b A n c k) := by
  have HA := hide ha
  have HS := hide hs
  clear ha hs
  go_enter Try.func58, Try.ntmps58
  go_wp2_with fail
  refine (src_pick w0 _ b A n c k z m hm hm2 hk HA.out HS.out).mono ?_
  rintro e w1 ⟨v, k1, hv0, hv1, rfl, hk1, hs1, ho1⟩
  have HS1 := hide hs1
  have HO1 := hide ho1
  clear hs1 ho1
  go_wp2
  go_ret
  exact ⟨_, k1, rfl, hk1, HS1.out, HO1.out⟩

/-- A new source over the code. -/
theorem src_from (w : World) (A : Option Addr) (n c : Nat) :
    Calls Try.prog 47 #[.slice A n c] w fun e w' => e = .returned (.pointer (some ⟨w.heap.size, 0, none⟩)) ∧ w.alloc (.cells #[.slice A n c, .int .i64 0, .int .u64 0] 119) = w' := by
  go_enter Try.func47, Try.ntmps47
  go_wp2
  go_ret
  exact ⟨rfl, rfl⟩
theorem src_start (w : World) (A : Option Addr) (n c : Nat) (w1 : World) (h : w.alloc (.cells #[.slice A n c, .int .i64 0, .int .u64 0] 119) = w1) : Src w w1 w.heap.size A n c 0 ∧ Below w.heap.size w w1 := by
  subst h
  have hb : Below w.heap.size w (w.alloc (.cells #[.slice A n c, .int .i64 0, .int .u64 0] 119)) := (Below.refl _ _).alloc (Nat.le_refl _) _
  exact ⟨⟨Nat.le_refl _, hb, 0, Blk.new _ _ _⟩, hb⟩
end Go.Proofs.Ytgobpleckeeheaa
