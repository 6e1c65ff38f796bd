/-
  What is proved: the perpends of a course of a bond under names of their own, of the program and of the reference. Conditions: lengths that fit.
-/
import Derived.Test.YtfjnhocmkafnbaaBCode2
import Derived.Test.YtfjnhocmkafnbaaCourseM
namespace Go.Proofs.Ytfjnhocmkafnbaa
open Go.RowKit
set_option linter.unusedVariables false

theorem touch_cell2 {lo hi b i : Nat} {w w' : World} (h : Touch lo hi w w') (h1 : b < lo ∨ hi ≤ b) (h2 : b < w.heap.size) : w'.cell? ⟨b, i, none⟩ = w.cell? ⟨b, i, none⟩ :=
  World.cell?_of_block (h.block b h2 h1)
theorem perpsL_len (s : ByteArray) (zs : List Course) (k u : Int) : (perpsL s zs k u).length ≤ 200 := by
  unfold perpsL
  split
  · rename_i h
    rcases bcode_cases s zs [k] u with ⟨-, hv, ha, hu0, hu1⟩ | h1 | h1
    · obtain ⟨hk0, hk1⟩ := all_one.1 ha
      obtain ⟨k, rfl⟩ : ∃ j : Nat, k = (j : Int) := ⟨k.toNat, by omega⟩
      obtain ⟨x, y, hz⟩ := course_get (zs := zs) k (bond_len hv).1
      have hok : Course.ok ⟨x, y⟩ = true := bond_course hv hz
      rw [courseAt_is hz, perps_length]
      have := cntQ_le hok hu0
      show cntQ x y u ≤ 200
      omega
    · omega
    · omega
  · exact Nat.zero_le _
theorem impl_perpendsOf' (s : ByteArray) (A : Option Addr) (n c : Nat) (zs : List Course) (k u : Int) (K : List Int) (cc : Int) (w : World) (hK : perpsL s zs k u = K) (hC : bcode s zs [k] u = cc) (hs : s.size ≤ maxLen) (hn : n ≤ 16777216) (hl : zs.length = n) (h : Row Course.enc 2 w A zs) (hm : Texts zs) :
    Calls Try.prog 35 #[.agg #[.string s, .slice A n c], .int .i64 k, .int .i64 u] w fun e w' => ∃ A' c', e = .returned (.tuple #[.slice A' K.length c', .int .i64 cc]) ∧ Own 2 1 encI w' w.heap.size w'.heap.size A' K.length c' K ∧ Below w.heap.size w w' := by
  subst hK hC
  exact impl_perpendsOf s A n c zs k u w hs hn hl h hm
theorem spec_perpendsOf' (s : ByteArray) (A : Option Addr) (n c : Nat) (zs : List Course) (k u : Int) (K : List Int) (cc : Int) (w : World) (hK : perpsL s zs k u = K) (hC : bcode s zs [k] u = cc) (hs : s.size ≤ maxLen) (hn : n ≤ 16777216) (hl : zs.length = n) (h : Row Course.enc 2 w A zs) (hm : Texts zs) :
    Calls Try.prog 38 #[.agg #[.string s, .slice A n c], .int .i64 k, .int .i64 u] w fun e w' => ∃ A' c', e = .returned (.tuple #[.slice A' K.length c', .int .i64 cc]) ∧ Own 2 1 encI w' w.heap.size w'.heap.size A' K.length c' K ∧ Below w.heap.size w w' := by
  subst hK hC
  exact spec_perpendsOf s A n c zs k u w hs hn hl h hm
end Go.Proofs.Ytfjnhocmkafnbaa
