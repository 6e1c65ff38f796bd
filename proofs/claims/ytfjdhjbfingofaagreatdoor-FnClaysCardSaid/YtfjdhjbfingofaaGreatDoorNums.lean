/-
  What is proved: three numbers written with a byte between them, and read back, by the program. Conditions: lengths that fit; the library's own variables hold what they are laid with.
-/
import Derived.Test.YtfjdhjbfingofaaGreatDoorNum
import Derived.Test.YtfjdhjbfingofaaGreatDoorTextP
import Derived.Test.YtfjdhjbfingofaaGreatDoorJoinF
namespace Go.Proofs.YtfjdhjbfingofaaGreatDoor
open Go.RowKit Go.PlainAid
set_option linter.unusedVariables false

theorem info_Int : (Tryz.prog.info? 2).map (fun i => (i.zero, i.size, i.bytes)) = some (some (.int .i64 0), 1, 8) := by kernel_rfl
theorem decB_size (n : Int) (h : I64 n) : (decB n).size ≤ 20 := by
  unfold decB
  rw [ba_size']
  exact itoa_size n h.1 h.2
theorem sizes_size (x y z : Int) (h0 : I64 x) (h1 : I64 y) (h2 : I64 z) : (ba (sizesT x y z)).size ≤ 62 := by
  rw [ba_size']
  have a := itoa_size x h0.1 h0.2
  have b := itoa_size y h1.1 h1.2
  have c := itoa_size z h2.1 h2.2
  unfold sizesT
  simp
  omega
theorem spl_size {c : UInt8} {l p : List UInt8} (h : p ∈ spl c l) : p.length ≤ l.length := by
  induction hn : l.length using Nat.strongRecOn generalizing l with
  | ind n ih =>
    rcases spl_cases c l with ⟨h1, _⟩ | ⟨a, b, rfl, h1, _⟩
    · rw [spl_none h1] at h
      obtain rfl := List.mem_singleton.1 h
      omega
    · rw [spl_cut h1] at h
      rw [← hn]
      rcases List.mem_cons.1 h with rfl | h
      · simp
      · have := ih b.length (by rw [← hn]; simp; omega) h rfl
        simp
        omega
end Go.Proofs.YtfjdhjbfingofaaGreatDoor
