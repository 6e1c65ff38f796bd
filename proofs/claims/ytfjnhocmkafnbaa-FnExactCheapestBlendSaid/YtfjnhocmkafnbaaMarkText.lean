/-
  What is proved: the text of a mark. Conditions: a mark that is not too great.
-/
import Derived.Test.YtfjnhocmkafnbaaProg
import Derived.Test.YtfjnhocmkafnbaaOwned
import Derived.Handy
import Derived.Lib.Hide
import Derived.BigQuiet
import Derived.Deep.QuietTactic
import Derived.StillTailTactics
import Derived.WalkSpells
import Derived.Laws.BytesArg
namespace Go.Proofs.Ytfjnhocmkafnbaa
open Go.RowKit
set_option linter.unusedVariables false

def digitsAcc : Nat → Nat → ByteArray → ByteArray
  | 0, _, out => out
  | f + 1, k, out => if k = 0 then out else digitsAcc f (k / 10) ((⟨#[48 + UInt8.ofNat (k % 10)]⟩ ++ out))
def markT (k : Int) : ByteArray := ⟨#[109]⟩ ++ digitsAcc 19 k.toNat ⟨#[]⟩
theorem digit_conv (w : World) (d : Int) : (convert 22 9 (.slice (some ⟨w.heap.size, 0, none⟩) 1 1)).run Try.prog (w.alloc (.cells #[.int .u8 d] 5)) = .ok (.string ⟨#[UInt8.ofNat d.toNat]⟩) (w.alloc (.cells #[.int .u8 d] 5)) := by
  have h := run_convert_bytes_arg (P := Try.prog) (w.alloc (.cells #[.int .u8 d] 5)) 22 5 Try.underlying22 Try.underlying5 w.heap.size 0 1 1 [d] rfl (fun i hi => by
    obtain rfl : i = 0 := by omega
    simp [World.cell?_alloc_new]) 9 Try.underlying9
  simpa [strOfNums] using h
set_option maxRecDepth 100000 in
theorem markText_ok (k : Int) (w : World) (h0 : 0 < k) (h1 : k ≤ 100000000000000) :
    Calls Try.prog 97 #[.int .i64 k] w fun e w' => e = .returned (.string (markT k)) ∧ Below w.heap.size w w' := by
  go_enter Try.func97, Try.ntmps97
  go_wp2
  go_loopw [0, 3] (fun v o wr => ∃ (m : Nat) (f : Nat) (out : ByteArray), v = .int .i64 m ∧ o = .string out ∧ m < 10 ^ f ∧ f + out.size ≤ 19 ∧ Hid (digitsAcc f m out = digitsAcc 19 k.toNat ⟨#[]⟩) ∧ Hid (Below w.heap.size w wr)) (fun v _ _ => (intOf v).toNat)
  case atStart => exact ⟨k.toNat, 19, ⟨#[]⟩, by go_num, rfl, by omega, by decide, hide rfl, hide (Below.refl _ _)⟩
  case round =>
    obtain ⟨m, f, out, rfl, rfl, hm, hf, HD, HB⟩ := hrel
    by_cases hlt : 0 < m
    · have hcv := digit_conv wr (48 + (m : Int) % 10)
      obtain ⟨g, rfl⟩ : ∃ g, f = g + 1 := by
        rcases f with _ | g
        · simp at hm; omega
        · exact ⟨g, rfl⟩
      have HS := hide (show digitsAcc (g + 1) m out = digitsAcc g (m / 10) (⟨#[48 + UInt8.ofNat (m % 10)]⟩ ++ out) from by
        rw [digitsAcc, if_neg (by omega)])
      have hm2 : m / 10 < 10 ^ g := Nat.div_lt_of_lt_mul (by rw [Nat.pow_succ] at hm; omega)
      have hm3 : (10 : Nat) ^ g ≤ 10 ^ 18 := Nat.pow_le_pow_right (by omega) (by omega)
      have hw := Go.IntWalk.i64_in ((m : Int) / 10) ⟨by omega, by omega⟩
      clear hm
      go_wp2
      go_roundw
      case rel => exact ⟨m / 10, g, ⟨#[48 + UInt8.ofNat (m % 10)]⟩ ++ out, by go_num, rfl, hm2, by rw [ByteArray.size_append]; show g + (1 + out.size) ≤ 19; omega, hide (by rw [← HS.out]; exact HD.out), hide (HB.out.alloc HB.out.size _)⟩
      case measure => simp [intOf]; omega
    · obtain rfl : m = 0 := by omega
      have HS := hide (show digitsAcc f 0 out = out from by
        cases f with
        | zero => rfl
        | succ f => rw [digitsAcc, if_pos rfl])
      have HT := hide (show markT k = ⟨#[109]⟩ ++ out from by rw [markT, ← HD.out, HS.out])
      go_wp2
      go_ret
      exact ⟨by rw [HT.out]; rfl, HB.out⟩
end Go.Proofs.Ytfjnhocmkafnbaa
