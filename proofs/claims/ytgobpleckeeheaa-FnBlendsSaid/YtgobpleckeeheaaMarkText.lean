/-
  What is proved: the text of a mark. Conditions: a mark that is not too great.
-/
import Derived.Test.YtgobpleckeeheaaProg
import Derived.Test.YtgobpleckeeheaaOwned
import Derived.Handy
import Derived.Lib.Hide
import Derived.BigQuiet
import Derived.Deep.QuietTactic
import Derived.StillTailTactics
import Derived.WalkSpells
import Derived.Laws.BytesArg
namespace Go.Proofs.Ytgobpleckeeheaa
open Go.RowKit
set_option linter.unusedVariables false

def digitsAcc : Nat → Nat → ByteArray → ByteArray
  | 0, _, out => out
  | f + 1, k, out => if k = 0 then out else digitsAcc f (k / 10) ((⟨#[48 + UInt8.ofNat (k % 10)]⟩ ++ out))
def markT (k : Int) : ByteArray := ⟨#[109]⟩ ++ digitsAcc 19 k.toNat ⟨#[]⟩
end Go.Proofs.Ytgobpleckeeheaa
