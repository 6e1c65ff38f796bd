/-
  No cell of these rows narrows 'for every input' (looked for: loops, veiled, ifaces, maps, wideKeys, modest, calm, conditions, laid).
  DERIVED. THE GIVEN ROWS OF THIS SEAT. 8 by the template 'for every input the law returns true; each argument reads behind the call as it read before'; 0 by the template 'total and deterministic' (their statements: YtlokmkiicmpccaaTotals.lean).
  GIVEN WITH THE SEED: the statements are not yours to turn. If you find one false, say at which input.
  Laid BY PROGRAM, IN A SANDBOX (cutbox-rows.mjs): the forced cells as the released guide's own fill.sh prints them over the translation c51e0724cd9c478b… (all of the seat's roots in one cut). By AI agents, Wed Nov 11 2026. No macro, syntax, notation, axiom, sorry.
-/
import Derived.Test.YtlokmkiicmpccaaChecked
import GoSem.Claim
import GoSem.ClaimJoined
import GoSem.ClaimMapViews
import Derived.JoinedTies
import Derived.KernelRfl
namespace Go.Proofs.Ytlokmkiicmpccaa
/- THE CELL 'sum', in the pinned program and in every row, IS THE sha256 OF THE DUMP (.gsa) THAT YtlokmkiicmpccaaProg.lean LOADS. Nothing in Lean hashes anything: it is a label: what it is worth is what the hold of that sum in a sandbox is worth. -/
noncomputable def Try.pinned : Pinned := { name := "ytlokmkiicmpccaa", sum := "c51e0724cd9c478bd6e2754686dfde9156e0147bed0461d99c5031bee6d4b51e", checked := Try.checked }
namespace Rows
def none {H : Type} : Left H := { results := [], args := [] }

/-- 'laws.FnExactSameBond': WHATEVER THE INPUT: true; the input reads as it did. -/
def fnExactSameBondSpec : ChangeSpec := { name := "fnExactSameBond", fn := fun _ => fun
  | [d1, d2] => { results := [.lit (.bool true)], args := [d1, d2] }
  | _ => none }
def fnExactSameBondRow : OpenClaim := { program := "ytlokmkiicmpccaa", sum := "c51e0724cd9c478bd6e2754686dfde9156e0147bed0461d99c5031bee6d4b51e", func := "loop.example/g01042/laws.FnExactSameBond", spec := "fnExactSameBond", apart := false }
def FnExactSameBondSaid : Prop := fnExactSameBondRow.holds Try.pinned (OpenSpec.ofChange fnExactSameBondSpec)

/-- ITS FALSE NEIGHBOUR: 'it returns false'. Refute it at one input. -/
def fnExactSameBondWrong : ChangeSpec := { name := "fnExactSameBond", fn := fun _ => fun
  | [d1, d2] => { results := [.lit (.bool false)], args := [d1, d2] }
  | _ => none }
def FnExactSameBondWrongFalsely : Prop := fnExactSameBondRow.holds Try.pinned (OpenSpec.ofChange fnExactSameBondWrong)

/-- 'laws.FnExactValidBond': WHATEVER THE INPUT: true; the input reads as it did. -/
def fnExactValidBondSpec : ChangeSpec := { name := "fnExactValidBond", fn := fun _ => fun
  | [d] => { results := [.lit (.bool true)], args := [d] }
  | _ => none }
def fnExactValidBondRow : OpenClaim := { program := "ytlokmkiicmpccaa", sum := "c51e0724cd9c478bd6e2754686dfde9156e0147bed0461d99c5031bee6d4b51e", func := "loop.example/g01042/laws.FnExactValidBond", spec := "fnExactValidBond", inPlace := ["internal/bytealg.IndexByteString"], unfollowed := true, recurses := true, apart := false }
def FnExactValidBondSaid : Prop := fnExactValidBondRow.holds Try.pinned (OpenSpec.ofChange fnExactValidBondSpec)

/-- ITS FALSE NEIGHBOUR: 'it returns false'. Refute it at one input. -/
def fnExactValidBondWrong : ChangeSpec := { name := "fnExactValidBond", fn := fun _ => fun
  | [d] => { results := [.lit (.bool false)], args := [d] }
  | _ => none }
def FnExactValidBondWrongFalsely : Prop := fnExactValidBondRow.holds Try.pinned (OpenSpec.ofChange fnExactValidBondWrong)

/-- 'laws.FnExactHeadersIn': WHATEVER THE INPUT: true; the input reads as it did. -/
def fnExactHeadersInSpec : ChangeSpec := { name := "fnExactHeadersIn", fn := fun _ => fun
  | [d1, d2, d3] => { results := [.lit (.bool true)], args := [d1, d2, d3] }
  | _ => none }
def fnExactHeadersInRow : OpenClaim := { program := "ytlokmkiicmpccaa", sum := "c51e0724cd9c478bd6e2754686dfde9156e0147bed0461d99c5031bee6d4b51e", func := "loop.example/g01042/laws.FnExactHeadersIn", spec := "fnExactHeadersIn", inPlace := ["internal/bytealg.IndexByteString"], unfollowed := true, recurses := true, apart := false }
def FnExactHeadersInSaid : Prop := fnExactHeadersInRow.holds Try.pinned (OpenSpec.ofChange fnExactHeadersInSpec)

/-- ITS FALSE NEIGHBOUR: 'it returns false'. Refute it at one input. -/
def fnExactHeadersInWrong : ChangeSpec := { name := "fnExactHeadersIn", fn := fun _ => fun
  | [d1, d2, d3] => { results := [.lit (.bool false)], args := [d1, d2, d3] }
  | _ => none }
def FnExactHeadersInWrongFalsely : Prop := fnExactHeadersInRow.holds Try.pinned (OpenSpec.ofChange fnExactHeadersInWrong)

/-- 'laws.FnExactLapBetween': WHATEVER THE INPUT: true; the input reads as it did. -/
def fnExactLapBetweenSpec : ChangeSpec := { name := "fnExactLapBetween", fn := fun _ => fun
  | [d1, d2, d3, d4] => { results := [.lit (.bool true)], args := [d1, d2, d3, d4] }
  | _ => none }
def fnExactLapBetweenRow : OpenClaim := { program := "ytlokmkiicmpccaa", sum := "c51e0724cd9c478bd6e2754686dfde9156e0147bed0461d99c5031bee6d4b51e", func := "loop.example/g01042/laws.FnExactLapBetween", spec := "fnExactLapBetween", inPlace := ["internal/bytealg.IndexByteString"], unfollowed := true, recurses := true, apart := false }
def FnExactLapBetweenSaid : Prop := fnExactLapBetweenRow.holds Try.pinned (OpenSpec.ofChange fnExactLapBetweenSpec)

/-- ITS FALSE NEIGHBOUR: 'it returns false'. Refute it at one input. -/
def fnExactLapBetweenWrong : ChangeSpec := { name := "fnExactLapBetween", fn := fun _ => fun
  | [d1, d2, d3, d4] => { results := [.lit (.bool false)], args := [d1, d2, d3, d4] }
  | _ => none }
def FnExactLapBetweenWrongFalsely : Prop := fnExactLapBetweenRow.holds Try.pinned (OpenSpec.ofChange fnExactLapBetweenWrong)

/-- 'laws.FnExactPerpendsOf': WHATEVER THE INPUT: true; the input reads as it did. -/
def fnExactPerpendsOfSpec : ChangeSpec := { name := "fnExactPerpendsOf", fn := fun _ => fun
  | [d1, d2, d3] => { results := [.lit (.bool true)], args := [d1, d2, d3] }
  | _ => none }
def fnExactPerpendsOfRow : OpenClaim := { program := "ytlokmkiicmpccaa", sum := "c51e0724cd9c478bd6e2754686dfde9156e0147bed0461d99c5031bee6d4b51e", func := "loop.example/g01042/laws.FnExactPerpendsOf", spec := "fnExactPerpendsOf", inPlace := ["internal/bytealg.IndexByteString"], unfollowed := true, recurses := true, apart := false }
def FnExactPerpendsOfSaid : Prop := fnExactPerpendsOfRow.holds Try.pinned (OpenSpec.ofChange fnExactPerpendsOfSpec)

/-- ITS FALSE NEIGHBOUR: 'it returns false'. Refute it at one input. -/
def fnExactPerpendsOfWrong : ChangeSpec := { name := "fnExactPerpendsOf", fn := fun _ => fun
  | [d1, d2, d3] => { results := [.lit (.bool false)], args := [d1, d2, d3] }
  | _ => none }
def FnExactPerpendsOfWrongFalsely : Prop := fnExactPerpendsOfRow.holds Try.pinned (OpenSpec.ofChange fnExactPerpendsOfWrong)

/-- 'laws.FnExactLapOfBond': WHATEVER THE INPUT: true; the input reads as it did. -/
def fnExactLapOfBondSpec : ChangeSpec := { name := "fnExactLapOfBond", fn := fun _ => fun
  | [d1, d2] => { results := [.lit (.bool true)], args := [d1, d2] }
  | _ => none }
def fnExactLapOfBondRow : OpenClaim := { program := "ytlokmkiicmpccaa", sum := "c51e0724cd9c478bd6e2754686dfde9156e0147bed0461d99c5031bee6d4b51e", func := "loop.example/g01042/laws.FnExactLapOfBond", spec := "fnExactLapOfBond", inPlace := ["internal/bytealg.IndexByteString"], unfollowed := true, recurses := true, apart := false }
def FnExactLapOfBondSaid : Prop := fnExactLapOfBondRow.holds Try.pinned (OpenSpec.ofChange fnExactLapOfBondSpec)

/-- ITS FALSE NEIGHBOUR: 'it returns false'. Refute it at one input. -/
def fnExactLapOfBondWrong : ChangeSpec := { name := "fnExactLapOfBond", fn := fun _ => fun
  | [d1, d2] => { results := [.lit (.bool false)], args := [d1, d2] }
  | _ => none }
def FnExactLapOfBondWrongFalsely : Prop := fnExactLapOfBondRow.holds Try.pinned (OpenSpec.ofChange fnExactLapOfBondWrong)

/-- 'laws.FnExactBondText': WHATEVER THE INPUT: true; the input reads as it did. -/
def fnExactBondTextSpec : ChangeSpec := { name := "fnExactBondText", fn := fun _ => fun
  | [d] => { results := [.lit (.bool true)], args := [d] }
  | _ => none }
def fnExactBondTextRow : OpenClaim := { program := "ytlokmkiicmpccaa", sum := "c51e0724cd9c478bd6e2754686dfde9156e0147bed0461d99c5031bee6d4b51e", func := "loop.example/g01042/laws.FnExactBondText", spec := "fnExactBondText", inPlace := ["internal/bytealg.IndexByteString"], unfollowed := true, recurses := true, apart := false }
def FnExactBondTextSaid : Prop := fnExactBondTextRow.holds Try.pinned (OpenSpec.ofChange fnExactBondTextSpec)

/-- ITS FALSE NEIGHBOUR: 'it returns false'. Refute it at one input. -/
def fnExactBondTextWrong : ChangeSpec := { name := "fnExactBondText", fn := fun _ => fun
  | [d] => { results := [.lit (.bool false)], args := [d] }
  | _ => none }
def FnExactBondTextWrongFalsely : Prop := fnExactBondTextRow.holds Try.pinned (OpenSpec.ofChange fnExactBondTextWrong)

/-- 'laws.FnPerpends': WHATEVER THE INPUT: true; the input reads as it did. -/
def fnPerpendsSpec : ChangeSpec := { name := "fnPerpends", fn := fun _ => fun
  | [d1, d2] => { results := [.lit (.bool true)], args := [d1, d2] }
  | _ => none }
def fnPerpendsRow : OpenClaim := { program := "ytlokmkiicmpccaa", sum := "c51e0724cd9c478bd6e2754686dfde9156e0147bed0461d99c5031bee6d4b51e", func := "loop.example/g01042/laws.FnPerpends", spec := "fnPerpends", inPlace := ["internal/bytealg.IndexByteString"], unfollowed := true, recurses := true, apart := false }
def FnPerpendsSaid : Prop := fnPerpendsRow.holds Try.pinned (OpenSpec.ofChange fnPerpendsSpec)

/-- ITS FALSE NEIGHBOUR: 'it returns false'. Refute it at one input. -/
def fnPerpendsWrong : ChangeSpec := { name := "fnPerpends", fn := fun _ => fun
  | [d1, d2] => { results := [.lit (.bool false)], args := [d1, d2] }
  | _ => none }
def FnPerpendsWrongFalsely : Prop := fnPerpendsRow.holds Try.pinned (OpenSpec.ofChange fnPerpendsWrong)

/- THE SECOND FORM. 'bulk': how many values and letters a reading holds, each counted each time it is reached (what is shared counts as often as it is met; a slice's spare places count too). A statement '..UptoSaid' is the law's where the arguments, and the package variables that the reading takes, are together of bulk at most 1048576: NARROWER than '..Said'. Prove '..Said' where nothing that the law and all that it calls make is longer than what came in: it says more and counts as full. Else prove '..UptoSaid'. A law counts once. -/
mutual
def uptoBulk {H : Type} : DataW H → Nat
  | .lit (.string bytes) => bytes.length + 1
  | .lit _ => 1
  | .nil => 1
  | .ptr d => uptoBulk d + 1
  | .slice elems spare => uptoBulkAll elems + uptoBulkAll spare + 1
  | .agg parts => uptoBulkAll parts + 1
  | .iface _ d => uptoBulk d + 1
  | .map entries => uptoBulkEntries entries + 1
  | .held _ => 1
def uptoBulkAll {H : Type} : List (DataW H) → Nat
  | [] => 0
  | d :: r => uptoBulk d + uptoBulkAll r
def uptoBulkEntries {H : Type} : List (Lit × DataW H) → Nat
  | [] => 0
  | x :: r => uptoBulkEntry x + uptoBulkEntries r
def uptoBulkEntry {H : Type} : Lit × DataW H → Nat
  | (.string bytes, d) => bytes.length + uptoBulk d + 1
  | (_, d) => uptoBulk d + 1
 end
def uptoSmall : (H : Type) → List (DataW H) → Bool := fun _ ds => decide (uptoBulkAll ds ≤ 1048576)
def OpenSpec.upto (s : _root_.Go.ChangeSpec) : _root_.Go.OpenSpec := { _root_.Go.OpenSpec.ofChange s with cond := some uptoSmall }

/-- 'laws.FnExactSameBond', WHERE WHAT IT READS IS OF BULK AT MOST 1048576: true; the input reads as it did. -/
def fnExactSameBondUptoRow : OpenClaim := { program := "ytlokmkiicmpccaa", sum := "c51e0724cd9c478bd6e2754686dfde9156e0147bed0461d99c5031bee6d4b51e", func := "loop.example/g01042/laws.FnExactSameBond", spec := "fnExactSameBond", apart := false, narrowed := true }
def FnExactSameBondUptoSaid : Prop := fnExactSameBondUptoRow.holds Try.pinned (OpenSpec.upto fnExactSameBondSpec)

/-- 'laws.FnExactValidBond', WHERE WHAT IT READS IS OF BULK AT MOST 1048576: true; the input reads as it did. -/
def fnExactValidBondUptoRow : OpenClaim := { program := "ytlokmkiicmpccaa", sum := "c51e0724cd9c478bd6e2754686dfde9156e0147bed0461d99c5031bee6d4b51e", func := "loop.example/g01042/laws.FnExactValidBond", spec := "fnExactValidBond", inPlace := ["internal/bytealg.IndexByteString"], unfollowed := true, recurses := true, apart := false, narrowed := true }
def FnExactValidBondUptoSaid : Prop := fnExactValidBondUptoRow.holds Try.pinned (OpenSpec.upto fnExactValidBondSpec)

/-- 'laws.FnExactHeadersIn', WHERE WHAT IT READS IS OF BULK AT MOST 1048576: true; the input reads as it did. -/
def fnExactHeadersInUptoRow : OpenClaim := { program := "ytlokmkiicmpccaa", sum := "c51e0724cd9c478bd6e2754686dfde9156e0147bed0461d99c5031bee6d4b51e", func := "loop.example/g01042/laws.FnExactHeadersIn", spec := "fnExactHeadersIn", inPlace := ["internal/bytealg.IndexByteString"], unfollowed := true, recurses := true, apart := false, narrowed := true }
def FnExactHeadersInUptoSaid : Prop := fnExactHeadersInUptoRow.holds Try.pinned (OpenSpec.upto fnExactHeadersInSpec)

/-- 'laws.FnExactLapBetween', WHERE WHAT IT READS IS OF BULK AT MOST 1048576: true; the input reads as it did. -/
def fnExactLapBetweenUptoRow : OpenClaim := { program := "ytlokmkiicmpccaa", sum := "c51e0724cd9c478bd6e2754686dfde9156e0147bed0461d99c5031bee6d4b51e", func := "loop.example/g01042/laws.FnExactLapBetween", spec := "fnExactLapBetween", inPlace := ["internal/bytealg.IndexByteString"], unfollowed := true, recurses := true, apart := false, narrowed := true }
def FnExactLapBetweenUptoSaid : Prop := fnExactLapBetweenUptoRow.holds Try.pinned (OpenSpec.upto fnExactLapBetweenSpec)

/-- 'laws.FnExactPerpendsOf', WHERE WHAT IT READS IS OF BULK AT MOST 1048576: true; the input reads as it did. -/
def fnExactPerpendsOfUptoRow : OpenClaim := { program := "ytlokmkiicmpccaa", sum := "c51e0724cd9c478bd6e2754686dfde9156e0147bed0461d99c5031bee6d4b51e", func := "loop.example/g01042/laws.FnExactPerpendsOf", spec := "fnExactPerpendsOf", inPlace := ["internal/bytealg.IndexByteString"], unfollowed := true, recurses := true, apart := false, narrowed := true }
def FnExactPerpendsOfUptoSaid : Prop := fnExactPerpendsOfUptoRow.holds Try.pinned (OpenSpec.upto fnExactPerpendsOfSpec)

/-- 'laws.FnExactLapOfBond', WHERE WHAT IT READS IS OF BULK AT MOST 1048576: true; the input reads as it did. -/
def fnExactLapOfBondUptoRow : OpenClaim := { program := "ytlokmkiicmpccaa", sum := "c51e0724cd9c478bd6e2754686dfde9156e0147bed0461d99c5031bee6d4b51e", func := "loop.example/g01042/laws.FnExactLapOfBond", spec := "fnExactLapOfBond", inPlace := ["internal/bytealg.IndexByteString"], unfollowed := true, recurses := true, apart := false, narrowed := true }
def FnExactLapOfBondUptoSaid : Prop := fnExactLapOfBondUptoRow.holds Try.pinned (OpenSpec.upto fnExactLapOfBondSpec)

/-- 'laws.FnExactBondText', WHERE WHAT IT READS IS OF BULK AT MOST 1048576: true; the input reads as it did. -/
def fnExactBondTextUptoRow : OpenClaim := { program := "ytlokmkiicmpccaa", sum := "c51e0724cd9c478bd6e2754686dfde9156e0147bed0461d99c5031bee6d4b51e", func := "loop.example/g01042/laws.FnExactBondText", spec := "fnExactBondText", inPlace := ["internal/bytealg.IndexByteString"], unfollowed := true, recurses := true, apart := false, narrowed := true }
def FnExactBondTextUptoSaid : Prop := fnExactBondTextUptoRow.holds Try.pinned (OpenSpec.upto fnExactBondTextSpec)

/-- 'laws.FnPerpends', WHERE WHAT IT READS IS OF BULK AT MOST 1048576: true; the input reads as it did. -/
def fnPerpendsUptoRow : OpenClaim := { program := "ytlokmkiicmpccaa", sum := "c51e0724cd9c478bd6e2754686dfde9156e0147bed0461d99c5031bee6d4b51e", func := "loop.example/g01042/laws.FnPerpends", spec := "fnPerpends", inPlace := ["internal/bytealg.IndexByteString"], unfollowed := true, recurses := true, apart := false, narrowed := true }
def FnPerpendsUptoSaid : Prop := fnPerpendsUptoRow.holds Try.pinned (OpenSpec.upto fnPerpendsSpec)

end Rows
end Go.Proofs.Ytlokmkiicmpccaa
