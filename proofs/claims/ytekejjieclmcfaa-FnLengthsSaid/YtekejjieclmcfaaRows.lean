/-
  No cell of these rows narrows 'for every input' (looked for: loops, veiled, ifaces, maps, wideKeys, modest, calm, conditions, laid).
  DERIVED. THE GIVEN ROWS OF THIS SEAT. 15 by the template 'for every input the law returns true; each argument reads behind the call as it read before'; 0 by the template 'total and deterministic' (their statements: YtekejjieclmcfaaTotals.lean).
  GIVEN WITH THE SEED: the statements are not yours to turn. If you find one false, say at which input.
  Laid BY PROGRAM, IN A SANDBOX (cutbox-rows.mjs): the forced cells as the released guide's own fill.sh prints them over the translation 2c17a2bdeb202f53… (all of the seat's roots in one cut). By AI agents, Wed Nov 11 2026. No macro, syntax, notation, axiom, sorry.
-/
import Derived.Test.YtekejjieclmcfaaChecked
import GoSem.Claim
import GoSem.ClaimJoined
import GoSem.ClaimMapViews
import Derived.JoinedTies
import Derived.KernelRfl
namespace Go.Proofs.Ytekejjieclmcfaa
/- THE CELL 'sum', in the pinned program and in every row, IS THE sha256 OF THE DUMP (.gsa) THAT YtekejjieclmcfaaProg.lean LOADS. Nothing in Lean hashes anything: it is a label: what it is worth is what the hold of that sum in a sandbox is worth. -/
noncomputable def Try.pinned : Pinned := { name := "ytekejjieclmcfaa", sum := "2c17a2bdeb202f5384d17bf98eb58451f0f538007287e8f087f111e64f3527d8", checked := Try.checked }
namespace Rows
def none {H : Type} : Left H := { results := [], args := [] }

/-- 'laws.FnExactConstants': WHATEVER THE INPUT: true; the input reads as it did. -/
def fnExactConstantsSpec : ChangeSpec := { name := "fnExactConstants", fn := fun _ => fun
  | [] => { results := [.lit (.bool true)], args := [] }
  | _ => none }
def fnExactConstantsRow : OpenClaim := { program := "ytekejjieclmcfaa", sum := "2c17a2bdeb202f5384d17bf98eb58451f0f538007287e8f087f111e64f3527d8", func := "loop.example/g01042/laws.FnExactConstants", spec := "fnExactConstants", apart := false }
def FnExactConstantsSaid : Prop := fnExactConstantsRow.holds Try.pinned (OpenSpec.ofChange fnExactConstantsSpec)

/-- ITS FALSE NEIGHBOUR: 'it returns false'. Refute it at one input. -/
def fnExactConstantsWrong : ChangeSpec := { name := "fnExactConstants", fn := fun _ => fun
  | [] => { results := [.lit (.bool false)], args := [] }
  | _ => none }
def FnExactConstantsWrongFalsely : Prop := fnExactConstantsRow.holds Try.pinned (OpenSpec.ofChange fnExactConstantsWrong)

/-- 'laws.FnExactIsCut': WHATEVER THE INPUT: true; the input reads as it did. -/
def fnExactIsCutSpec : ChangeSpec := { name := "fnExactIsCut", fn := fun _ => fun
  | [d] => { results := [.lit (.bool true)], args := [d] }
  | _ => none }
def fnExactIsCutRow : OpenClaim := { program := "ytekejjieclmcfaa", sum := "2c17a2bdeb202f5384d17bf98eb58451f0f538007287e8f087f111e64f3527d8", func := "loop.example/g01042/laws.FnExactIsCut", spec := "fnExactIsCut", apart := false }
def FnExactIsCutSaid : Prop := fnExactIsCutRow.holds Try.pinned (OpenSpec.ofChange fnExactIsCutSpec)

/-- ITS FALSE NEIGHBOUR: 'it returns false'. Refute it at one input. -/
def fnExactIsCutWrong : ChangeSpec := { name := "fnExactIsCut", fn := fun _ => fun
  | [d] => { results := [.lit (.bool false)], args := [d] }
  | _ => none }
def FnExactIsCutWrongFalsely : Prop := fnExactIsCutRow.holds Try.pinned (OpenSpec.ofChange fnExactIsCutWrong)

/-- 'laws.FnExactProblemName': WHATEVER THE INPUT: true; the input reads as it did. -/
def fnExactProblemNameSpec : ChangeSpec := { name := "fnExactProblemName", fn := fun _ => fun
  | [d] => { results := [.lit (.bool true)], args := [d] }
  | _ => none }
def fnExactProblemNameRow : OpenClaim := { program := "ytekejjieclmcfaa", sum := "2c17a2bdeb202f5384d17bf98eb58451f0f538007287e8f087f111e64f3527d8", func := "loop.example/g01042/laws.FnExactProblemName", spec := "fnExactProblemName", apart := false }
def FnExactProblemNameSaid : Prop := fnExactProblemNameRow.holds Try.pinned (OpenSpec.ofChange fnExactProblemNameSpec)

/-- ITS FALSE NEIGHBOUR: 'it returns false'. Refute it at one input. -/
def fnExactProblemNameWrong : ChangeSpec := { name := "fnExactProblemName", fn := fun _ => fun
  | [d] => { results := [.lit (.bool false)], args := [d] }
  | _ => none }
def FnExactProblemNameWrongFalsely : Prop := fnExactProblemNameRow.holds Try.pinned (OpenSpec.ofChange fnExactProblemNameWrong)

/-- 'laws.FnExactValidFormat': WHATEVER THE INPUT: true; the input reads as it did. -/
def fnExactValidFormatSpec : ChangeSpec := { name := "fnExactValidFormat", fn := fun _ => fun
  | [d] => { results := [.lit (.bool true)], args := [d] }
  | _ => none }
def fnExactValidFormatRow : OpenClaim := { program := "ytekejjieclmcfaa", sum := "2c17a2bdeb202f5384d17bf98eb58451f0f538007287e8f087f111e64f3527d8", func := "loop.example/g01042/laws.FnExactValidFormat", spec := "fnExactValidFormat", apart := false }
def FnExactValidFormatSaid : Prop := fnExactValidFormatRow.holds Try.pinned (OpenSpec.ofChange fnExactValidFormatSpec)

/-- ITS FALSE NEIGHBOUR: 'it returns false'. Refute it at one input. -/
def fnExactValidFormatWrong : ChangeSpec := { name := "fnExactValidFormat", fn := fun _ => fun
  | [d] => { results := [.lit (.bool false)], args := [d] }
  | _ => none }
def FnExactValidFormatWrongFalsely : Prop := fnExactValidFormatRow.holds Try.pinned (OpenSpec.ofChange fnExactValidFormatWrong)

/-- 'laws.FnExactIsModular': WHATEVER THE INPUT: true; the input reads as it did. -/
def fnExactIsModularSpec : ChangeSpec := { name := "fnExactIsModular", fn := fun _ => fun
  | [d] => { results := [.lit (.bool true)], args := [d] }
  | _ => none }
def fnExactIsModularRow : OpenClaim := { program := "ytekejjieclmcfaa", sum := "2c17a2bdeb202f5384d17bf98eb58451f0f538007287e8f087f111e64f3527d8", func := "loop.example/g01042/laws.FnExactIsModular", spec := "fnExactIsModular", apart := false }
def FnExactIsModularSaid : Prop := fnExactIsModularRow.holds Try.pinned (OpenSpec.ofChange fnExactIsModularSpec)

/-- ITS FALSE NEIGHBOUR: 'it returns false'. Refute it at one input. -/
def fnExactIsModularWrong : ChangeSpec := { name := "fnExactIsModular", fn := fun _ => fun
  | [d] => { results := [.lit (.bool false)], args := [d] }
  | _ => none }
def FnExactIsModularWrongFalsely : Prop := fnExactIsModularRow.holds Try.pinned (OpenSpec.ofChange fnExactIsModularWrong)

/-- 'laws.FnExactIsName': WHATEVER THE INPUT: true; the input reads as it did. -/
def fnExactIsNameSpec : ChangeSpec := { name := "fnExactIsName", fn := fun _ => fun
  | [d] => { results := [.lit (.bool true)], args := [d] }
  | _ => none }
def fnExactIsNameRow : OpenClaim := { program := "ytekejjieclmcfaa", sum := "2c17a2bdeb202f5384d17bf98eb58451f0f538007287e8f087f111e64f3527d8", func := "loop.example/g01042/laws.FnExactIsName", spec := "fnExactIsName", apart := false }
def FnExactIsNameSaid : Prop := fnExactIsNameRow.holds Try.pinned (OpenSpec.ofChange fnExactIsNameSpec)

/-- ITS FALSE NEIGHBOUR: 'it returns false'. Refute it at one input. -/
def fnExactIsNameWrong : ChangeSpec := { name := "fnExactIsName", fn := fun _ => fun
  | [d] => { results := [.lit (.bool false)], args := [d] }
  | _ => none }
def FnExactIsNameWrongFalsely : Prop := fnExactIsNameRow.holds Try.pinned (OpenSpec.ofChange fnExactIsNameWrong)

/-- 'laws.FnExactShrinkBy': WHATEVER THE INPUT: true; the input reads as it did. -/
def fnExactShrinkBySpec : ChangeSpec := { name := "fnExactShrinkBy", fn := fun _ => fun
  | [d1, d2] => { results := [.lit (.bool true)], args := [d1, d2] }
  | _ => none }
def fnExactShrinkByRow : OpenClaim := { program := "ytekejjieclmcfaa", sum := "2c17a2bdeb202f5384d17bf98eb58451f0f538007287e8f087f111e64f3527d8", func := "loop.example/g01042/laws.FnExactShrinkBy", spec := "fnExactShrinkBy", apart := false }
def FnExactShrinkBySaid : Prop := fnExactShrinkByRow.holds Try.pinned (OpenSpec.ofChange fnExactShrinkBySpec)

/-- ITS FALSE NEIGHBOUR: 'it returns false'. Refute it at one input. -/
def fnExactShrinkByWrong : ChangeSpec := { name := "fnExactShrinkBy", fn := fun _ => fun
  | [d1, d2] => { results := [.lit (.bool false)], args := [d1, d2] }
  | _ => none }
def FnExactShrinkByWrongFalsely : Prop := fnExactShrinkByRow.holds Try.pinned (OpenSpec.ofChange fnExactShrinkByWrong)

/-- 'laws.FnExactVolumeOf': WHATEVER THE INPUT: true; the input reads as it did. -/
def fnExactVolumeOfSpec : ChangeSpec := { name := "fnExactVolumeOf", fn := fun _ => fun
  | [d] => { results := [.lit (.bool true)], args := [d] }
  | _ => none }
def fnExactVolumeOfRow : OpenClaim := { program := "ytekejjieclmcfaa", sum := "2c17a2bdeb202f5384d17bf98eb58451f0f538007287e8f087f111e64f3527d8", func := "loop.example/g01042/laws.FnExactVolumeOf", spec := "fnExactVolumeOf", apart := false }
def FnExactVolumeOfSaid : Prop := fnExactVolumeOfRow.holds Try.pinned (OpenSpec.ofChange fnExactVolumeOfSpec)

/-- ITS FALSE NEIGHBOUR: 'it returns false'. Refute it at one input. -/
def fnExactVolumeOfWrong : ChangeSpec := { name := "fnExactVolumeOf", fn := fun _ => fun
  | [d] => { results := [.lit (.bool false)], args := [d] }
  | _ => none }
def FnExactVolumeOfWrongFalsely : Prop := fnExactVolumeOfRow.holds Try.pinned (OpenSpec.ofChange fnExactVolumeOfWrong)

/-- 'laws.FnExactQuartersOf': WHATEVER THE INPUT: true; the input reads as it did. -/
def fnExactQuartersOfSpec : ChangeSpec := { name := "fnExactQuartersOf", fn := fun _ => fun
  | [d] => { results := [.lit (.bool true)], args := [d] }
  | _ => none }
def fnExactQuartersOfRow : OpenClaim := { program := "ytekejjieclmcfaa", sum := "2c17a2bdeb202f5384d17bf98eb58451f0f538007287e8f087f111e64f3527d8", func := "loop.example/g01042/laws.FnExactQuartersOf", spec := "fnExactQuartersOf", apart := false }
def FnExactQuartersOfSaid : Prop := fnExactQuartersOfRow.holds Try.pinned (OpenSpec.ofChange fnExactQuartersOfSpec)

/-- ITS FALSE NEIGHBOUR: 'it returns false'. Refute it at one input. -/
def fnExactQuartersOfWrong : ChangeSpec := { name := "fnExactQuartersOf", fn := fun _ => fun
  | [d] => { results := [.lit (.bool false)], args := [d] }
  | _ => none }
def FnExactQuartersOfWrongFalsely : Prop := fnExactQuartersOfRow.holds Try.pinned (OpenSpec.ofChange fnExactQuartersOfWrong)

/-- 'laws.FnExactCoursesIn': WHATEVER THE INPUT: true; the input reads as it did. -/
def fnExactCoursesInSpec : ChangeSpec := { name := "fnExactCoursesIn", fn := fun _ => fun
  | [d1, d2] => { results := [.lit (.bool true)], args := [d1, d2] }
  | _ => none }
def fnExactCoursesInRow : OpenClaim := { program := "ytekejjieclmcfaa", sum := "2c17a2bdeb202f5384d17bf98eb58451f0f538007287e8f087f111e64f3527d8", func := "loop.example/g01042/laws.FnExactCoursesIn", spec := "fnExactCoursesIn", apart := false }
def FnExactCoursesInSaid : Prop := fnExactCoursesInRow.holds Try.pinned (OpenSpec.ofChange fnExactCoursesInSpec)

/-- ITS FALSE NEIGHBOUR: 'it returns false'. Refute it at one input. -/
def fnExactCoursesInWrong : ChangeSpec := { name := "fnExactCoursesIn", fn := fun _ => fun
  | [d1, d2] => { results := [.lit (.bool false)], args := [d1, d2] }
  | _ => none }
def FnExactCoursesInWrongFalsely : Prop := fnExactCoursesInRow.holds Try.pinned (OpenSpec.ofChange fnExactCoursesInWrong)

/-- 'laws.FnExactHeightOf': WHATEVER THE INPUT: true; the input reads as it did. -/
def fnExactHeightOfSpec : ChangeSpec := { name := "fnExactHeightOf", fn := fun _ => fun
  | [d1, d2] => { results := [.lit (.bool true)], args := [d1, d2] }
  | _ => none }
def fnExactHeightOfRow : OpenClaim := { program := "ytekejjieclmcfaa", sum := "2c17a2bdeb202f5384d17bf98eb58451f0f538007287e8f087f111e64f3527d8", func := "loop.example/g01042/laws.FnExactHeightOf", spec := "fnExactHeightOf", apart := false }
def FnExactHeightOfSaid : Prop := fnExactHeightOfRow.holds Try.pinned (OpenSpec.ofChange fnExactHeightOfSpec)

/-- ITS FALSE NEIGHBOUR: 'it returns false'. Refute it at one input. -/
def fnExactHeightOfWrong : ChangeSpec := { name := "fnExactHeightOf", fn := fun _ => fun
  | [d1, d2] => { results := [.lit (.bool false)], args := [d1, d2] }
  | _ => none }
def FnExactHeightOfWrongFalsely : Prop := fnExactHeightOfRow.holds Try.pinned (OpenSpec.ofChange fnExactHeightOfWrong)

/-- 'laws.FnExactQuartersIn': WHATEVER THE INPUT: true; the input reads as it did. -/
def fnExactQuartersInSpec : ChangeSpec := { name := "fnExactQuartersIn", fn := fun _ => fun
  | [d1, d2] => { results := [.lit (.bool true)], args := [d1, d2] }
  | _ => none }
def fnExactQuartersInRow : OpenClaim := { program := "ytekejjieclmcfaa", sum := "2c17a2bdeb202f5384d17bf98eb58451f0f538007287e8f087f111e64f3527d8", func := "loop.example/g01042/laws.FnExactQuartersIn", spec := "fnExactQuartersIn", apart := false }
def FnExactQuartersInSaid : Prop := fnExactQuartersInRow.holds Try.pinned (OpenSpec.ofChange fnExactQuartersInSpec)

/-- ITS FALSE NEIGHBOUR: 'it returns false'. Refute it at one input. -/
def fnExactQuartersInWrong : ChangeSpec := { name := "fnExactQuartersIn", fn := fun _ => fun
  | [d1, d2] => { results := [.lit (.bool false)], args := [d1, d2] }
  | _ => none }
def FnExactQuartersInWrongFalsely : Prop := fnExactQuartersInRow.holds Try.pinned (OpenSpec.ofChange fnExactQuartersInWrong)

/-- 'laws.FnExactMouldFor': WHATEVER THE INPUT: true; the input reads as it did. -/
def fnExactMouldForSpec : ChangeSpec := { name := "fnExactMouldFor", fn := fun _ => fun
  | [d1, d2] => { results := [.lit (.bool true)], args := [d1, d2] }
  | _ => none }
def fnExactMouldForRow : OpenClaim := { program := "ytekejjieclmcfaa", sum := "2c17a2bdeb202f5384d17bf98eb58451f0f538007287e8f087f111e64f3527d8", func := "loop.example/g01042/laws.FnExactMouldFor", spec := "fnExactMouldFor", unfollowed := true, recurses := true, apart := false }
def FnExactMouldForSaid : Prop := fnExactMouldForRow.holds Try.pinned (OpenSpec.ofChange fnExactMouldForSpec)

/-- ITS FALSE NEIGHBOUR: 'it returns false'. Refute it at one input. -/
def fnExactMouldForWrong : ChangeSpec := { name := "fnExactMouldFor", fn := fun _ => fun
  | [d1, d2] => { results := [.lit (.bool false)], args := [d1, d2] }
  | _ => none }
def FnExactMouldForWrongFalsely : Prop := fnExactMouldForRow.holds Try.pinned (OpenSpec.ofChange fnExactMouldForWrong)

/-- 'laws.FnExactLengthOf': WHATEVER THE INPUT: true; the input reads as it did. -/
def fnExactLengthOfSpec : ChangeSpec := { name := "fnExactLengthOf", fn := fun _ => fun
  | [d1, d2] => { results := [.lit (.bool true)], args := [d1, d2] }
  | _ => none }
def fnExactLengthOfRow : OpenClaim := { program := "ytekejjieclmcfaa", sum := "2c17a2bdeb202f5384d17bf98eb58451f0f538007287e8f087f111e64f3527d8", func := "loop.example/g01042/laws.FnExactLengthOf", spec := "fnExactLengthOf", apart := false }
def FnExactLengthOfSaid : Prop := fnExactLengthOfRow.holds Try.pinned (OpenSpec.ofChange fnExactLengthOfSpec)

/-- ITS FALSE NEIGHBOUR: 'it returns false'. Refute it at one input. -/
def fnExactLengthOfWrong : ChangeSpec := { name := "fnExactLengthOf", fn := fun _ => fun
  | [d1, d2] => { results := [.lit (.bool false)], args := [d1, d2] }
  | _ => none }
def FnExactLengthOfWrongFalsely : Prop := fnExactLengthOfRow.holds Try.pinned (OpenSpec.ofChange fnExactLengthOfWrong)

/-- 'laws.FnLengths': WHATEVER THE INPUT: true; the input reads as it did. -/
def fnLengthsSpec : ChangeSpec := { name := "fnLengths", fn := fun _ => fun
  | [d] => { results := [.lit (.bool true)], args := [d] }
  | _ => none }
def fnLengthsRow : OpenClaim := { program := "ytekejjieclmcfaa", sum := "2c17a2bdeb202f5384d17bf98eb58451f0f538007287e8f087f111e64f3527d8", func := "loop.example/g01042/laws.FnLengths", spec := "fnLengths", apart := false }
def FnLengthsSaid : Prop := fnLengthsRow.holds Try.pinned (OpenSpec.ofChange fnLengthsSpec)

/-- ITS FALSE NEIGHBOUR: 'it returns false'. Refute it at one input. -/
def fnLengthsWrong : ChangeSpec := { name := "fnLengths", fn := fun _ => fun
  | [d] => { results := [.lit (.bool false)], args := [d] }
  | _ => none }
def FnLengthsWrongFalsely : Prop := fnLengthsRow.holds Try.pinned (OpenSpec.ofChange fnLengthsWrong)

/- THE SECOND FORM. 'bulk': how many values and letters a reading holds, each counted each time it is reached (what is shared counts as often as it is met; a slice's spare places count too). A statement '..UptoSaid' is the law's where the arguments, and the package variables that the reading takes, are together of bulk at most 1048576: NARROWER than '..Said'. Prove '..Said' where nothing that the law and all that it calls make is longer than what came in: it says more and counts as full. Else prove '..UptoSaid'. A law counts once. -/
mutual
def uptoBulk {H : Type} : DataW H → Nat
  | .lit (.string bytes) => bytes.length + 1
  | .lit _ => 1
  | .nil => 1
  | .ptr d => uptoBulk d + 1
  | .slice elems spare => uptoBulkAll elems + uptoBulkAll spare + 1
  | .agg parts => uptoBulkAll parts + 1
  | .iface _ d => uptoBulk d + 1
  | .map entries => uptoBulkEntries entries + 1
  | .held _ => 1
def uptoBulkAll {H : Type} : List (DataW H) → Nat
  | [] => 0
  | d :: r => uptoBulk d + uptoBulkAll r
def uptoBulkEntries {H : Type} : List (Lit × DataW H) → Nat
  | [] => 0
  | x :: r => uptoBulkEntry x + uptoBulkEntries r
def uptoBulkEntry {H : Type} : Lit × DataW H → Nat
  | (.string bytes, d) => bytes.length + uptoBulk d + 1
  | (_, d) => uptoBulk d + 1
 end
def uptoSmall : (H : Type) → List (DataW H) → Bool := fun _ ds => decide (uptoBulkAll ds ≤ 1048576)
def OpenSpec.upto (s : _root_.Go.ChangeSpec) : _root_.Go.OpenSpec := { _root_.Go.OpenSpec.ofChange s with cond := some uptoSmall }

/-- 'laws.FnExactConstants', WHERE WHAT IT READS IS OF BULK AT MOST 1048576: true; the input reads as it did. -/
def fnExactConstantsUptoRow : OpenClaim := { program := "ytekejjieclmcfaa", sum := "2c17a2bdeb202f5384d17bf98eb58451f0f538007287e8f087f111e64f3527d8", func := "loop.example/g01042/laws.FnExactConstants", spec := "fnExactConstants", apart := false, narrowed := true }
def FnExactConstantsUptoSaid : Prop := fnExactConstantsUptoRow.holds Try.pinned (OpenSpec.upto fnExactConstantsSpec)

/-- 'laws.FnExactIsCut', WHERE WHAT IT READS IS OF BULK AT MOST 1048576: true; the input reads as it did. -/
def fnExactIsCutUptoRow : OpenClaim := { program := "ytekejjieclmcfaa", sum := "2c17a2bdeb202f5384d17bf98eb58451f0f538007287e8f087f111e64f3527d8", func := "loop.example/g01042/laws.FnExactIsCut", spec := "fnExactIsCut", apart := false, narrowed := true }
def FnExactIsCutUptoSaid : Prop := fnExactIsCutUptoRow.holds Try.pinned (OpenSpec.upto fnExactIsCutSpec)

/-- 'laws.FnExactProblemName', WHERE WHAT IT READS IS OF BULK AT MOST 1048576: true; the input reads as it did. -/
def fnExactProblemNameUptoRow : OpenClaim := { program := "ytekejjieclmcfaa", sum := "2c17a2bdeb202f5384d17bf98eb58451f0f538007287e8f087f111e64f3527d8", func := "loop.example/g01042/laws.FnExactProblemName", spec := "fnExactProblemName", apart := false, narrowed := true }
def FnExactProblemNameUptoSaid : Prop := fnExactProblemNameUptoRow.holds Try.pinned (OpenSpec.upto fnExactProblemNameSpec)

/-- 'laws.FnExactValidFormat', WHERE WHAT IT READS IS OF BULK AT MOST 1048576: true; the input reads as it did. -/
def fnExactValidFormatUptoRow : OpenClaim := { program := "ytekejjieclmcfaa", sum := "2c17a2bdeb202f5384d17bf98eb58451f0f538007287e8f087f111e64f3527d8", func := "loop.example/g01042/laws.FnExactValidFormat", spec := "fnExactValidFormat", apart := false, narrowed := true }
def FnExactValidFormatUptoSaid : Prop := fnExactValidFormatUptoRow.holds Try.pinned (OpenSpec.upto fnExactValidFormatSpec)

/-- 'laws.FnExactIsModular', WHERE WHAT IT READS IS OF BULK AT MOST 1048576: true; the input reads as it did. -/
def fnExactIsModularUptoRow : OpenClaim := { program := "ytekejjieclmcfaa", sum := "2c17a2bdeb202f5384d17bf98eb58451f0f538007287e8f087f111e64f3527d8", func := "loop.example/g01042/laws.FnExactIsModular", spec := "fnExactIsModular", apart := false, narrowed := true }
def FnExactIsModularUptoSaid : Prop := fnExactIsModularUptoRow.holds Try.pinned (OpenSpec.upto fnExactIsModularSpec)

/-- 'laws.FnExactIsName', WHERE WHAT IT READS IS OF BULK AT MOST 1048576: true; the input reads as it did. -/
def fnExactIsNameUptoRow : OpenClaim := { program := "ytekejjieclmcfaa", sum := "2c17a2bdeb202f5384d17bf98eb58451f0f538007287e8f087f111e64f3527d8", func := "loop.example/g01042/laws.FnExactIsName", spec := "fnExactIsName", apart := false, narrowed := true }
def FnExactIsNameUptoSaid : Prop := fnExactIsNameUptoRow.holds Try.pinned (OpenSpec.upto fnExactIsNameSpec)

/-- 'laws.FnExactShrinkBy', WHERE WHAT IT READS IS OF BULK AT MOST 1048576: true; the input reads as it did. -/
def fnExactShrinkByUptoRow : OpenClaim := { program := "ytekejjieclmcfaa", sum := "2c17a2bdeb202f5384d17bf98eb58451f0f538007287e8f087f111e64f3527d8", func := "loop.example/g01042/laws.FnExactShrinkBy", spec := "fnExactShrinkBy", apart := false, narrowed := true }
def FnExactShrinkByUptoSaid : Prop := fnExactShrinkByUptoRow.holds Try.pinned (OpenSpec.upto fnExactShrinkBySpec)

/-- 'laws.FnExactVolumeOf', WHERE WHAT IT READS IS OF BULK AT MOST 1048576: true; the input reads as it did. -/
def fnExactVolumeOfUptoRow : OpenClaim := { program := "ytekejjieclmcfaa", sum := "2c17a2bdeb202f5384d17bf98eb58451f0f538007287e8f087f111e64f3527d8", func := "loop.example/g01042/laws.FnExactVolumeOf", spec := "fnExactVolumeOf", apart := false, narrowed := true }
def FnExactVolumeOfUptoSaid : Prop := fnExactVolumeOfUptoRow.holds Try.pinned (OpenSpec.upto fnExactVolumeOfSpec)

/-- 'laws.FnExactQuartersOf', WHERE WHAT IT READS IS OF BULK AT MOST 1048576: true; the input reads as it did. -/
def fnExactQuartersOfUptoRow : OpenClaim := { program := "ytekejjieclmcfaa", sum := "2c17a2bdeb202f5384d17bf98eb58451f0f538007287e8f087f111e64f3527d8", func := "loop.example/g01042/laws.FnExactQuartersOf", spec := "fnExactQuartersOf", apart := false, narrowed := true }
def FnExactQuartersOfUptoSaid : Prop := fnExactQuartersOfUptoRow.holds Try.pinned (OpenSpec.upto fnExactQuartersOfSpec)

/-- 'laws.FnExactCoursesIn', WHERE WHAT IT READS IS OF BULK AT MOST 1048576: true; the input reads as it did. -/
def fnExactCoursesInUptoRow : OpenClaim := { program := "ytekejjieclmcfaa", sum := "2c17a2bdeb202f5384d17bf98eb58451f0f538007287e8f087f111e64f3527d8", func := "loop.example/g01042/laws.FnExactCoursesIn", spec := "fnExactCoursesIn", apart := false, narrowed := true }
def FnExactCoursesInUptoSaid : Prop := fnExactCoursesInUptoRow.holds Try.pinned (OpenSpec.upto fnExactCoursesInSpec)

/-- 'laws.FnExactHeightOf', WHERE WHAT IT READS IS OF BULK AT MOST 1048576: true; the input reads as it did. -/
def fnExactHeightOfUptoRow : OpenClaim := { program := "ytekejjieclmcfaa", sum := "2c17a2bdeb202f5384d17bf98eb58451f0f538007287e8f087f111e64f3527d8", func := "loop.example/g01042/laws.FnExactHeightOf", spec := "fnExactHeightOf", apart := false, narrowed := true }
def FnExactHeightOfUptoSaid : Prop := fnExactHeightOfUptoRow.holds Try.pinned (OpenSpec.upto fnExactHeightOfSpec)

/-- 'laws.FnExactQuartersIn', WHERE WHAT IT READS IS OF BULK AT MOST 1048576: true; the input reads as it did. -/
def fnExactQuartersInUptoRow : OpenClaim := { program := "ytekejjieclmcfaa", sum := "2c17a2bdeb202f5384d17bf98eb58451f0f538007287e8f087f111e64f3527d8", func := "loop.example/g01042/laws.FnExactQuartersIn", spec := "fnExactQuartersIn", apart := false, narrowed := true }
def FnExactQuartersInUptoSaid : Prop := fnExactQuartersInUptoRow.holds Try.pinned (OpenSpec.upto fnExactQuartersInSpec)

/-- 'laws.FnExactMouldFor', WHERE WHAT IT READS IS OF BULK AT MOST 1048576: true; the input reads as it did. -/
def fnExactMouldForUptoRow : OpenClaim := { program := "ytekejjieclmcfaa", sum := "2c17a2bdeb202f5384d17bf98eb58451f0f538007287e8f087f111e64f3527d8", func := "loop.example/g01042/laws.FnExactMouldFor", spec := "fnExactMouldFor", unfollowed := true, recurses := true, apart := false, narrowed := true }
def FnExactMouldForUptoSaid : Prop := fnExactMouldForUptoRow.holds Try.pinned (OpenSpec.upto fnExactMouldForSpec)

/-- 'laws.FnExactLengthOf', WHERE WHAT IT READS IS OF BULK AT MOST 1048576: true; the input reads as it did. -/
def fnExactLengthOfUptoRow : OpenClaim := { program := "ytekejjieclmcfaa", sum := "2c17a2bdeb202f5384d17bf98eb58451f0f538007287e8f087f111e64f3527d8", func := "loop.example/g01042/laws.FnExactLengthOf", spec := "fnExactLengthOf", apart := false, narrowed := true }
def FnExactLengthOfUptoSaid : Prop := fnExactLengthOfUptoRow.holds Try.pinned (OpenSpec.upto fnExactLengthOfSpec)

/-- 'laws.FnLengths', WHERE WHAT IT READS IS OF BULK AT MOST 1048576: true; the input reads as it did. -/
def fnLengthsUptoRow : OpenClaim := { program := "ytekejjieclmcfaa", sum := "2c17a2bdeb202f5384d17bf98eb58451f0f538007287e8f087f111e64f3527d8", func := "loop.example/g01042/laws.FnLengths", spec := "fnLengths", apart := false, narrowed := true }
def FnLengthsUptoSaid : Prop := fnLengthsUptoRow.holds Try.pinned (OpenSpec.upto fnLengthsSpec)

end Rows
end Go.Proofs.Ytekejjieclmcfaa
