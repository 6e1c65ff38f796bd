/-
  No cell of these rows narrows 'for every input' (looked for: loops, veiled, ifaces, maps, wideKeys, modest, calm, conditions, laid).
  DERIVED. THE GIVEN ROWS OF THIS SEAT. 9 by the template 'for every input the law returns true; each argument reads behind the call as it read before'; 0 by the template 'total and deterministic' (their statements: YtakckjmkjplbfaaTotals.lean).
  GIVEN WITH THE SEED: the statements are not yours to turn. If you find one false, say at which input.
  Laid BY PROGRAM, IN A SANDBOX (cutbox-rows.mjs): the forced cells as the released guide's own fill.sh prints them over the translation c95a7b0b18f3180f… (all of the seat's roots in one cut). By AI agents, Wed Nov 11 2026. No macro, syntax, notation, axiom, sorry.
-/
import Derived.Test.YtakckjmkjplbfaaChecked
import GoSem.Claim
import GoSem.ClaimJoined
import GoSem.ClaimMapViews
import Derived.JoinedTies
import Derived.KernelRfl
namespace Go.Proofs.Ytakckjmkjplbfaa
/- THE CELL 'sum', in the pinned program and in every row, IS THE sha256 OF THE DUMP (.gsa) THAT YtakckjmkjplbfaaProg.lean LOADS. Nothing in Lean hashes anything: it is a label: what it is worth is what the hold of that sum in a sandbox is worth. -/
noncomputable def Try.pinned : Pinned := { name := "ytakckjmkjplbfaa", sum := "c95a7b0b18f3180facdf2c6ecc7d9f0f5146b2607737040341cdc0fea57f1c5e", checked := Try.checked }
namespace Rows
def none {H : Type} : Left H := { results := [], args := [] }

/-- 'laws.FnExactSameMoulds': WHATEVER THE INPUT: true; the input reads as it did. -/
def fnExactSameMouldsSpec : ChangeSpec := { name := "fnExactSameMoulds", fn := fun _ => fun
  | [d1, d2] => { results := [.lit (.bool true)], args := [d1, d2] }
  | _ => none }
def fnExactSameMouldsRow : OpenClaim := { program := "ytakckjmkjplbfaa", sum := "c95a7b0b18f3180facdf2c6ecc7d9f0f5146b2607737040341cdc0fea57f1c5e", func := "loop.example/g01042/laws.FnExactSameMoulds", spec := "fnExactSameMoulds", apart := false }
def FnExactSameMouldsSaid : Prop := fnExactSameMouldsRow.holds Try.pinned (OpenSpec.ofChange fnExactSameMouldsSpec)

/-- ITS FALSE NEIGHBOUR: 'it returns false'. Refute it at one input. -/
def fnExactSameMouldsWrong : ChangeSpec := { name := "fnExactSameMoulds", fn := fun _ => fun
  | [d1, d2] => { results := [.lit (.bool false)], args := [d1, d2] }
  | _ => none }
def FnExactSameMouldsWrongFalsely : Prop := fnExactSameMouldsRow.holds Try.pinned (OpenSpec.ofChange fnExactSameMouldsWrong)

/-- 'laws.FnExactValidMoulds': WHATEVER THE INPUT: true; the input reads as it did. -/
def fnExactValidMouldsSpec : ChangeSpec := { name := "fnExactValidMoulds", fn := fun _ => fun
  | [d] => { results := [.lit (.bool true)], args := [d] }
  | _ => none }
def fnExactValidMouldsRow : OpenClaim := { program := "ytakckjmkjplbfaa", sum := "c95a7b0b18f3180facdf2c6ecc7d9f0f5146b2607737040341cdc0fea57f1c5e", func := "loop.example/g01042/laws.FnExactValidMoulds", spec := "fnExactValidMoulds", unfollowed := true, recurses := true, apart := false }
def FnExactValidMouldsSaid : Prop := fnExactValidMouldsRow.holds Try.pinned (OpenSpec.ofChange fnExactValidMouldsSpec)

/-- ITS FALSE NEIGHBOUR: 'it returns false'. Refute it at one input. -/
def fnExactValidMouldsWrong : ChangeSpec := { name := "fnExactValidMoulds", fn := fun _ => fun
  | [d] => { results := [.lit (.bool false)], args := [d] }
  | _ => none }
def FnExactValidMouldsWrongFalsely : Prop := fnExactValidMouldsRow.holds Try.pinned (OpenSpec.ofChange fnExactValidMouldsWrong)

/-- 'laws.FnExactFiredSize': WHATEVER THE INPUT: true; the input reads as it did. -/
def fnExactFiredSizeSpec : ChangeSpec := { name := "fnExactFiredSize", fn := fun _ => fun
  | [d1, d2] => { results := [.lit (.bool true)], args := [d1, d2] }
  | _ => none }
def fnExactFiredSizeRow : OpenClaim := { program := "ytakckjmkjplbfaa", sum := "c95a7b0b18f3180facdf2c6ecc7d9f0f5146b2607737040341cdc0fea57f1c5e", func := "loop.example/g01042/laws.FnExactFiredSize", spec := "fnExactFiredSize", apart := false }
def FnExactFiredSizeSaid : Prop := fnExactFiredSizeRow.holds Try.pinned (OpenSpec.ofChange fnExactFiredSizeSpec)

/-- ITS FALSE NEIGHBOUR: 'it returns false'. Refute it at one input. -/
def fnExactFiredSizeWrong : ChangeSpec := { name := "fnExactFiredSize", fn := fun _ => fun
  | [d1, d2] => { results := [.lit (.bool false)], args := [d1, d2] }
  | _ => none }
def FnExactFiredSizeWrongFalsely : Prop := fnExactFiredSizeRow.holds Try.pinned (OpenSpec.ofChange fnExactFiredSizeWrong)

/-- 'laws.FnExactSizeFault': WHATEVER THE INPUT: true; the input reads as it did. -/
def fnExactSizeFaultSpec : ChangeSpec := { name := "fnExactSizeFault", fn := fun _ => fun
  | [d1, d2, d3, d4] => { results := [.lit (.bool true)], args := [d1, d2, d3, d4] }
  | _ => none }
def fnExactSizeFaultRow : OpenClaim := { program := "ytakckjmkjplbfaa", sum := "c95a7b0b18f3180facdf2c6ecc7d9f0f5146b2607737040341cdc0fea57f1c5e", func := "loop.example/g01042/laws.FnExactSizeFault", spec := "fnExactSizeFault", apart := false }
def FnExactSizeFaultSaid : Prop := fnExactSizeFaultRow.holds Try.pinned (OpenSpec.ofChange fnExactSizeFaultSpec)

/-- ITS FALSE NEIGHBOUR: 'it returns false'. Refute it at one input. -/
def fnExactSizeFaultWrong : ChangeSpec := { name := "fnExactSizeFault", fn := fun _ => fun
  | [d1, d2, d3, d4] => { results := [.lit (.bool false)], args := [d1, d2, d3, d4] }
  | _ => none }
def FnExactSizeFaultWrongFalsely : Prop := fnExactSizeFaultRow.holds Try.pinned (OpenSpec.ofChange fnExactSizeFaultWrong)

/-- 'laws.FnExactWornMoulds': WHATEVER THE INPUT: true; the input reads as it did. -/
def fnExactWornMouldsSpec : ChangeSpec := { name := "fnExactWornMoulds", fn := fun _ => fun
  | [d1, d2] => { results := [.lit (.bool true)], args := [d1, d2] }
  | _ => none }
def fnExactWornMouldsRow : OpenClaim := { program := "ytakckjmkjplbfaa", sum := "c95a7b0b18f3180facdf2c6ecc7d9f0f5146b2607737040341cdc0fea57f1c5e", func := "loop.example/g01042/laws.FnExactWornMoulds", spec := "fnExactWornMoulds", unfollowed := true, recurses := true, apart := false }
def FnExactWornMouldsSaid : Prop := fnExactWornMouldsRow.holds Try.pinned (OpenSpec.ofChange fnExactWornMouldsSpec)

/-- ITS FALSE NEIGHBOUR: 'it returns false'. Refute it at one input. -/
def fnExactWornMouldsWrong : ChangeSpec := { name := "fnExactWornMoulds", fn := fun _ => fun
  | [d1, d2] => { results := [.lit (.bool false)], args := [d1, d2] }
  | _ => none }
def FnExactWornMouldsWrongFalsely : Prop := fnExactWornMouldsRow.holds Try.pinned (OpenSpec.ofChange fnExactWornMouldsWrong)

/-- 'laws.FnExactUseMould': WHATEVER THE INPUT: true; the input reads as it did. -/
def fnExactUseMouldSpec : ChangeSpec := { name := "fnExactUseMould", fn := fun _ => fun
  | [d1, d2, d3] => { results := [.lit (.bool true)], args := [d1, d2, d3] }
  | _ => none }
def fnExactUseMouldRow : OpenClaim := { program := "ytakckjmkjplbfaa", sum := "c95a7b0b18f3180facdf2c6ecc7d9f0f5146b2607737040341cdc0fea57f1c5e", func := "loop.example/g01042/laws.FnExactUseMould", spec := "fnExactUseMould", unfollowed := true, recurses := true, apart := false }
def FnExactUseMouldSaid : Prop := fnExactUseMouldRow.holds Try.pinned (OpenSpec.ofChange fnExactUseMouldSpec)

/-- ITS FALSE NEIGHBOUR: 'it returns false'. Refute it at one input. -/
def fnExactUseMouldWrong : ChangeSpec := { name := "fnExactUseMould", fn := fun _ => fun
  | [d1, d2, d3] => { results := [.lit (.bool false)], args := [d1, d2, d3] }
  | _ => none }
def FnExactUseMouldWrongFalsely : Prop := fnExactUseMouldRow.holds Try.pinned (OpenSpec.ofChange fnExactUseMouldWrong)

/-- 'laws.FnExactShareUses': WHATEVER THE INPUT: true; the input reads as it did. -/
def fnExactShareUsesSpec : ChangeSpec := { name := "fnExactShareUses", fn := fun _ => fun
  | [d1, d2] => { results := [.lit (.bool true)], args := [d1, d2] }
  | _ => none }
def fnExactShareUsesRow : OpenClaim := { program := "ytakckjmkjplbfaa", sum := "c95a7b0b18f3180facdf2c6ecc7d9f0f5146b2607737040341cdc0fea57f1c5e", func := "loop.example/g01042/laws.FnExactShareUses", spec := "fnExactShareUses", unfollowed := true, recurses := true, apart := false }
def FnExactShareUsesSaid : Prop := fnExactShareUsesRow.holds Try.pinned (OpenSpec.ofChange fnExactShareUsesSpec)

/-- ITS FALSE NEIGHBOUR: 'it returns false'. Refute it at one input. -/
def fnExactShareUsesWrong : ChangeSpec := { name := "fnExactShareUses", fn := fun _ => fun
  | [d1, d2] => { results := [.lit (.bool false)], args := [d1, d2] }
  | _ => none }
def FnExactShareUsesWrongFalsely : Prop := fnExactShareUsesRow.holds Try.pinned (OpenSpec.ofChange fnExactShareUsesWrong)

/-- 'laws.FnExactBestMould': WHATEVER THE INPUT: true; the input reads as it did. -/
def fnExactBestMouldSpec : ChangeSpec := { name := "fnExactBestMould", fn := fun _ => fun
  | [d1, d2, d3] => { results := [.lit (.bool true)], args := [d1, d2, d3] }
  | _ => none }
def fnExactBestMouldRow : OpenClaim := { program := "ytakckjmkjplbfaa", sum := "c95a7b0b18f3180facdf2c6ecc7d9f0f5146b2607737040341cdc0fea57f1c5e", func := "loop.example/g01042/laws.FnExactBestMould", spec := "fnExactBestMould", unfollowed := true, recurses := true, apart := false }
def FnExactBestMouldSaid : Prop := fnExactBestMouldRow.holds Try.pinned (OpenSpec.ofChange fnExactBestMouldSpec)

/-- ITS FALSE NEIGHBOUR: 'it returns false'. Refute it at one input. -/
def fnExactBestMouldWrong : ChangeSpec := { name := "fnExactBestMould", fn := fun _ => fun
  | [d1, d2, d3] => { results := [.lit (.bool false)], args := [d1, d2, d3] }
  | _ => none }
def FnExactBestMouldWrongFalsely : Prop := fnExactBestMouldRow.holds Try.pinned (OpenSpec.ofChange fnExactBestMouldWrong)

/-- 'laws.FnUses': WHATEVER THE INPUT: true; the input reads as it did. -/
def fnUsesSpec : ChangeSpec := { name := "fnUses", fn := fun _ => fun
  | [d] => { results := [.lit (.bool true)], args := [d] }
  | _ => none }
def fnUsesRow : OpenClaim := { program := "ytakckjmkjplbfaa", sum := "c95a7b0b18f3180facdf2c6ecc7d9f0f5146b2607737040341cdc0fea57f1c5e", func := "loop.example/g01042/laws.FnUses", spec := "fnUses", unfollowed := true, recurses := true, apart := false }
def FnUsesSaid : Prop := fnUsesRow.holds Try.pinned (OpenSpec.ofChange fnUsesSpec)

/-- ITS FALSE NEIGHBOUR: 'it returns false'. Refute it at one input. -/
def fnUsesWrong : ChangeSpec := { name := "fnUses", fn := fun _ => fun
  | [d] => { results := [.lit (.bool false)], args := [d] }
  | _ => none }
def FnUsesWrongFalsely : Prop := fnUsesRow.holds Try.pinned (OpenSpec.ofChange fnUsesWrong)

/- THE SECOND FORM. 'bulk': how many values and letters a reading holds, each counted each time it is reached (what is shared counts as often as it is met; a slice's spare places count too). A statement '..UptoSaid' is the law's where the arguments, and the package variables that the reading takes, are together of bulk at most 1048576: NARROWER than '..Said'. Prove '..Said' where nothing that the law and all that it calls make is longer than what came in: it says more and counts as full. Else prove '..UptoSaid'. A law counts once. -/
mutual
def uptoBulk {H : Type} : DataW H → Nat
  | .lit (.string bytes) => bytes.length + 1
  | .lit _ => 1
  | .nil => 1
  | .ptr d => uptoBulk d + 1
  | .slice elems spare => uptoBulkAll elems + uptoBulkAll spare + 1
  | .agg parts => uptoBulkAll parts + 1
  | .iface _ d => uptoBulk d + 1
  | .map entries => uptoBulkEntries entries + 1
  | .held _ => 1
def uptoBulkAll {H : Type} : List (DataW H) → Nat
  | [] => 0
  | d :: r => uptoBulk d + uptoBulkAll r
def uptoBulkEntries {H : Type} : List (Lit × DataW H) → Nat
  | [] => 0
  | x :: r => uptoBulkEntry x + uptoBulkEntries r
def uptoBulkEntry {H : Type} : Lit × DataW H → Nat
  | (.string bytes, d) => bytes.length + uptoBulk d + 1
  | (_, d) => uptoBulk d + 1
 end
def uptoSmall : (H : Type) → List (DataW H) → Bool := fun _ ds => decide (uptoBulkAll ds ≤ 1048576)
def OpenSpec.upto (s : _root_.Go.ChangeSpec) : _root_.Go.OpenSpec := { _root_.Go.OpenSpec.ofChange s with cond := some uptoSmall }

/-- 'laws.FnExactSameMoulds', WHERE WHAT IT READS IS OF BULK AT MOST 1048576: true; the input reads as it did. -/
def fnExactSameMouldsUptoRow : OpenClaim := { program := "ytakckjmkjplbfaa", sum := "c95a7b0b18f3180facdf2c6ecc7d9f0f5146b2607737040341cdc0fea57f1c5e", func := "loop.example/g01042/laws.FnExactSameMoulds", spec := "fnExactSameMoulds", apart := false, narrowed := true }
def FnExactSameMouldsUptoSaid : Prop := fnExactSameMouldsUptoRow.holds Try.pinned (OpenSpec.upto fnExactSameMouldsSpec)

/-- 'laws.FnExactValidMoulds', WHERE WHAT IT READS IS OF BULK AT MOST 1048576: true; the input reads as it did. -/
def fnExactValidMouldsUptoRow : OpenClaim := { program := "ytakckjmkjplbfaa", sum := "c95a7b0b18f3180facdf2c6ecc7d9f0f5146b2607737040341cdc0fea57f1c5e", func := "loop.example/g01042/laws.FnExactValidMoulds", spec := "fnExactValidMoulds", unfollowed := true, recurses := true, apart := false, narrowed := true }
def FnExactValidMouldsUptoSaid : Prop := fnExactValidMouldsUptoRow.holds Try.pinned (OpenSpec.upto fnExactValidMouldsSpec)

/-- 'laws.FnExactFiredSize', WHERE WHAT IT READS IS OF BULK AT MOST 1048576: true; the input reads as it did. -/
def fnExactFiredSizeUptoRow : OpenClaim := { program := "ytakckjmkjplbfaa", sum := "c95a7b0b18f3180facdf2c6ecc7d9f0f5146b2607737040341cdc0fea57f1c5e", func := "loop.example/g01042/laws.FnExactFiredSize", spec := "fnExactFiredSize", apart := false, narrowed := true }
def FnExactFiredSizeUptoSaid : Prop := fnExactFiredSizeUptoRow.holds Try.pinned (OpenSpec.upto fnExactFiredSizeSpec)

/-- 'laws.FnExactSizeFault', WHERE WHAT IT READS IS OF BULK AT MOST 1048576: true; the input reads as it did. -/
def fnExactSizeFaultUptoRow : OpenClaim := { program := "ytakckjmkjplbfaa", sum := "c95a7b0b18f3180facdf2c6ecc7d9f0f5146b2607737040341cdc0fea57f1c5e", func := "loop.example/g01042/laws.FnExactSizeFault", spec := "fnExactSizeFault", apart := false, narrowed := true }
def FnExactSizeFaultUptoSaid : Prop := fnExactSizeFaultUptoRow.holds Try.pinned (OpenSpec.upto fnExactSizeFaultSpec)

/-- 'laws.FnExactWornMoulds', WHERE WHAT IT READS IS OF BULK AT MOST 1048576: true; the input reads as it did. -/
def fnExactWornMouldsUptoRow : OpenClaim := { program := "ytakckjmkjplbfaa", sum := "c95a7b0b18f3180facdf2c6ecc7d9f0f5146b2607737040341cdc0fea57f1c5e", func := "loop.example/g01042/laws.FnExactWornMoulds", spec := "fnExactWornMoulds", unfollowed := true, recurses := true, apart := false, narrowed := true }
def FnExactWornMouldsUptoSaid : Prop := fnExactWornMouldsUptoRow.holds Try.pinned (OpenSpec.upto fnExactWornMouldsSpec)

/-- 'laws.FnExactUseMould', WHERE WHAT IT READS IS OF BULK AT MOST 1048576: true; the input reads as it did. -/
def fnExactUseMouldUptoRow : OpenClaim := { program := "ytakckjmkjplbfaa", sum := "c95a7b0b18f3180facdf2c6ecc7d9f0f5146b2607737040341cdc0fea57f1c5e", func := "loop.example/g01042/laws.FnExactUseMould", spec := "fnExactUseMould", unfollowed := true, recurses := true, apart := false, narrowed := true }
def FnExactUseMouldUptoSaid : Prop := fnExactUseMouldUptoRow.holds Try.pinned (OpenSpec.upto fnExactUseMouldSpec)

/-- 'laws.FnExactShareUses', WHERE WHAT IT READS IS OF BULK AT MOST 1048576: true; the input reads as it did. -/
def fnExactShareUsesUptoRow : OpenClaim := { program := "ytakckjmkjplbfaa", sum := "c95a7b0b18f3180facdf2c6ecc7d9f0f5146b2607737040341cdc0fea57f1c5e", func := "loop.example/g01042/laws.FnExactShareUses", spec := "fnExactShareUses", unfollowed := true, recurses := true, apart := false, narrowed := true }
def FnExactShareUsesUptoSaid : Prop := fnExactShareUsesUptoRow.holds Try.pinned (OpenSpec.upto fnExactShareUsesSpec)

/-- 'laws.FnExactBestMould', WHERE WHAT IT READS IS OF BULK AT MOST 1048576: true; the input reads as it did. -/
def fnExactBestMouldUptoRow : OpenClaim := { program := "ytakckjmkjplbfaa", sum := "c95a7b0b18f3180facdf2c6ecc7d9f0f5146b2607737040341cdc0fea57f1c5e", func := "loop.example/g01042/laws.FnExactBestMould", spec := "fnExactBestMould", unfollowed := true, recurses := true, apart := false, narrowed := true }
def FnExactBestMouldUptoSaid : Prop := fnExactBestMouldUptoRow.holds Try.pinned (OpenSpec.upto fnExactBestMouldSpec)

/-- 'laws.FnUses', WHERE WHAT IT READS IS OF BULK AT MOST 1048576: true; the input reads as it did. -/
def fnUsesUptoRow : OpenClaim := { program := "ytakckjmkjplbfaa", sum := "c95a7b0b18f3180facdf2c6ecc7d9f0f5146b2607737040341cdc0fea57f1c5e", func := "loop.example/g01042/laws.FnUses", spec := "fnUses", unfollowed := true, recurses := true, apart := false, narrowed := true }
def FnUsesUptoSaid : Prop := fnUsesUptoRow.holds Try.pinned (OpenSpec.upto fnUsesSpec)

end Rows
end Go.Proofs.Ytakckjmkjplbfaa
