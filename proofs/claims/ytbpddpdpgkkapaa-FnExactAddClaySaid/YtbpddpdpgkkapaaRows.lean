/-
  No cell of these rows narrows 'for every input' (looked for: loops, veiled, ifaces, maps, wideKeys, modest, calm, conditions, laid).
  DERIVED. THE GIVEN ROWS OF THIS SEAT. 12 by the template 'for every input the law returns true; each argument reads behind the call as it read before'; 0 by the template 'total and deterministic' (their statements: YtbpddpdpgkkapaaTotals.lean).
  GIVEN WITH THE SEED: the statements are not yours to turn. If you find one false, say at which input.
  Laid BY PROGRAM, IN A SANDBOX (cutbox-rows.mjs): the forced cells as the released guide's own fill.sh prints them over the translation 84aa41d3e723c870… (all of the seat's roots in one cut). By AI agents, Wed Nov 11 2026. No macro, syntax, notation, axiom, sorry.
-/
import Derived.Test.YtbpddpdpgkkapaaChecked
import GoSem.Claim
import GoSem.ClaimJoined
import GoSem.ClaimMapViews
import Derived.JoinedTies
import Derived.KernelRfl
namespace Go.Proofs.Ytbpddpdpgkkapaa
/- THE CELL 'sum', in the pinned program and in every row, IS THE sha256 OF THE DUMP (.gsa) THAT YtbpddpdpgkkapaaProg.lean LOADS. Nothing in Lean hashes anything: it is a label: what it is worth is what the hold of that sum in a sandbox is worth. -/
noncomputable def Try.pinned : Pinned := { name := "ytbpddpdpgkkapaa", sum := "84aa41d3e723c8703226d6d80c2525f3e33e7444b88f7a533d8fa2c4710f12bd", checked := Try.checked }
namespace Rows
def none {H : Type} : Left H := { results := [], args := [] }

/-- 'laws.FnExactSameClays': WHATEVER THE INPUT: true; the input reads as it did. -/
def fnExactSameClaysSpec : ChangeSpec := { name := "fnExactSameClays", fn := fun _ => fun
  | [d1, d2] => { results := [.lit (.bool true)], args := [d1, d2] }
  | _ => none }
def fnExactSameClaysRow : OpenClaim := { program := "ytbpddpdpgkkapaa", sum := "84aa41d3e723c8703226d6d80c2525f3e33e7444b88f7a533d8fa2c4710f12bd", func := "loop.example/g01042/laws.FnExactSameClays", spec := "fnExactSameClays", apart := false }
def FnExactSameClaysSaid : Prop := fnExactSameClaysRow.holds Try.pinned (OpenSpec.ofChange fnExactSameClaysSpec)

/-- ITS FALSE NEIGHBOUR: 'it returns false'. Refute it at one input. -/
def fnExactSameClaysWrong : ChangeSpec := { name := "fnExactSameClays", fn := fun _ => fun
  | [d1, d2] => { results := [.lit (.bool false)], args := [d1, d2] }
  | _ => none }
def FnExactSameClaysWrongFalsely : Prop := fnExactSameClaysRow.holds Try.pinned (OpenSpec.ofChange fnExactSameClaysWrong)

/-- 'laws.FnExactBlendOfTwo': WHATEVER THE INPUT: true; the input reads as it did. -/
def fnExactBlendOfTwoSpec : ChangeSpec := { name := "fnExactBlendOfTwo", fn := fun _ => fun
  | [d1, d2, d3] => { results := [.lit (.bool true)], args := [d1, d2, d3] }
  | _ => none }
def fnExactBlendOfTwoRow : OpenClaim := { program := "ytbpddpdpgkkapaa", sum := "84aa41d3e723c8703226d6d80c2525f3e33e7444b88f7a533d8fa2c4710f12bd", func := "loop.example/g01042/laws.FnExactBlendOfTwo", spec := "fnExactBlendOfTwo", apart := false }
def FnExactBlendOfTwoSaid : Prop := fnExactBlendOfTwoRow.holds Try.pinned (OpenSpec.ofChange fnExactBlendOfTwoSpec)

/-- ITS FALSE NEIGHBOUR: 'it returns false'. Refute it at one input. -/
def fnExactBlendOfTwoWrong : ChangeSpec := { name := "fnExactBlendOfTwo", fn := fun _ => fun
  | [d1, d2, d3] => { results := [.lit (.bool false)], args := [d1, d2, d3] }
  | _ => none }
def FnExactBlendOfTwoWrongFalsely : Prop := fnExactBlendOfTwoRow.holds Try.pinned (OpenSpec.ofChange fnExactBlendOfTwoWrong)

/-- 'laws.FnExactValidClays': WHATEVER THE INPUT: true; the input reads as it did. -/
def fnExactValidClaysSpec : ChangeSpec := { name := "fnExactValidClays", fn := fun _ => fun
  | [d] => { results := [.lit (.bool true)], args := [d] }
  | _ => none }
def fnExactValidClaysRow : OpenClaim := { program := "ytbpddpdpgkkapaa", sum := "84aa41d3e723c8703226d6d80c2525f3e33e7444b88f7a533d8fa2c4710f12bd", func := "loop.example/g01042/laws.FnExactValidClays", spec := "fnExactValidClays", unfollowed := true, recurses := true, apart := false }
def FnExactValidClaysSaid : Prop := fnExactValidClaysRow.holds Try.pinned (OpenSpec.ofChange fnExactValidClaysSpec)

/-- ITS FALSE NEIGHBOUR: 'it returns false'. Refute it at one input. -/
def fnExactValidClaysWrong : ChangeSpec := { name := "fnExactValidClays", fn := fun _ => fun
  | [d] => { results := [.lit (.bool false)], args := [d] }
  | _ => none }
def FnExactValidClaysWrongFalsely : Prop := fnExactValidClaysRow.holds Try.pinned (OpenSpec.ofChange fnExactValidClaysWrong)

/-- 'laws.FnExactAddClay': WHATEVER THE INPUT: true; the input reads as it did. -/
def fnExactAddClaySpec : ChangeSpec := { name := "fnExactAddClay", fn := fun _ => fun
  | [d1, d2] => { results := [.lit (.bool true)], args := [d1, d2] }
  | _ => none }
def fnExactAddClayRow : OpenClaim := { program := "ytbpddpdpgkkapaa", sum := "84aa41d3e723c8703226d6d80c2525f3e33e7444b88f7a533d8fa2c4710f12bd", func := "loop.example/g01042/laws.FnExactAddClay", spec := "fnExactAddClay", unfollowed := true, recurses := true, apart := false }
def FnExactAddClaySaid : Prop := fnExactAddClayRow.holds Try.pinned (OpenSpec.ofChange fnExactAddClaySpec)

/-- ITS FALSE NEIGHBOUR: 'it returns false'. Refute it at one input. -/
def fnExactAddClayWrong : ChangeSpec := { name := "fnExactAddClay", fn := fun _ => fun
  | [d1, d2] => { results := [.lit (.bool false)], args := [d1, d2] }
  | _ => none }
def FnExactAddClayWrongFalsely : Prop := fnExactAddClayRow.holds Try.pinned (OpenSpec.ofChange fnExactAddClayWrong)

/-- 'laws.FnExactLeastParts': WHATEVER THE INPUT: true; the input reads as it did. -/
def fnExactLeastPartsSpec : ChangeSpec := { name := "fnExactLeastParts", fn := fun _ => fun
  | [d1, d2] => { results := [.lit (.bool true)], args := [d1, d2] }
  | _ => none }
def fnExactLeastPartsRow : OpenClaim := { program := "ytbpddpdpgkkapaa", sum := "84aa41d3e723c8703226d6d80c2525f3e33e7444b88f7a533d8fa2c4710f12bd", func := "loop.example/g01042/laws.FnExactLeastParts", spec := "fnExactLeastParts", unfollowed := true, recurses := true, apart := false }
def FnExactLeastPartsSaid : Prop := fnExactLeastPartsRow.holds Try.pinned (OpenSpec.ofChange fnExactLeastPartsSpec)

/-- ITS FALSE NEIGHBOUR: 'it returns false'. Refute it at one input. -/
def fnExactLeastPartsWrong : ChangeSpec := { name := "fnExactLeastParts", fn := fun _ => fun
  | [d1, d2] => { results := [.lit (.bool false)], args := [d1, d2] }
  | _ => none }
def FnExactLeastPartsWrongFalsely : Prop := fnExactLeastPartsRow.holds Try.pinned (OpenSpec.ofChange fnExactLeastPartsWrong)

/-- 'laws.FnExactLimeOf': WHATEVER THE INPUT: true; the input reads as it did. -/
def fnExactLimeOfSpec : ChangeSpec := { name := "fnExactLimeOf", fn := fun _ => fun
  | [d1, d2] => { results := [.lit (.bool true)], args := [d1, d2] }
  | _ => none }
def fnExactLimeOfRow : OpenClaim := { program := "ytbpddpdpgkkapaa", sum := "84aa41d3e723c8703226d6d80c2525f3e33e7444b88f7a533d8fa2c4710f12bd", func := "loop.example/g01042/laws.FnExactLimeOf", spec := "fnExactLimeOf", unfollowed := true, recurses := true, apart := false }
def FnExactLimeOfSaid : Prop := fnExactLimeOfRow.holds Try.pinned (OpenSpec.ofChange fnExactLimeOfSpec)

/-- ITS FALSE NEIGHBOUR: 'it returns false'. Refute it at one input. -/
def fnExactLimeOfWrong : ChangeSpec := { name := "fnExactLimeOf", fn := fun _ => fun
  | [d1, d2] => { results := [.lit (.bool false)], args := [d1, d2] }
  | _ => none }
def FnExactLimeOfWrongFalsely : Prop := fnExactLimeOfRow.holds Try.pinned (OpenSpec.ofChange fnExactLimeOfWrong)

/-- 'laws.FnExactBlendPrice': WHATEVER THE INPUT: true; the input reads as it did. -/
def fnExactBlendPriceSpec : ChangeSpec := { name := "fnExactBlendPrice", fn := fun _ => fun
  | [d1, d2] => { results := [.lit (.bool true)], args := [d1, d2] }
  | _ => none }
def fnExactBlendPriceRow : OpenClaim := { program := "ytbpddpdpgkkapaa", sum := "84aa41d3e723c8703226d6d80c2525f3e33e7444b88f7a533d8fa2c4710f12bd", func := "loop.example/g01042/laws.FnExactBlendPrice", spec := "fnExactBlendPrice", unfollowed := true, recurses := true, apart := false }
def FnExactBlendPriceSaid : Prop := fnExactBlendPriceRow.holds Try.pinned (OpenSpec.ofChange fnExactBlendPriceSpec)

/-- ITS FALSE NEIGHBOUR: 'it returns false'. Refute it at one input. -/
def fnExactBlendPriceWrong : ChangeSpec := { name := "fnExactBlendPrice", fn := fun _ => fun
  | [d1, d2] => { results := [.lit (.bool false)], args := [d1, d2] }
  | _ => none }
def FnExactBlendPriceWrongFalsely : Prop := fnExactBlendPriceRow.holds Try.pinned (OpenSpec.ofChange fnExactBlendPriceWrong)

/-- 'laws.FnExactShrinkOf': WHATEVER THE INPUT: true; the input reads as it did. -/
def fnExactShrinkOfSpec : ChangeSpec := { name := "fnExactShrinkOf", fn := fun _ => fun
  | [d1, d2] => { results := [.lit (.bool true)], args := [d1, d2] }
  | _ => none }
def fnExactShrinkOfRow : OpenClaim := { program := "ytbpddpdpgkkapaa", sum := "84aa41d3e723c8703226d6d80c2525f3e33e7444b88f7a533d8fa2c4710f12bd", func := "loop.example/g01042/laws.FnExactShrinkOf", spec := "fnExactShrinkOf", unfollowed := true, recurses := true, apart := false }
def FnExactShrinkOfSaid : Prop := fnExactShrinkOfRow.holds Try.pinned (OpenSpec.ofChange fnExactShrinkOfSpec)

/-- ITS FALSE NEIGHBOUR: 'it returns false'. Refute it at one input. -/
def fnExactShrinkOfWrong : ChangeSpec := { name := "fnExactShrinkOf", fn := fun _ => fun
  | [d1, d2] => { results := [.lit (.bool false)], args := [d1, d2] }
  | _ => none }
def FnExactShrinkOfWrongFalsely : Prop := fnExactShrinkOfRow.holds Try.pinned (OpenSpec.ofChange fnExactShrinkOfWrong)

/-- 'laws.FnExactBlendFault': WHATEVER THE INPUT: true; the input reads as it did. -/
def fnExactBlendFaultSpec : ChangeSpec := { name := "fnExactBlendFault", fn := fun _ => fun
  | [d1, d2, d3] => { results := [.lit (.bool true)], args := [d1, d2, d3] }
  | _ => none }
def fnExactBlendFaultRow : OpenClaim := { program := "ytbpddpdpgkkapaa", sum := "84aa41d3e723c8703226d6d80c2525f3e33e7444b88f7a533d8fa2c4710f12bd", func := "loop.example/g01042/laws.FnExactBlendFault", spec := "fnExactBlendFault", unfollowed := true, recurses := true, apart := false }
def FnExactBlendFaultSaid : Prop := fnExactBlendFaultRow.holds Try.pinned (OpenSpec.ofChange fnExactBlendFaultSpec)

/-- ITS FALSE NEIGHBOUR: 'it returns false'. Refute it at one input. -/
def fnExactBlendFaultWrong : ChangeSpec := { name := "fnExactBlendFault", fn := fun _ => fun
  | [d1, d2, d3] => { results := [.lit (.bool false)], args := [d1, d2, d3] }
  | _ => none }
def FnExactBlendFaultWrongFalsely : Prop := fnExactBlendFaultRow.holds Try.pinned (OpenSpec.ofChange fnExactBlendFaultWrong)

/-- 'laws.FnExactCountBlends': WHATEVER THE INPUT: true; the input reads as it did. -/
def fnExactCountBlendsSpec : ChangeSpec := { name := "fnExactCountBlends", fn := fun _ => fun
  | [d1, d2, d3] => { results := [.lit (.bool true)], args := [d1, d2, d3] }
  | _ => none }
def fnExactCountBlendsRow : OpenClaim := { program := "ytbpddpdpgkkapaa", sum := "84aa41d3e723c8703226d6d80c2525f3e33e7444b88f7a533d8fa2c4710f12bd", func := "loop.example/g01042/laws.FnExactCountBlends", spec := "fnExactCountBlends", unfollowed := true, recurses := true, apart := false }
def FnExactCountBlendsSaid : Prop := fnExactCountBlendsRow.holds Try.pinned (OpenSpec.ofChange fnExactCountBlendsSpec)

/-- ITS FALSE NEIGHBOUR: 'it returns false'. Refute it at one input. -/
def fnExactCountBlendsWrong : ChangeSpec := { name := "fnExactCountBlends", fn := fun _ => fun
  | [d1, d2, d3] => { results := [.lit (.bool false)], args := [d1, d2, d3] }
  | _ => none }
def FnExactCountBlendsWrongFalsely : Prop := fnExactCountBlendsRow.holds Try.pinned (OpenSpec.ofChange fnExactCountBlendsWrong)

/-- 'laws.FnExactCheapestBlend': WHATEVER THE INPUT: true; the input reads as it did. -/
def fnExactCheapestBlendSpec : ChangeSpec := { name := "fnExactCheapestBlend", fn := fun _ => fun
  | [d1, d2, d3] => { results := [.lit (.bool true)], args := [d1, d2, d3] }
  | _ => none }
def fnExactCheapestBlendRow : OpenClaim := { program := "ytbpddpdpgkkapaa", sum := "84aa41d3e723c8703226d6d80c2525f3e33e7444b88f7a533d8fa2c4710f12bd", func := "loop.example/g01042/laws.FnExactCheapestBlend", spec := "fnExactCheapestBlend", unfollowed := true, recurses := true, apart := false }
def FnExactCheapestBlendSaid : Prop := fnExactCheapestBlendRow.holds Try.pinned (OpenSpec.ofChange fnExactCheapestBlendSpec)

/-- ITS FALSE NEIGHBOUR: 'it returns false'. Refute it at one input. -/
def fnExactCheapestBlendWrong : ChangeSpec := { name := "fnExactCheapestBlend", fn := fun _ => fun
  | [d1, d2, d3] => { results := [.lit (.bool false)], args := [d1, d2, d3] }
  | _ => none }
def FnExactCheapestBlendWrongFalsely : Prop := fnExactCheapestBlendRow.holds Try.pinned (OpenSpec.ofChange fnExactCheapestBlendWrong)

/-- 'laws.FnBlends': WHATEVER THE INPUT: true; the input reads as it did. -/
def fnBlendsSpec : ChangeSpec := { name := "fnBlends", fn := fun _ => fun
  | [d] => { results := [.lit (.bool true)], args := [d] }
  | _ => none }
def fnBlendsRow : OpenClaim := { program := "ytbpddpdpgkkapaa", sum := "84aa41d3e723c8703226d6d80c2525f3e33e7444b88f7a533d8fa2c4710f12bd", func := "loop.example/g01042/laws.FnBlends", spec := "fnBlends", unfollowed := true, recurses := true, apart := false }
def FnBlendsSaid : Prop := fnBlendsRow.holds Try.pinned (OpenSpec.ofChange fnBlendsSpec)

/-- ITS FALSE NEIGHBOUR: 'it returns false'. Refute it at one input. -/
def fnBlendsWrong : ChangeSpec := { name := "fnBlends", fn := fun _ => fun
  | [d] => { results := [.lit (.bool false)], args := [d] }
  | _ => none }
def FnBlendsWrongFalsely : Prop := fnBlendsRow.holds Try.pinned (OpenSpec.ofChange fnBlendsWrong)

/- THE SECOND FORM. 'bulk': how many values and letters a reading holds, each counted each time it is reached (what is shared counts as often as it is met; a slice's spare places count too). A statement '..UptoSaid' is the law's where the arguments, and the package variables that the reading takes, are together of bulk at most 1048576: NARROWER than '..Said'. Prove '..Said' where nothing that the law and all that it calls make is longer than what came in: it says more and counts as full. Else prove '..UptoSaid'. A law counts once. -/
mutual
def uptoBulk {H : Type} : DataW H → Nat
  | .lit (.string bytes) => bytes.length + 1
  | .lit _ => 1
  | .nil => 1
  | .ptr d => uptoBulk d + 1
  | .slice elems spare => uptoBulkAll elems + uptoBulkAll spare + 1
  | .agg parts => uptoBulkAll parts + 1
  | .iface _ d => uptoBulk d + 1
  | .map entries => uptoBulkEntries entries + 1
  | .held _ => 1
def uptoBulkAll {H : Type} : List (DataW H) → Nat
  | [] => 0
  | d :: r => uptoBulk d + uptoBulkAll r
def uptoBulkEntries {H : Type} : List (Lit × DataW H) → Nat
  | [] => 0
  | x :: r => uptoBulkEntry x + uptoBulkEntries r
def uptoBulkEntry {H : Type} : Lit × DataW H → Nat
  | (.string bytes, d) => bytes.length + uptoBulk d + 1
  | (_, d) => uptoBulk d + 1
 end
def uptoSmall : (H : Type) → List (DataW H) → Bool := fun _ ds => decide (uptoBulkAll ds ≤ 1048576)
def OpenSpec.upto (s : _root_.Go.ChangeSpec) : _root_.Go.OpenSpec := { _root_.Go.OpenSpec.ofChange s with cond := some uptoSmall }

/-- 'laws.FnExactSameClays', WHERE WHAT IT READS IS OF BULK AT MOST 1048576: true; the input reads as it did. -/
def fnExactSameClaysUptoRow : OpenClaim := { program := "ytbpddpdpgkkapaa", sum := "84aa41d3e723c8703226d6d80c2525f3e33e7444b88f7a533d8fa2c4710f12bd", func := "loop.example/g01042/laws.FnExactSameClays", spec := "fnExactSameClays", apart := false, narrowed := true }
def FnExactSameClaysUptoSaid : Prop := fnExactSameClaysUptoRow.holds Try.pinned (OpenSpec.upto fnExactSameClaysSpec)

/-- 'laws.FnExactBlendOfTwo', WHERE WHAT IT READS IS OF BULK AT MOST 1048576: true; the input reads as it did. -/
def fnExactBlendOfTwoUptoRow : OpenClaim := { program := "ytbpddpdpgkkapaa", sum := "84aa41d3e723c8703226d6d80c2525f3e33e7444b88f7a533d8fa2c4710f12bd", func := "loop.example/g01042/laws.FnExactBlendOfTwo", spec := "fnExactBlendOfTwo", apart := false, narrowed := true }
def FnExactBlendOfTwoUptoSaid : Prop := fnExactBlendOfTwoUptoRow.holds Try.pinned (OpenSpec.upto fnExactBlendOfTwoSpec)

/-- 'laws.FnExactValidClays', WHERE WHAT IT READS IS OF BULK AT MOST 1048576: true; the input reads as it did. -/
def fnExactValidClaysUptoRow : OpenClaim := { program := "ytbpddpdpgkkapaa", sum := "84aa41d3e723c8703226d6d80c2525f3e33e7444b88f7a533d8fa2c4710f12bd", func := "loop.example/g01042/laws.FnExactValidClays", spec := "fnExactValidClays", unfollowed := true, recurses := true, apart := false, narrowed := true }
def FnExactValidClaysUptoSaid : Prop := fnExactValidClaysUptoRow.holds Try.pinned (OpenSpec.upto fnExactValidClaysSpec)

/-- 'laws.FnExactAddClay', WHERE WHAT IT READS IS OF BULK AT MOST 1048576: true; the input reads as it did. -/
def fnExactAddClayUptoRow : OpenClaim := { program := "ytbpddpdpgkkapaa", sum := "84aa41d3e723c8703226d6d80c2525f3e33e7444b88f7a533d8fa2c4710f12bd", func := "loop.example/g01042/laws.FnExactAddClay", spec := "fnExactAddClay", unfollowed := true, recurses := true, apart := false, narrowed := true }
def FnExactAddClayUptoSaid : Prop := fnExactAddClayUptoRow.holds Try.pinned (OpenSpec.upto fnExactAddClaySpec)

/-- 'laws.FnExactLeastParts', WHERE WHAT IT READS IS OF BULK AT MOST 1048576: true; the input reads as it did. -/
def fnExactLeastPartsUptoRow : OpenClaim := { program := "ytbpddpdpgkkapaa", sum := "84aa41d3e723c8703226d6d80c2525f3e33e7444b88f7a533d8fa2c4710f12bd", func := "loop.example/g01042/laws.FnExactLeastParts", spec := "fnExactLeastParts", unfollowed := true, recurses := true, apart := false, narrowed := true }
def FnExactLeastPartsUptoSaid : Prop := fnExactLeastPartsUptoRow.holds Try.pinned (OpenSpec.upto fnExactLeastPartsSpec)

/-- 'laws.FnExactLimeOf', WHERE WHAT IT READS IS OF BULK AT MOST 1048576: true; the input reads as it did. -/
def fnExactLimeOfUptoRow : OpenClaim := { program := "ytbpddpdpgkkapaa", sum := "84aa41d3e723c8703226d6d80c2525f3e33e7444b88f7a533d8fa2c4710f12bd", func := "loop.example/g01042/laws.FnExactLimeOf", spec := "fnExactLimeOf", unfollowed := true, recurses := true, apart := false, narrowed := true }
def FnExactLimeOfUptoSaid : Prop := fnExactLimeOfUptoRow.holds Try.pinned (OpenSpec.upto fnExactLimeOfSpec)

/-- 'laws.FnExactBlendPrice', WHERE WHAT IT READS IS OF BULK AT MOST 1048576: true; the input reads as it did. -/
def fnExactBlendPriceUptoRow : OpenClaim := { program := "ytbpddpdpgkkapaa", sum := "84aa41d3e723c8703226d6d80c2525f3e33e7444b88f7a533d8fa2c4710f12bd", func := "loop.example/g01042/laws.FnExactBlendPrice", spec := "fnExactBlendPrice", unfollowed := true, recurses := true, apart := false, narrowed := true }
def FnExactBlendPriceUptoSaid : Prop := fnExactBlendPriceUptoRow.holds Try.pinned (OpenSpec.upto fnExactBlendPriceSpec)

/-- 'laws.FnExactShrinkOf', WHERE WHAT IT READS IS OF BULK AT MOST 1048576: true; the input reads as it did. -/
def fnExactShrinkOfUptoRow : OpenClaim := { program := "ytbpddpdpgkkapaa", sum := "84aa41d3e723c8703226d6d80c2525f3e33e7444b88f7a533d8fa2c4710f12bd", func := "loop.example/g01042/laws.FnExactShrinkOf", spec := "fnExactShrinkOf", unfollowed := true, recurses := true, apart := false, narrowed := true }
def FnExactShrinkOfUptoSaid : Prop := fnExactShrinkOfUptoRow.holds Try.pinned (OpenSpec.upto fnExactShrinkOfSpec)

/-- 'laws.FnExactBlendFault', WHERE WHAT IT READS IS OF BULK AT MOST 1048576: true; the input reads as it did. -/
def fnExactBlendFaultUptoRow : OpenClaim := { program := "ytbpddpdpgkkapaa", sum := "84aa41d3e723c8703226d6d80c2525f3e33e7444b88f7a533d8fa2c4710f12bd", func := "loop.example/g01042/laws.FnExactBlendFault", spec := "fnExactBlendFault", unfollowed := true, recurses := true, apart := false, narrowed := true }
def FnExactBlendFaultUptoSaid : Prop := fnExactBlendFaultUptoRow.holds Try.pinned (OpenSpec.upto fnExactBlendFaultSpec)

/-- 'laws.FnExactCountBlends', WHERE WHAT IT READS IS OF BULK AT MOST 1048576: true; the input reads as it did. -/
def fnExactCountBlendsUptoRow : OpenClaim := { program := "ytbpddpdpgkkapaa", sum := "84aa41d3e723c8703226d6d80c2525f3e33e7444b88f7a533d8fa2c4710f12bd", func := "loop.example/g01042/laws.FnExactCountBlends", spec := "fnExactCountBlends", unfollowed := true, recurses := true, apart := false, narrowed := true }
def FnExactCountBlendsUptoSaid : Prop := fnExactCountBlendsUptoRow.holds Try.pinned (OpenSpec.upto fnExactCountBlendsSpec)

/-- 'laws.FnExactCheapestBlend', WHERE WHAT IT READS IS OF BULK AT MOST 1048576: true; the input reads as it did. -/
def fnExactCheapestBlendUptoRow : OpenClaim := { program := "ytbpddpdpgkkapaa", sum := "84aa41d3e723c8703226d6d80c2525f3e33e7444b88f7a533d8fa2c4710f12bd", func := "loop.example/g01042/laws.FnExactCheapestBlend", spec := "fnExactCheapestBlend", unfollowed := true, recurses := true, apart := false, narrowed := true }
def FnExactCheapestBlendUptoSaid : Prop := fnExactCheapestBlendUptoRow.holds Try.pinned (OpenSpec.upto fnExactCheapestBlendSpec)

/-- 'laws.FnBlends', WHERE WHAT IT READS IS OF BULK AT MOST 1048576: true; the input reads as it did. -/
def fnBlendsUptoRow : OpenClaim := { program := "ytbpddpdpgkkapaa", sum := "84aa41d3e723c8703226d6d80c2525f3e33e7444b88f7a533d8fa2c4710f12bd", func := "loop.example/g01042/laws.FnBlends", spec := "fnBlends", unfollowed := true, recurses := true, apart := false, narrowed := true }
def FnBlendsUptoSaid : Prop := fnBlendsUptoRow.holds Try.pinned (OpenSpec.upto fnBlendsSpec)

end Rows
end Go.Proofs.Ytbpddpdpgkkapaa
