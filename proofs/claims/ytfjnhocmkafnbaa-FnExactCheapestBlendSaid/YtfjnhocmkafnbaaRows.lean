/-
  No cell of these rows narrows 'for every input' (looked for: loops, veiled, ifaces, maps, wideKeys, modest, calm, conditions, laid).
  DERIVED. THE GIVEN ROWS OF THIS SEAT. 5 by the template 'for every input the law returns true; each argument reads behind the call as it read before'; 0 by the template 'total and deterministic' (their statements: YtfjnhocmkafnbaaTotals.lean).
  GIVEN WITH THE SEED: the statements are not yours to turn. If you find one false, say at which input.
  Laid BY PROGRAM, IN A SANDBOX (cutbox-rows.mjs): the forced cells as the released guide's own fill.sh prints them over the translation b2cbaa4b803b06df… (all of the seat's roots in one cut). By AI agents, Wed Nov 11 2026. No macro, syntax, notation, axiom, sorry.
-/
import Derived.Test.YtfjnhocmkafnbaaChecked
import GoSem.Claim
import GoSem.ClaimJoined
import GoSem.ClaimMapViews
import Derived.JoinedTies
import Derived.KernelRfl
namespace Go.Proofs.Ytfjnhocmkafnbaa
/- THE CELL 'sum', in the pinned program and in every row, IS THE sha256 OF THE DUMP (.gsa) THAT YtfjnhocmkafnbaaProg.lean LOADS. Nothing in Lean hashes anything: it is a label: what it is worth is what the hold of that sum in a sandbox is worth. -/
noncomputable def Try.pinned : Pinned := { name := "ytfjnhocmkafnbaa", sum := "b2cbaa4b803b06df1f97c03d7eda7d2b3f36f82a322d47b3111a9beb3c259e0b", checked := Try.checked }
namespace Rows
def none {H : Type} : Left H := { results := [], args := [] }

/-- 'laws.FnBlends': WHATEVER THE INPUT: true; the input reads as it did. -/
def fnBlendsSpec : ChangeSpec := { name := "fnBlends", fn := fun _ => fun
  | [d] => { results := [.lit (.bool true)], args := [d] }
  | _ => none }
def fnBlendsRow : OpenClaim := { program := "ytfjnhocmkafnbaa", sum := "b2cbaa4b803b06df1f97c03d7eda7d2b3f36f82a322d47b3111a9beb3c259e0b", func := "loop.example/g01042/laws.FnBlends", spec := "fnBlends", unfollowed := true, recurses := true, apart := false }
def FnBlendsSaid : Prop := fnBlendsRow.holds Try.pinned (OpenSpec.ofChange fnBlendsSpec)

/-- ITS FALSE NEIGHBOUR: 'it returns false'. Refute it at one input. -/
def fnBlendsWrong : ChangeSpec := { name := "fnBlends", fn := fun _ => fun
  | [d] => { results := [.lit (.bool false)], args := [d] }
  | _ => none }
def FnBlendsWrongFalsely : Prop := fnBlendsRow.holds Try.pinned (OpenSpec.ofChange fnBlendsWrong)

/-- 'laws.FnExactCountBlends': WHATEVER THE INPUT: true; the input reads as it did. -/
def fnExactCountBlendsSpec : ChangeSpec := { name := "fnExactCountBlends", fn := fun _ => fun
  | [d1, d2, d3] => { results := [.lit (.bool true)], args := [d1, d2, d3] }
  | _ => none }
def fnExactCountBlendsRow : OpenClaim := { program := "ytfjnhocmkafnbaa", sum := "b2cbaa4b803b06df1f97c03d7eda7d2b3f36f82a322d47b3111a9beb3c259e0b", func := "loop.example/g01042/laws.FnExactCountBlends", spec := "fnExactCountBlends", unfollowed := true, recurses := true, apart := false }
def FnExactCountBlendsSaid : Prop := fnExactCountBlendsRow.holds Try.pinned (OpenSpec.ofChange fnExactCountBlendsSpec)

/-- ITS FALSE NEIGHBOUR: 'it returns false'. Refute it at one input. -/
def fnExactCountBlendsWrong : ChangeSpec := { name := "fnExactCountBlends", fn := fun _ => fun
  | [d1, d2, d3] => { results := [.lit (.bool false)], args := [d1, d2, d3] }
  | _ => none }
def FnExactCountBlendsWrongFalsely : Prop := fnExactCountBlendsRow.holds Try.pinned (OpenSpec.ofChange fnExactCountBlendsWrong)

/-- 'laws.FnExactCheapestBlend': WHATEVER THE INPUT: true; the input reads as it did. -/
def fnExactCheapestBlendSpec : ChangeSpec := { name := "fnExactCheapestBlend", fn := fun _ => fun
  | [d1, d2, d3] => { results := [.lit (.bool true)], args := [d1, d2, d3] }
  | _ => none }
def fnExactCheapestBlendRow : OpenClaim := { program := "ytfjnhocmkafnbaa", sum := "b2cbaa4b803b06df1f97c03d7eda7d2b3f36f82a322d47b3111a9beb3c259e0b", func := "loop.example/g01042/laws.FnExactCheapestBlend", spec := "fnExactCheapestBlend", unfollowed := true, recurses := true, apart := false }
def FnExactCheapestBlendSaid : Prop := fnExactCheapestBlendRow.holds Try.pinned (OpenSpec.ofChange fnExactCheapestBlendSpec)

/-- ITS FALSE NEIGHBOUR: 'it returns false'. Refute it at one input. -/
def fnExactCheapestBlendWrong : ChangeSpec := { name := "fnExactCheapestBlend", fn := fun _ => fun
  | [d1, d2, d3] => { results := [.lit (.bool false)], args := [d1, d2, d3] }
  | _ => none }
def FnExactCheapestBlendWrongFalsely : Prop := fnExactCheapestBlendRow.holds Try.pinned (OpenSpec.ofChange fnExactCheapestBlendWrong)

/-- 'laws.FnPerpends': WHATEVER THE INPUT: true; the input reads as it did. -/
def fnPerpendsSpec : ChangeSpec := { name := "fnPerpends", fn := fun _ => fun
  | [d1, d2] => { results := [.lit (.bool true)], args := [d1, d2] }
  | _ => none }
def fnPerpendsRow : OpenClaim := { program := "ytfjnhocmkafnbaa", sum := "b2cbaa4b803b06df1f97c03d7eda7d2b3f36f82a322d47b3111a9beb3c259e0b", func := "loop.example/g01042/laws.FnPerpends", spec := "fnPerpends", inPlace := ["internal/bytealg.IndexByteString"], unfollowed := true, recurses := true, apart := false }
def FnPerpendsSaid : Prop := fnPerpendsRow.holds Try.pinned (OpenSpec.ofChange fnPerpendsSpec)

/-- ITS FALSE NEIGHBOUR: 'it returns false'. Refute it at one input. -/
def fnPerpendsWrong : ChangeSpec := { name := "fnPerpends", fn := fun _ => fun
  | [d1, d2] => { results := [.lit (.bool false)], args := [d1, d2] }
  | _ => none }
def FnPerpendsWrongFalsely : Prop := fnPerpendsRow.holds Try.pinned (OpenSpec.ofChange fnPerpendsWrong)

/-- 'laws.FnUses': WHATEVER THE INPUT: true; the input reads as it did. -/
def fnUsesSpec : ChangeSpec := { name := "fnUses", fn := fun _ => fun
  | [d] => { results := [.lit (.bool true)], args := [d] }
  | _ => none }
def fnUsesRow : OpenClaim := { program := "ytfjnhocmkafnbaa", sum := "b2cbaa4b803b06df1f97c03d7eda7d2b3f36f82a322d47b3111a9beb3c259e0b", func := "loop.example/g01042/laws.FnUses", spec := "fnUses", unfollowed := true, recurses := true, apart := false }
def FnUsesSaid : Prop := fnUsesRow.holds Try.pinned (OpenSpec.ofChange fnUsesSpec)

/-- ITS FALSE NEIGHBOUR: 'it returns false'. Refute it at one input. -/
def fnUsesWrong : ChangeSpec := { name := "fnUses", fn := fun _ => fun
  | [d] => { results := [.lit (.bool false)], args := [d] }
  | _ => none }
def FnUsesWrongFalsely : Prop := fnUsesRow.holds Try.pinned (OpenSpec.ofChange fnUsesWrong)

/- THE SECOND FORM. 'bulk': how many values and letters a reading holds, each counted each time it is reached (what is shared counts as often as it is met; a slice's spare places count too). A statement '..UptoSaid' is the law's where the arguments, and the package variables that the reading takes, are together of bulk at most 1048576: NARROWER than '..Said'. Prove '..Said' where nothing that the law and all that it calls make is longer than what came in: it says more and counts as full. Else prove '..UptoSaid'. A law counts once. -/
mutual
def uptoBulk {H : Type} : DataW H → Nat
  | .lit (.string bytes) => bytes.length + 1
  | .lit _ => 1
  | .nil => 1
  | .ptr d => uptoBulk d + 1
  | .slice elems spare => uptoBulkAll elems + uptoBulkAll spare + 1
  | .agg parts => uptoBulkAll parts + 1
  | .iface _ d => uptoBulk d + 1
  | .map entries => uptoBulkEntries entries + 1
  | .held _ => 1
def uptoBulkAll {H : Type} : List (DataW H) → Nat
  | [] => 0
  | d :: r => uptoBulk d + uptoBulkAll r
def uptoBulkEntries {H : Type} : List (Lit × DataW H) → Nat
  | [] => 0
  | x :: r => uptoBulkEntry x + uptoBulkEntries r
def uptoBulkEntry {H : Type} : Lit × DataW H → Nat
  | (.string bytes, d) => bytes.length + uptoBulk d + 1
  | (_, d) => uptoBulk d + 1
 end
def uptoSmall : (H : Type) → List (DataW H) → Bool := fun _ ds => decide (uptoBulkAll ds ≤ 1048576)
def OpenSpec.upto (s : _root_.Go.ChangeSpec) : _root_.Go.OpenSpec := { _root_.Go.OpenSpec.ofChange s with cond := some uptoSmall }

/-- 'laws.FnBlends', WHERE WHAT IT READS IS OF BULK AT MOST 1048576: true; the input reads as it did. -/
def fnBlendsUptoRow : OpenClaim := { program := "ytfjnhocmkafnbaa", sum := "b2cbaa4b803b06df1f97c03d7eda7d2b3f36f82a322d47b3111a9beb3c259e0b", func := "loop.example/g01042/laws.FnBlends", spec := "fnBlends", unfollowed := true, recurses := true, apart := false, narrowed := true }
def FnBlendsUptoSaid : Prop := fnBlendsUptoRow.holds Try.pinned (OpenSpec.upto fnBlendsSpec)

/-- 'laws.FnExactCountBlends', WHERE WHAT IT READS IS OF BULK AT MOST 1048576: true; the input reads as it did. -/
def fnExactCountBlendsUptoRow : OpenClaim := { program := "ytfjnhocmkafnbaa", sum := "b2cbaa4b803b06df1f97c03d7eda7d2b3f36f82a322d47b3111a9beb3c259e0b", func := "loop.example/g01042/laws.FnExactCountBlends", spec := "fnExactCountBlends", unfollowed := true, recurses := true, apart := false, narrowed := true }
def FnExactCountBlendsUptoSaid : Prop := fnExactCountBlendsUptoRow.holds Try.pinned (OpenSpec.upto fnExactCountBlendsSpec)

/-- 'laws.FnExactCheapestBlend', WHERE WHAT IT READS IS OF BULK AT MOST 1048576: true; the input reads as it did. -/
def fnExactCheapestBlendUptoRow : OpenClaim := { program := "ytfjnhocmkafnbaa", sum := "b2cbaa4b803b06df1f97c03d7eda7d2b3f36f82a322d47b3111a9beb3c259e0b", func := "loop.example/g01042/laws.FnExactCheapestBlend", spec := "fnExactCheapestBlend", unfollowed := true, recurses := true, apart := false, narrowed := true }
def FnExactCheapestBlendUptoSaid : Prop := fnExactCheapestBlendUptoRow.holds Try.pinned (OpenSpec.upto fnExactCheapestBlendSpec)

/-- 'laws.FnPerpends', WHERE WHAT IT READS IS OF BULK AT MOST 1048576: true; the input reads as it did. -/
def fnPerpendsUptoRow : OpenClaim := { program := "ytfjnhocmkafnbaa", sum := "b2cbaa4b803b06df1f97c03d7eda7d2b3f36f82a322d47b3111a9beb3c259e0b", func := "loop.example/g01042/laws.FnPerpends", spec := "fnPerpends", inPlace := ["internal/bytealg.IndexByteString"], unfollowed := true, recurses := true, apart := false, narrowed := true }
def FnPerpendsUptoSaid : Prop := fnPerpendsUptoRow.holds Try.pinned (OpenSpec.upto fnPerpendsSpec)

/-- 'laws.FnUses', WHERE WHAT IT READS IS OF BULK AT MOST 1048576: true; the input reads as it did. -/
def fnUsesUptoRow : OpenClaim := { program := "ytfjnhocmkafnbaa", sum := "b2cbaa4b803b06df1f97c03d7eda7d2b3f36f82a322d47b3111a9beb3c259e0b", func := "loop.example/g01042/laws.FnUses", spec := "fnUses", unfollowed := true, recurses := true, apart := false, narrowed := true }
def FnUsesUptoSaid : Prop := fnUsesUptoRow.holds Try.pinned (OpenSpec.upto fnUsesSpec)

end Rows
end Go.Proofs.Ytfjnhocmkafnbaa
