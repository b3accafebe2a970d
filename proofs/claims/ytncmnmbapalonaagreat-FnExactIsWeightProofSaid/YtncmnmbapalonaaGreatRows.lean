/-
  No cell of these rows narrows 'for every input' (looked for: loops, veiled, ifaces, maps, wideKeys, modest, calm, conditions, laid).
  DERIVED. THE GIVEN ROWS OF THIS SEAT. 5 by the template 'for every input the law returns true; each argument reads behind the call as it read before'; 0 by the template 'total and deterministic' (their statements: YtncmnmbapalonaaGreatTotals.lean).
  GIVEN WITH THE SEED: the statements are not yours to turn. If you find one false, say at which input.
  Laid BY PROGRAM, IN A SANDBOX (cutbox-rows.mjs): the forced cells as the released guide's own fill.sh prints them over the translation d9820841b8f6a244… (all of the seat's roots in one cut). By AI agents, Wed Nov 11 2026. No macro, syntax, notation, axiom, sorry.
-/
import Derived.Test.YtncmnmbapalonaaGreatChecked
import GoSem.Claim
import GoSem.ClaimJoined
import GoSem.ClaimMapViews
import Derived.JoinedTies
import Derived.KernelRfl
namespace Go.Proofs.YtncmnmbapalonaaGreat
/- THE CELL 'sum', in the pinned program and in every row, IS THE sha256 OF THE DUMP (.gsa) THAT YtncmnmbapalonaaGreatProg.lean LOADS. Nothing in Lean hashes anything: it is a label: what it is worth is what the hold of that sum in a sandbox is worth. -/
noncomputable def Tryz.pinned : Pinned := { name := "ytncmnmbapalonaagreat", sum := "d9820841b8f6a244fe45e5b079f9d3608facd36e2e325631146bd9559ae2e1f5", checked := Tryz.checked }
namespace Rows
def none {H : Type} : Left H := { results := [], args := [] }

/-- 'laws.FnExactPlacementsOf': WHATEVER THE INPUT: true; the input reads as it did. -/
def fnExactPlacementsOfSpec : ChangeSpec := { name := "fnExactPlacementsOf", fn := fun _ => fun
  | [d1, d2] => { results := [.lit (.bool true)], args := [d1, d2] }
  | _ => none }
def fnExactPlacementsOfRow : OpenClaim := { program := "ytncmnmbapalonaagreat", sum := "d9820841b8f6a244fe45e5b079f9d3608facd36e2e325631146bd9559ae2e1f5", func := "loop.example/g03400/laws.FnExactPlacementsOf", spec := "fnExactPlacementsOf", inPlace := ["internal/reflectlite.ValueOf", "internal/reflectlite.Swapper", "(internal/reflectlite.Value).Len"], unfollowed := true, recurses := true, apart := false }
def FnExactPlacementsOfSaid : Prop := fnExactPlacementsOfRow.holds Tryz.pinned (OpenSpec.ofChange fnExactPlacementsOfSpec)

/-- ITS FALSE NEIGHBOUR: 'it returns false'. Refute it at one input. -/
def fnExactPlacementsOfWrong : ChangeSpec := { name := "fnExactPlacementsOf", fn := fun _ => fun
  | [d1, d2] => { results := [.lit (.bool false)], args := [d1, d2] }
  | _ => none }
def FnExactPlacementsOfWrongFalsely : Prop := fnExactPlacementsOfRow.holds Tryz.pinned (OpenSpec.ofChange fnExactPlacementsOfWrong)

/-- 'laws.FnExactPlacementsAt': WHATEVER THE INPUT: true; the input reads as it did. -/
def fnExactPlacementsAtSpec : ChangeSpec := { name := "fnExactPlacementsAt", fn := fun _ => fun
  | [d1, d2, d3, d4] => { results := [.lit (.bool true)], args := [d1, d2, d3, d4] }
  | _ => none }
def fnExactPlacementsAtRow : OpenClaim := { program := "ytncmnmbapalonaagreat", sum := "d9820841b8f6a244fe45e5b079f9d3608facd36e2e325631146bd9559ae2e1f5", func := "loop.example/g03400/laws.FnExactPlacementsAt", spec := "fnExactPlacementsAt", inPlace := ["internal/reflectlite.ValueOf", "internal/reflectlite.Swapper", "(internal/reflectlite.Value).Len"], unfollowed := true, recurses := true, apart := false }
def FnExactPlacementsAtSaid : Prop := fnExactPlacementsAtRow.holds Tryz.pinned (OpenSpec.ofChange fnExactPlacementsAtSpec)

/-- ITS FALSE NEIGHBOUR: 'it returns false'. Refute it at one input. -/
def fnExactPlacementsAtWrong : ChangeSpec := { name := "fnExactPlacementsAt", fn := fun _ => fun
  | [d1, d2, d3, d4] => { results := [.lit (.bool false)], args := [d1, d2, d3, d4] }
  | _ => none }
def FnExactPlacementsAtWrongFalsely : Prop := fnExactPlacementsAtRow.holds Tryz.pinned (OpenSpec.ofChange fnExactPlacementsAtWrong)

/-- 'laws.FnExactAllPlacements': WHATEVER THE INPUT: true; the input reads as it did. -/
def fnExactAllPlacementsSpec : ChangeSpec := { name := "fnExactAllPlacements", fn := fun _ => fun
  | [d1, d2] => { results := [.lit (.bool true)], args := [d1, d2] }
  | _ => none }
def fnExactAllPlacementsRow : OpenClaim := { program := "ytncmnmbapalonaagreat", sum := "d9820841b8f6a244fe45e5b079f9d3608facd36e2e325631146bd9559ae2e1f5", func := "loop.example/g03400/laws.FnExactAllPlacements", spec := "fnExactAllPlacements", inPlace := ["internal/reflectlite.ValueOf", "internal/reflectlite.Swapper", "(internal/reflectlite.Value).Len"], unfollowed := true, recurses := true, apart := false }
def FnExactAllPlacementsSaid : Prop := fnExactAllPlacementsRow.holds Tryz.pinned (OpenSpec.ofChange fnExactAllPlacementsSpec)

/-- ITS FALSE NEIGHBOUR: 'it returns false'. Refute it at one input. -/
def fnExactAllPlacementsWrong : ChangeSpec := { name := "fnExactAllPlacements", fn := fun _ => fun
  | [d1, d2] => { results := [.lit (.bool false)], args := [d1, d2] }
  | _ => none }
def FnExactAllPlacementsWrongFalsely : Prop := fnExactAllPlacementsRow.holds Tryz.pinned (OpenSpec.ofChange fnExactAllPlacementsWrong)

/-- 'laws.FnExactIsSignedTiling': WHATEVER THE INPUT: true; the input reads as it did. -/
def fnExactIsSignedTilingSpec : ChangeSpec := { name := "fnExactIsSignedTiling", fn := fun _ => fun
  | [d1, d2, d3, d4] => { results := [.lit (.bool true)], args := [d1, d2, d3, d4] }
  | _ => none }
def fnExactIsSignedTilingRow : OpenClaim := { program := "ytncmnmbapalonaagreat", sum := "d9820841b8f6a244fe45e5b079f9d3608facd36e2e325631146bd9559ae2e1f5", func := "loop.example/g03400/laws.FnExactIsSignedTiling", spec := "fnExactIsSignedTiling", inPlace := ["internal/reflectlite.ValueOf", "internal/reflectlite.Swapper", "(internal/reflectlite.Value).Len"], unfollowed := true, recurses := true, apart := false }
def FnExactIsSignedTilingSaid : Prop := fnExactIsSignedTilingRow.holds Tryz.pinned (OpenSpec.ofChange fnExactIsSignedTilingSpec)

/-- ITS FALSE NEIGHBOUR: 'it returns false'. Refute it at one input. -/
def fnExactIsSignedTilingWrong : ChangeSpec := { name := "fnExactIsSignedTiling", fn := fun _ => fun
  | [d1, d2, d3, d4] => { results := [.lit (.bool false)], args := [d1, d2, d3, d4] }
  | _ => none }
def FnExactIsSignedTilingWrongFalsely : Prop := fnExactIsSignedTilingRow.holds Tryz.pinned (OpenSpec.ofChange fnExactIsSignedTilingWrong)

/-- 'laws.FnExactIsWeightProof': WHATEVER THE INPUT: true; the input reads as it did. -/
def fnExactIsWeightProofSpec : ChangeSpec := { name := "fnExactIsWeightProof", fn := fun _ => fun
  | [d1, d2, d3, d4] => { results := [.lit (.bool true)], args := [d1, d2, d3, d4] }
  | _ => none }
def fnExactIsWeightProofRow : OpenClaim := { program := "ytncmnmbapalonaagreat", sum := "d9820841b8f6a244fe45e5b079f9d3608facd36e2e325631146bd9559ae2e1f5", func := "loop.example/g03400/laws.FnExactIsWeightProof", spec := "fnExactIsWeightProof", inPlace := ["internal/reflectlite.ValueOf", "internal/reflectlite.Swapper", "(internal/reflectlite.Value).Len"], unfollowed := true, recurses := true, apart := false }
def FnExactIsWeightProofSaid : Prop := fnExactIsWeightProofRow.holds Tryz.pinned (OpenSpec.ofChange fnExactIsWeightProofSpec)

/-- ITS FALSE NEIGHBOUR: 'it returns false'. Refute it at one input. -/
def fnExactIsWeightProofWrong : ChangeSpec := { name := "fnExactIsWeightProof", fn := fun _ => fun
  | [d1, d2, d3, d4] => { results := [.lit (.bool false)], args := [d1, d2, d3, d4] }
  | _ => none }
def FnExactIsWeightProofWrongFalsely : Prop := fnExactIsWeightProofRow.holds Tryz.pinned (OpenSpec.ofChange fnExactIsWeightProofWrong)

/- THE SECOND FORM. 'bulk': how many values and letters a reading holds, each counted each time it is reached (what is shared counts as often as it is met; a slice's spare places count too). A statement '..UptoSaid' is the law's where the arguments, and the package variables that the reading takes, are together of bulk at most 1048576: NARROWER than '..Said'. Prove '..Said' where nothing that the law and all that it calls make is longer than what came in: it says more and counts as full. Else prove '..UptoSaid'. A law counts once. -/
mutual
def uptoBulk {H : Type} : DataW H → Nat
  | .lit (.string bytes) => bytes.length + 1
  | .lit _ => 1
  | .nil => 1
  | .ptr d => uptoBulk d + 1
  | .slice elems spare => uptoBulkAll elems + uptoBulkAll spare + 1
  | .agg parts => uptoBulkAll parts + 1
  | .iface _ d => uptoBulk d + 1
  | .map entries => uptoBulkEntries entries + 1
  | .held _ => 1
def uptoBulkAll {H : Type} : List (DataW H) → Nat
  | [] => 0
  | d :: r => uptoBulk d + uptoBulkAll r
def uptoBulkEntries {H : Type} : List (Lit × DataW H) → Nat
  | [] => 0
  | x :: r => uptoBulkEntry x + uptoBulkEntries r
def uptoBulkEntry {H : Type} : Lit × DataW H → Nat
  | (.string bytes, d) => bytes.length + uptoBulk d + 1
  | (_, d) => uptoBulk d + 1
 end
def uptoSmall : (H : Type) → List (DataW H) → Bool := fun _ ds => decide (uptoBulkAll ds ≤ 1048576)
def OpenSpec.upto (s : _root_.Go.ChangeSpec) : _root_.Go.OpenSpec := { _root_.Go.OpenSpec.ofChange s with cond := some uptoSmall }

/-- 'laws.FnExactPlacementsOf', WHERE WHAT IT READS IS OF BULK AT MOST 1048576: true; the input reads as it did. -/
def fnExactPlacementsOfUptoRow : OpenClaim := { program := "ytncmnmbapalonaagreat", sum := "d9820841b8f6a244fe45e5b079f9d3608facd36e2e325631146bd9559ae2e1f5", func := "loop.example/g03400/laws.FnExactPlacementsOf", spec := "fnExactPlacementsOf", inPlace := ["internal/reflectlite.ValueOf", "internal/reflectlite.Swapper", "(internal/reflectlite.Value).Len"], unfollowed := true, recurses := true, apart := false, narrowed := true }
def FnExactPlacementsOfUptoSaid : Prop := fnExactPlacementsOfUptoRow.holds Tryz.pinned (OpenSpec.upto fnExactPlacementsOfSpec)

/-- 'laws.FnExactPlacementsAt', WHERE WHAT IT READS IS OF BULK AT MOST 1048576: true; the input reads as it did. -/
def fnExactPlacementsAtUptoRow : OpenClaim := { program := "ytncmnmbapalonaagreat", sum := "d9820841b8f6a244fe45e5b079f9d3608facd36e2e325631146bd9559ae2e1f5", func := "loop.example/g03400/laws.FnExactPlacementsAt", spec := "fnExactPlacementsAt", inPlace := ["internal/reflectlite.ValueOf", "internal/reflectlite.Swapper", "(internal/reflectlite.Value).Len"], unfollowed := true, recurses := true, apart := false, narrowed := true }
def FnExactPlacementsAtUptoSaid : Prop := fnExactPlacementsAtUptoRow.holds Tryz.pinned (OpenSpec.upto fnExactPlacementsAtSpec)

/-- 'laws.FnExactAllPlacements', WHERE WHAT IT READS IS OF BULK AT MOST 1048576: true; the input reads as it did. -/
def fnExactAllPlacementsUptoRow : OpenClaim := { program := "ytncmnmbapalonaagreat", sum := "d9820841b8f6a244fe45e5b079f9d3608facd36e2e325631146bd9559ae2e1f5", func := "loop.example/g03400/laws.FnExactAllPlacements", spec := "fnExactAllPlacements", inPlace := ["internal/reflectlite.ValueOf", "internal/reflectlite.Swapper", "(internal/reflectlite.Value).Len"], unfollowed := true, recurses := true, apart := false, narrowed := true }
def FnExactAllPlacementsUptoSaid : Prop := fnExactAllPlacementsUptoRow.holds Tryz.pinned (OpenSpec.upto fnExactAllPlacementsSpec)

/-- 'laws.FnExactIsSignedTiling', WHERE WHAT IT READS IS OF BULK AT MOST 1048576: true; the input reads as it did. -/
def fnExactIsSignedTilingUptoRow : OpenClaim := { program := "ytncmnmbapalonaagreat", sum := "d9820841b8f6a244fe45e5b079f9d3608facd36e2e325631146bd9559ae2e1f5", func := "loop.example/g03400/laws.FnExactIsSignedTiling", spec := "fnExactIsSignedTiling", inPlace := ["internal/reflectlite.ValueOf", "internal/reflectlite.Swapper", "(internal/reflectlite.Value).Len"], unfollowed := true, recurses := true, apart := false, narrowed := true }
def FnExactIsSignedTilingUptoSaid : Prop := fnExactIsSignedTilingUptoRow.holds Tryz.pinned (OpenSpec.upto fnExactIsSignedTilingSpec)

/-- 'laws.FnExactIsWeightProof', WHERE WHAT IT READS IS OF BULK AT MOST 1048576: true; the input reads as it did. -/
def fnExactIsWeightProofUptoRow : OpenClaim := { program := "ytncmnmbapalonaagreat", sum := "d9820841b8f6a244fe45e5b079f9d3608facd36e2e325631146bd9559ae2e1f5", func := "loop.example/g03400/laws.FnExactIsWeightProof", spec := "fnExactIsWeightProof", inPlace := ["internal/reflectlite.ValueOf", "internal/reflectlite.Swapper", "(internal/reflectlite.Value).Len"], unfollowed := true, recurses := true, apart := false, narrowed := true }
def FnExactIsWeightProofUptoSaid : Prop := fnExactIsWeightProofUptoRow.holds Tryz.pinned (OpenSpec.upto fnExactIsWeightProofSpec)

end Rows
end Go.Proofs.YtncmnmbapalonaaGreat
