/-
  No cell of these rows narrows 'for every input' (looked for: loops, veiled, ifaces, maps, wideKeys, modest, calm, conditions, laid).
  DERIVED. THE GIVEN ROWS OF THIS SEAT. 10 by the template 'for every input the law returns true; each argument reads behind the call as it read before'; 0 by the template 'total and deterministic' (their statements: YtfodgllclopdaaaTotals.lean).
  GIVEN WITH THE SEED: the statements are not yours to turn. If you find one false, say at which input.
  Laid BY PROGRAM, IN A SANDBOX (cutbox-rows.mjs): the forced cells as the released guide's own fill.sh prints them over the translation 5d84fb54f555c5df… (all of the seat's roots in one cut). By AI agents, Wed Nov 11 2026. No macro, syntax, notation, axiom, sorry.
-/
import Derived.Test.YtfodgllclopdaaaChecked
import GoSem.Claim
import GoSem.ClaimJoined
import GoSem.ClaimMapViews
import Derived.JoinedTies
import Derived.KernelRfl
namespace Go.Proofs.Ytfodgllclopdaaa
/- THE CELL 'sum', in the pinned program and in every row, IS THE sha256 OF THE DUMP (.gsa) THAT YtfodgllclopdaaaProg.lean LOADS. Nothing in Lean hashes anything: it is a label: what it is worth is what the hold of that sum in a sandbox is worth. -/
noncomputable def Try.pinned : Pinned := { name := "ytfodgllclopdaaa", sum := "5d84fb54f555c5dfc492ed9676e2a2e6dd3bceae0b383acf83e3f121ce73e1f0", checked := Try.checked }
namespace Rows
def none {H : Type} : Left H := { results := [], args := [] }

/-- 'laws.FnExactStripeWeights': WHATEVER THE INPUT: true; the input reads as it did. -/
def fnExactStripeWeightsSpec : ChangeSpec := { name := "fnExactStripeWeights", fn := fun _ => fun
  | [d1, d2, d3, d4] => { results := [.lit (.bool true)], args := [d1, d2, d3, d4] }
  | _ => none }
def fnExactStripeWeightsRow : OpenClaim := { program := "ytfodgllclopdaaa", sum := "5d84fb54f555c5dfc492ed9676e2a2e6dd3bceae0b383acf83e3f121ce73e1f0", func := "loop.example/g03400/laws.FnExactStripeWeights", spec := "fnExactStripeWeights", apart := false }
def FnExactStripeWeightsSaid : Prop := fnExactStripeWeightsRow.holds Try.pinned (OpenSpec.ofChange fnExactStripeWeightsSpec)

/-- ITS FALSE NEIGHBOUR: 'it returns false'. Refute it at one input. -/
def fnExactStripeWeightsWrong : ChangeSpec := { name := "fnExactStripeWeights", fn := fun _ => fun
  | [d1, d2, d3, d4] => { results := [.lit (.bool false)], args := [d1, d2, d3, d4] }
  | _ => none }
def FnExactStripeWeightsWrongFalsely : Prop := fnExactStripeWeightsRow.holds Try.pinned (OpenSpec.ofChange fnExactStripeWeightsWrong)

/-- 'laws.FnExactFirstCell': WHATEVER THE INPUT: true; the input reads as it did. -/
def fnExactFirstCellSpec : ChangeSpec := { name := "fnExactFirstCell", fn := fun _ => fun
  | [d1, d2] => { results := [.lit (.bool true)], args := [d1, d2] }
  | _ => none }
def fnExactFirstCellRow : OpenClaim := { program := "ytfodgllclopdaaa", sum := "5d84fb54f555c5dfc492ed9676e2a2e6dd3bceae0b383acf83e3f121ce73e1f0", func := "loop.example/g03400/laws.FnExactFirstCell", spec := "fnExactFirstCell", apart := false }
def FnExactFirstCellSaid : Prop := fnExactFirstCellRow.holds Try.pinned (OpenSpec.ofChange fnExactFirstCellSpec)

/-- ITS FALSE NEIGHBOUR: 'it returns false'. Refute it at one input. -/
def fnExactFirstCellWrong : ChangeSpec := { name := "fnExactFirstCell", fn := fun _ => fun
  | [d1, d2] => { results := [.lit (.bool false)], args := [d1, d2] }
  | _ => none }
def FnExactFirstCellWrongFalsely : Prop := fnExactFirstCellRow.holds Try.pinned (OpenSpec.ofChange fnExactFirstCellWrong)

/-- 'laws.FnExactSumOfWeights': WHATEVER THE INPUT: true; the input reads as it did. -/
def fnExactSumOfWeightsSpec : ChangeSpec := { name := "fnExactSumOfWeights", fn := fun _ => fun
  | [d1, d2, d3, d4] => { results := [.lit (.bool true)], args := [d1, d2, d3, d4] }
  | _ => none }
def fnExactSumOfWeightsRow : OpenClaim := { program := "ytfodgllclopdaaa", sum := "5d84fb54f555c5dfc492ed9676e2a2e6dd3bceae0b383acf83e3f121ce73e1f0", func := "loop.example/g03400/laws.FnExactSumOfWeights", spec := "fnExactSumOfWeights", apart := false }
def FnExactSumOfWeightsSaid : Prop := fnExactSumOfWeightsRow.holds Try.pinned (OpenSpec.ofChange fnExactSumOfWeightsSpec)

/-- ITS FALSE NEIGHBOUR: 'it returns false'. Refute it at one input. -/
def fnExactSumOfWeightsWrong : ChangeSpec := { name := "fnExactSumOfWeights", fn := fun _ => fun
  | [d1, d2, d3, d4] => { results := [.lit (.bool false)], args := [d1, d2, d3, d4] }
  | _ => none }
def FnExactSumOfWeightsWrongFalsely : Prop := fnExactSumOfWeightsRow.holds Try.pinned (OpenSpec.ofChange fnExactSumOfWeightsWrong)

/-- 'laws.FnExactColorCount': WHATEVER THE INPUT: true; the input reads as it did. -/
def fnExactColorCountSpec : ChangeSpec := { name := "fnExactColorCount", fn := fun _ => fun
  | [d1, d2] => { results := [.lit (.bool true)], args := [d1, d2] }
  | _ => none }
def fnExactColorCountRow : OpenClaim := { program := "ytfodgllclopdaaa", sum := "5d84fb54f555c5dfc492ed9676e2a2e6dd3bceae0b383acf83e3f121ce73e1f0", func := "loop.example/g03400/laws.FnExactColorCount", spec := "fnExactColorCount", apart := false }
def FnExactColorCountSaid : Prop := fnExactColorCountRow.holds Try.pinned (OpenSpec.ofChange fnExactColorCountSpec)

/-- ITS FALSE NEIGHBOUR: 'it returns false'. Refute it at one input. -/
def fnExactColorCountWrong : ChangeSpec := { name := "fnExactColorCount", fn := fun _ => fun
  | [d1, d2] => { results := [.lit (.bool false)], args := [d1, d2] }
  | _ => none }
def FnExactColorCountWrongFalsely : Prop := fnExactColorCountRow.holds Try.pinned (OpenSpec.ofChange fnExactColorCountWrong)

/-- 'laws.FnExactMaskOfCells': WHATEVER THE INPUT: true; the input reads as it did. -/
def fnExactMaskOfCellsSpec : ChangeSpec := { name := "fnExactMaskOfCells", fn := fun _ => fun
  | [d1, d2] => { results := [.lit (.bool true)], args := [d1, d2] }
  | _ => none }
def fnExactMaskOfCellsRow : OpenClaim := { program := "ytfodgllclopdaaa", sum := "5d84fb54f555c5dfc492ed9676e2a2e6dd3bceae0b383acf83e3f121ce73e1f0", func := "loop.example/g03400/laws.FnExactMaskOfCells", spec := "fnExactMaskOfCells", apart := false }
def FnExactMaskOfCellsSaid : Prop := fnExactMaskOfCellsRow.holds Try.pinned (OpenSpec.ofChange fnExactMaskOfCellsSpec)

/-- ITS FALSE NEIGHBOUR: 'it returns false'. Refute it at one input. -/
def fnExactMaskOfCellsWrong : ChangeSpec := { name := "fnExactMaskOfCells", fn := fun _ => fun
  | [d1, d2] => { results := [.lit (.bool false)], args := [d1, d2] }
  | _ => none }
def FnExactMaskOfCellsWrongFalsely : Prop := fnExactMaskOfCellsRow.holds Try.pinned (OpenSpec.ofChange fnExactMaskOfCellsWrong)

/-- 'laws.FnExactCellsOf': WHATEVER THE INPUT: true; the input reads as it did. -/
def fnExactCellsOfSpec : ChangeSpec := { name := "fnExactCellsOf", fn := fun _ => fun
  | [d] => { results := [.lit (.bool true)], args := [d] }
  | _ => none }
def fnExactCellsOfRow : OpenClaim := { program := "ytfodgllclopdaaa", sum := "5d84fb54f555c5dfc492ed9676e2a2e6dd3bceae0b383acf83e3f121ce73e1f0", func := "loop.example/g03400/laws.FnExactCellsOf", spec := "fnExactCellsOf", apart := false }
def FnExactCellsOfSaid : Prop := fnExactCellsOfRow.holds Try.pinned (OpenSpec.ofChange fnExactCellsOfSpec)

/-- ITS FALSE NEIGHBOUR: 'it returns false'. Refute it at one input. -/
def fnExactCellsOfWrong : ChangeSpec := { name := "fnExactCellsOf", fn := fun _ => fun
  | [d] => { results := [.lit (.bool false)], args := [d] }
  | _ => none }
def FnExactCellsOfWrongFalsely : Prop := fnExactCellsOfRow.holds Try.pinned (OpenSpec.ofChange fnExactCellsOfWrong)

/-- 'laws.FnExactCellsOfMask': WHATEVER THE INPUT: true; the input reads as it did. -/
def fnExactCellsOfMaskSpec : ChangeSpec := { name := "fnExactCellsOfMask", fn := fun _ => fun
  | [d1, d2] => { results := [.lit (.bool true)], args := [d1, d2] }
  | _ => none }
def fnExactCellsOfMaskRow : OpenClaim := { program := "ytfodgllclopdaaa", sum := "5d84fb54f555c5dfc492ed9676e2a2e6dd3bceae0b383acf83e3f121ce73e1f0", func := "loop.example/g03400/laws.FnExactCellsOfMask", spec := "fnExactCellsOfMask", apart := false }
def FnExactCellsOfMaskSaid : Prop := fnExactCellsOfMaskRow.holds Try.pinned (OpenSpec.ofChange fnExactCellsOfMaskSpec)

/-- ITS FALSE NEIGHBOUR: 'it returns false'. Refute it at one input. -/
def fnExactCellsOfMaskWrong : ChangeSpec := { name := "fnExactCellsOfMask", fn := fun _ => fun
  | [d1, d2] => { results := [.lit (.bool false)], args := [d1, d2] }
  | _ => none }
def FnExactCellsOfMaskWrongFalsely : Prop := fnExactCellsOfMaskRow.holds Try.pinned (OpenSpec.ofChange fnExactCellsOfMaskWrong)

/-- 'laws.FnExactFormatRegion': WHATEVER THE INPUT: true; the input reads as it did. -/
def fnExactFormatRegionSpec : ChangeSpec := { name := "fnExactFormatRegion", fn := fun _ => fun
  | [d] => { results := [.lit (.bool true)], args := [d] }
  | _ => none }
def fnExactFormatRegionRow : OpenClaim := { program := "ytfodgllclopdaaa", sum := "5d84fb54f555c5dfc492ed9676e2a2e6dd3bceae0b383acf83e3f121ce73e1f0", func := "loop.example/g03400/laws.FnExactFormatRegion", spec := "fnExactFormatRegion", inPlace := ["internal/abi.NoEscape", "internal/bytealg.MakeNoZero"], apart := false }
def FnExactFormatRegionSaid : Prop := fnExactFormatRegionRow.holds Try.pinned (OpenSpec.ofChange fnExactFormatRegionSpec)

/-- ITS FALSE NEIGHBOUR: 'it returns false'. Refute it at one input. -/
def fnExactFormatRegionWrong : ChangeSpec := { name := "fnExactFormatRegion", fn := fun _ => fun
  | [d] => { results := [.lit (.bool false)], args := [d] }
  | _ => none }
def FnExactFormatRegionWrongFalsely : Prop := fnExactFormatRegionRow.holds Try.pinned (OpenSpec.ofChange fnExactFormatRegionWrong)

/-- 'laws.FnExactFormatTiling': WHATEVER THE INPUT: true; the input reads as it did. -/
def fnExactFormatTilingSpec : ChangeSpec := { name := "fnExactFormatTiling", fn := fun _ => fun
  | [d1, d2] => { results := [.lit (.bool true)], args := [d1, d2] }
  | _ => none }
def fnExactFormatTilingRow : OpenClaim := { program := "ytfodgllclopdaaa", sum := "5d84fb54f555c5dfc492ed9676e2a2e6dd3bceae0b383acf83e3f121ce73e1f0", func := "loop.example/g03400/laws.FnExactFormatTiling", spec := "fnExactFormatTiling", inPlace := ["internal/abi.NoEscape", "internal/bytealg.MakeNoZero"], apart := false }
def FnExactFormatTilingSaid : Prop := fnExactFormatTilingRow.holds Try.pinned (OpenSpec.ofChange fnExactFormatTilingSpec)

/-- ITS FALSE NEIGHBOUR: 'it returns false'. Refute it at one input. -/
def fnExactFormatTilingWrong : ChangeSpec := { name := "fnExactFormatTiling", fn := fun _ => fun
  | [d1, d2] => { results := [.lit (.bool false)], args := [d1, d2] }
  | _ => none }
def FnExactFormatTilingWrongFalsely : Prop := fnExactFormatTilingRow.holds Try.pinned (OpenSpec.ofChange fnExactFormatTilingWrong)

/-- 'laws.FnExactPartsOf': WHATEVER THE INPUT: true; the input reads as it did. -/
def fnExactPartsOfSpec : ChangeSpec := { name := "fnExactPartsOf", fn := fun _ => fun
  | [d] => { results := [.lit (.bool true)], args := [d] }
  | _ => none }
def fnExactPartsOfRow : OpenClaim := { program := "ytfodgllclopdaaa", sum := "5d84fb54f555c5dfc492ed9676e2a2e6dd3bceae0b383acf83e3f121ce73e1f0", func := "loop.example/g03400/laws.FnExactPartsOf", spec := "fnExactPartsOf", apart := false }
def FnExactPartsOfSaid : Prop := fnExactPartsOfRow.holds Try.pinned (OpenSpec.ofChange fnExactPartsOfSpec)

/-- ITS FALSE NEIGHBOUR: 'it returns false'. Refute it at one input. -/
def fnExactPartsOfWrong : ChangeSpec := { name := "fnExactPartsOf", fn := fun _ => fun
  | [d] => { results := [.lit (.bool false)], args := [d] }
  | _ => none }
def FnExactPartsOfWrongFalsely : Prop := fnExactPartsOfRow.holds Try.pinned (OpenSpec.ofChange fnExactPartsOfWrong)

/- THE SECOND FORM. 'bulk': how many values and letters a reading holds, each counted each time it is reached (what is shared counts as often as it is met; a slice's spare places count too). A statement '..UptoSaid' is the law's where the arguments, and the package variables that the reading takes, are together of bulk at most 1048576: NARROWER than '..Said'. Prove '..Said' where nothing that the law and all that it calls make is longer than what came in: it says more and counts as full. Else prove '..UptoSaid'. A law counts once. -/
mutual
def uptoBulk {H : Type} : DataW H → Nat
  | .lit (.string bytes) => bytes.length + 1
  | .lit _ => 1
  | .nil => 1
  | .ptr d => uptoBulk d + 1
  | .slice elems spare => uptoBulkAll elems + uptoBulkAll spare + 1
  | .agg parts => uptoBulkAll parts + 1
  | .iface _ d => uptoBulk d + 1
  | .map entries => uptoBulkEntries entries + 1
  | .held _ => 1
def uptoBulkAll {H : Type} : List (DataW H) → Nat
  | [] => 0
  | d :: r => uptoBulk d + uptoBulkAll r
def uptoBulkEntries {H : Type} : List (Lit × DataW H) → Nat
  | [] => 0
  | x :: r => uptoBulkEntry x + uptoBulkEntries r
def uptoBulkEntry {H : Type} : Lit × DataW H → Nat
  | (.string bytes, d) => bytes.length + uptoBulk d + 1
  | (_, d) => uptoBulk d + 1
 end
def uptoSmall : (H : Type) → List (DataW H) → Bool := fun _ ds => decide (uptoBulkAll ds ≤ 1048576)
def OpenSpec.upto (s : _root_.Go.ChangeSpec) : _root_.Go.OpenSpec := { _root_.Go.OpenSpec.ofChange s with cond := some uptoSmall }

/-- 'laws.FnExactStripeWeights', WHERE WHAT IT READS IS OF BULK AT MOST 1048576: true; the input reads as it did. -/
def fnExactStripeWeightsUptoRow : OpenClaim := { program := "ytfodgllclopdaaa", sum := "5d84fb54f555c5dfc492ed9676e2a2e6dd3bceae0b383acf83e3f121ce73e1f0", func := "loop.example/g03400/laws.FnExactStripeWeights", spec := "fnExactStripeWeights", apart := false, narrowed := true }
def FnExactStripeWeightsUptoSaid : Prop := fnExactStripeWeightsUptoRow.holds Try.pinned (OpenSpec.upto fnExactStripeWeightsSpec)

/-- 'laws.FnExactFirstCell', WHERE WHAT IT READS IS OF BULK AT MOST 1048576: true; the input reads as it did. -/
def fnExactFirstCellUptoRow : OpenClaim := { program := "ytfodgllclopdaaa", sum := "5d84fb54f555c5dfc492ed9676e2a2e6dd3bceae0b383acf83e3f121ce73e1f0", func := "loop.example/g03400/laws.FnExactFirstCell", spec := "fnExactFirstCell", apart := false, narrowed := true }
def FnExactFirstCellUptoSaid : Prop := fnExactFirstCellUptoRow.holds Try.pinned (OpenSpec.upto fnExactFirstCellSpec)

/-- 'laws.FnExactSumOfWeights', WHERE WHAT IT READS IS OF BULK AT MOST 1048576: true; the input reads as it did. -/
def fnExactSumOfWeightsUptoRow : OpenClaim := { program := "ytfodgllclopdaaa", sum := "5d84fb54f555c5dfc492ed9676e2a2e6dd3bceae0b383acf83e3f121ce73e1f0", func := "loop.example/g03400/laws.FnExactSumOfWeights", spec := "fnExactSumOfWeights", apart := false, narrowed := true }
def FnExactSumOfWeightsUptoSaid : Prop := fnExactSumOfWeightsUptoRow.holds Try.pinned (OpenSpec.upto fnExactSumOfWeightsSpec)

/-- 'laws.FnExactColorCount', WHERE WHAT IT READS IS OF BULK AT MOST 1048576: true; the input reads as it did. -/
def fnExactColorCountUptoRow : OpenClaim := { program := "ytfodgllclopdaaa", sum := "5d84fb54f555c5dfc492ed9676e2a2e6dd3bceae0b383acf83e3f121ce73e1f0", func := "loop.example/g03400/laws.FnExactColorCount", spec := "fnExactColorCount", apart := false, narrowed := true }
def FnExactColorCountUptoSaid : Prop := fnExactColorCountUptoRow.holds Try.pinned (OpenSpec.upto fnExactColorCountSpec)

/-- 'laws.FnExactMaskOfCells', WHERE WHAT IT READS IS OF BULK AT MOST 1048576: true; the input reads as it did. -/
def fnExactMaskOfCellsUptoRow : OpenClaim := { program := "ytfodgllclopdaaa", sum := "5d84fb54f555c5dfc492ed9676e2a2e6dd3bceae0b383acf83e3f121ce73e1f0", func := "loop.example/g03400/laws.FnExactMaskOfCells", spec := "fnExactMaskOfCells", apart := false, narrowed := true }
def FnExactMaskOfCellsUptoSaid : Prop := fnExactMaskOfCellsUptoRow.holds Try.pinned (OpenSpec.upto fnExactMaskOfCellsSpec)

/-- 'laws.FnExactCellsOf', WHERE WHAT IT READS IS OF BULK AT MOST 1048576: true; the input reads as it did. -/
def fnExactCellsOfUptoRow : OpenClaim := { program := "ytfodgllclopdaaa", sum := "5d84fb54f555c5dfc492ed9676e2a2e6dd3bceae0b383acf83e3f121ce73e1f0", func := "loop.example/g03400/laws.FnExactCellsOf", spec := "fnExactCellsOf", apart := false, narrowed := true }
def FnExactCellsOfUptoSaid : Prop := fnExactCellsOfUptoRow.holds Try.pinned (OpenSpec.upto fnExactCellsOfSpec)

/-- 'laws.FnExactCellsOfMask', WHERE WHAT IT READS IS OF BULK AT MOST 1048576: true; the input reads as it did. -/
def fnExactCellsOfMaskUptoRow : OpenClaim := { program := "ytfodgllclopdaaa", sum := "5d84fb54f555c5dfc492ed9676e2a2e6dd3bceae0b383acf83e3f121ce73e1f0", func := "loop.example/g03400/laws.FnExactCellsOfMask", spec := "fnExactCellsOfMask", apart := false, narrowed := true }
def FnExactCellsOfMaskUptoSaid : Prop := fnExactCellsOfMaskUptoRow.holds Try.pinned (OpenSpec.upto fnExactCellsOfMaskSpec)

/-- 'laws.FnExactFormatRegion', WHERE WHAT IT READS IS OF BULK AT MOST 1048576: true; the input reads as it did. -/
def fnExactFormatRegionUptoRow : OpenClaim := { program := "ytfodgllclopdaaa", sum := "5d84fb54f555c5dfc492ed9676e2a2e6dd3bceae0b383acf83e3f121ce73e1f0", func := "loop.example/g03400/laws.FnExactFormatRegion", spec := "fnExactFormatRegion", inPlace := ["internal/abi.NoEscape", "internal/bytealg.MakeNoZero"], apart := false, narrowed := true }
def FnExactFormatRegionUptoSaid : Prop := fnExactFormatRegionUptoRow.holds Try.pinned (OpenSpec.upto fnExactFormatRegionSpec)

/-- 'laws.FnExactFormatTiling', WHERE WHAT IT READS IS OF BULK AT MOST 1048576: true; the input reads as it did. -/
def fnExactFormatTilingUptoRow : OpenClaim := { program := "ytfodgllclopdaaa", sum := "5d84fb54f555c5dfc492ed9676e2a2e6dd3bceae0b383acf83e3f121ce73e1f0", func := "loop.example/g03400/laws.FnExactFormatTiling", spec := "fnExactFormatTiling", inPlace := ["internal/abi.NoEscape", "internal/bytealg.MakeNoZero"], apart := false, narrowed := true }
def FnExactFormatTilingUptoSaid : Prop := fnExactFormatTilingUptoRow.holds Try.pinned (OpenSpec.upto fnExactFormatTilingSpec)

/-- 'laws.FnExactPartsOf', WHERE WHAT IT READS IS OF BULK AT MOST 1048576: true; the input reads as it did. -/
def fnExactPartsOfUptoRow : OpenClaim := { program := "ytfodgllclopdaaa", sum := "5d84fb54f555c5dfc492ed9676e2a2e6dd3bceae0b383acf83e3f121ce73e1f0", func := "loop.example/g03400/laws.FnExactPartsOf", spec := "fnExactPartsOf", apart := false, narrowed := true }
def FnExactPartsOfUptoSaid : Prop := fnExactPartsOfUptoRow.holds Try.pinned (OpenSpec.upto fnExactPartsOfSpec)

end Rows
end Go.Proofs.Ytfodgllclopdaaa
