/-
  No cell of these rows narrows 'for every input' (looked for: loops, veiled, ifaces, maps, wideKeys, modest, calm, conditions, laid).
  DERIVED. THE GIVEN ROWS OF THIS SEAT. 3 by the template 'for every input the law returns true; each argument reads behind the call as it read before'; 0 by the template 'total and deterministic' (their statements: YtchcepihmphdmaaTotals.lean).
  GIVEN WITH THE SEED: the statements are not yours to turn. If you find one false, say at which input.
  Laid BY PROGRAM, IN A SANDBOX (cutbox-rows.mjs): the forced cells as the released guide's own fill.sh prints them over the translation 128d9f6d6b937189… (all of the seat's roots in one cut). By AI agents, Wed Nov 11 2026. No macro, syntax, notation, axiom, sorry.
-/
import Derived.Test.YtchcepihmphdmaaChecked
import GoSem.Claim
import GoSem.ClaimJoined
import GoSem.ClaimMapViews
import Derived.JoinedTies
import Derived.KernelRfl
namespace Go.Proofs.Ytchcepihmphdmaa
/- THE CELL 'sum', in the pinned program and in every row, IS THE sha256 OF THE DUMP (.gsa) THAT YtchcepihmphdmaaProg.lean LOADS. Nothing in Lean hashes anything: it is a label: what it is worth is what the hold of that sum in a sandbox is worth. -/
noncomputable def Try.pinned : Pinned := { name := "ytchcepihmphdmaa", sum := "128d9f6d6b9371899f612853534176fd66dd4b6a95f16becb40479297766c698", checked := Try.checked }
namespace Rows
def none {H : Type} : Left H := { results := [], args := [] }

/-- 'laws.FnExactPartsOf': WHATEVER THE INPUT: true; the input reads as it did. -/
def fnExactPartsOfSpec : ChangeSpec := { name := "fnExactPartsOf", fn := fun _ => fun
  | [d] => { results := [.lit (.bool true)], args := [d] }
  | _ => none }
def fnExactPartsOfRow : OpenClaim := { program := "ytchcepihmphdmaa", sum := "128d9f6d6b9371899f612853534176fd66dd4b6a95f16becb40479297766c698", func := "loop.example/g03400/laws.FnExactPartsOf", spec := "fnExactPartsOf", apart := false }
def FnExactPartsOfSaid : Prop := fnExactPartsOfRow.holds Try.pinned (OpenSpec.ofChange fnExactPartsOfSpec)

/-- ITS FALSE NEIGHBOUR: 'it returns false'. Refute it at one input. -/
def fnExactPartsOfWrong : ChangeSpec := { name := "fnExactPartsOf", fn := fun _ => fun
  | [d] => { results := [.lit (.bool false)], args := [d] }
  | _ => none }
def FnExactPartsOfWrongFalsely : Prop := fnExactPartsOfRow.holds Try.pinned (OpenSpec.ofChange fnExactPartsOfWrong)

/-- 'laws.FnExactCountDominoes': WHATEVER THE INPUT: true; the input reads as it did. -/
def fnExactCountDominoesSpec : ChangeSpec := { name := "fnExactCountDominoes", fn := fun _ => fun
  | [d] => { results := [.lit (.bool true)], args := [d] }
  | _ => none }
def fnExactCountDominoesRow : OpenClaim := { program := "ytchcepihmphdmaa", sum := "128d9f6d6b9371899f612853534176fd66dd4b6a95f16becb40479297766c698", func := "loop.example/g03400/laws.FnExactCountDominoes", spec := "fnExactCountDominoes", unfollowed := true, recurses := true, apart := false }
def FnExactCountDominoesSaid : Prop := fnExactCountDominoesRow.holds Try.pinned (OpenSpec.ofChange fnExactCountDominoesSpec)

/-- ITS FALSE NEIGHBOUR: 'it returns false'. Refute it at one input. -/
def fnExactCountDominoesWrong : ChangeSpec := { name := "fnExactCountDominoes", fn := fun _ => fun
  | [d] => { results := [.lit (.bool false)], args := [d] }
  | _ => none }
def FnExactCountDominoesWrongFalsely : Prop := fnExactCountDominoesRow.holds Try.pinned (OpenSpec.ofChange fnExactCountDominoesWrong)

/-- 'laws.FnTransfer': WHATEVER THE INPUT: true; the input reads as it did. -/
def fnTransferSpec : ChangeSpec := { name := "fnTransfer", fn := fun _ => fun
  | [d] => { results := [.lit (.bool true)], args := [d] }
  | _ => none }
def fnTransferRow : OpenClaim := { program := "ytchcepihmphdmaa", sum := "128d9f6d6b9371899f612853534176fd66dd4b6a95f16becb40479297766c698", func := "loop.example/g03400/laws.FnTransfer", spec := "fnTransfer", unfollowed := true, recurses := true, apart := false }
def FnTransferSaid : Prop := fnTransferRow.holds Try.pinned (OpenSpec.ofChange fnTransferSpec)

/-- ITS FALSE NEIGHBOUR: 'it returns false'. Refute it at one input. -/
def fnTransferWrong : ChangeSpec := { name := "fnTransfer", fn := fun _ => fun
  | [d] => { results := [.lit (.bool false)], args := [d] }
  | _ => none }
def FnTransferWrongFalsely : Prop := fnTransferRow.holds Try.pinned (OpenSpec.ofChange fnTransferWrong)

/- THE SECOND FORM. 'bulk': how many values and letters a reading holds, each counted each time it is reached (what is shared counts as often as it is met; a slice's spare places count too). A statement '..UptoSaid' is the law's where the arguments, and the package variables that the reading takes, are together of bulk at most 1048576: NARROWER than '..Said'. Prove '..Said' where nothing that the law and all that it calls make is longer than what came in: it says more and counts as full. Else prove '..UptoSaid'. A law counts once. -/
mutual
def uptoBulk {H : Type} : DataW H → Nat
  | .lit (.string bytes) => bytes.length + 1
  | .lit _ => 1
  | .nil => 1
  | .ptr d => uptoBulk d + 1
  | .slice elems spare => uptoBulkAll elems + uptoBulkAll spare + 1
  | .agg parts => uptoBulkAll parts + 1
  | .iface _ d => uptoBulk d + 1
  | .map entries => uptoBulkEntries entries + 1
  | .held _ => 1
def uptoBulkAll {H : Type} : List (DataW H) → Nat
  | [] => 0
  | d :: r => uptoBulk d + uptoBulkAll r
def uptoBulkEntries {H : Type} : List (Lit × DataW H) → Nat
  | [] => 0
  | x :: r => uptoBulkEntry x + uptoBulkEntries r
def uptoBulkEntry {H : Type} : Lit × DataW H → Nat
  | (.string bytes, d) => bytes.length + uptoBulk d + 1
  | (_, d) => uptoBulk d + 1
 end
def uptoSmall : (H : Type) → List (DataW H) → Bool := fun _ ds => decide (uptoBulkAll ds ≤ 1048576)
def OpenSpec.upto (s : _root_.Go.ChangeSpec) : _root_.Go.OpenSpec := { _root_.Go.OpenSpec.ofChange s with cond := some uptoSmall }

/-- 'laws.FnExactPartsOf', WHERE WHAT IT READS IS OF BULK AT MOST 1048576: true; the input reads as it did. -/
def fnExactPartsOfUptoRow : OpenClaim := { program := "ytchcepihmphdmaa", sum := "128d9f6d6b9371899f612853534176fd66dd4b6a95f16becb40479297766c698", func := "loop.example/g03400/laws.FnExactPartsOf", spec := "fnExactPartsOf", apart := false, narrowed := true }
def FnExactPartsOfUptoSaid : Prop := fnExactPartsOfUptoRow.holds Try.pinned (OpenSpec.upto fnExactPartsOfSpec)

/-- 'laws.FnExactCountDominoes', WHERE WHAT IT READS IS OF BULK AT MOST 1048576: true; the input reads as it did. -/
def fnExactCountDominoesUptoRow : OpenClaim := { program := "ytchcepihmphdmaa", sum := "128d9f6d6b9371899f612853534176fd66dd4b6a95f16becb40479297766c698", func := "loop.example/g03400/laws.FnExactCountDominoes", spec := "fnExactCountDominoes", unfollowed := true, recurses := true, apart := false, narrowed := true }
def FnExactCountDominoesUptoSaid : Prop := fnExactCountDominoesUptoRow.holds Try.pinned (OpenSpec.upto fnExactCountDominoesSpec)

/-- 'laws.FnTransfer', WHERE WHAT IT READS IS OF BULK AT MOST 1048576: true; the input reads as it did. -/
def fnTransferUptoRow : OpenClaim := { program := "ytchcepihmphdmaa", sum := "128d9f6d6b9371899f612853534176fd66dd4b6a95f16becb40479297766c698", func := "loop.example/g03400/laws.FnTransfer", spec := "fnTransfer", unfollowed := true, recurses := true, apart := false, narrowed := true }
def FnTransferUptoSaid : Prop := fnTransferUptoRow.holds Try.pinned (OpenSpec.upto fnTransferSpec)

end Rows
end Go.Proofs.Ytchcepihmphdmaa
