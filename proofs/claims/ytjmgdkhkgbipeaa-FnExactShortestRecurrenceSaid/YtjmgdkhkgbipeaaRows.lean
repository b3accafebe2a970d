/-
  No cell of these rows narrows 'for every input' (looked for: loops, veiled, ifaces, maps, wideKeys, modest, calm, conditions, laid).
  DERIVED. THE GIVEN ROWS OF THIS SEAT. 11 by the template 'for every input the law returns true; each argument reads behind the call as it read before'; 0 by the template 'total and deterministic' (their statements: YtjmgdkhkgbipeaaTotals.lean).
  GIVEN WITH THE SEED: the statements are not yours to turn. If you find one false, say at which input.
  Laid BY PROGRAM, IN A SANDBOX (cutbox-rows.mjs): the forced cells as the released guide's own fill.sh prints them over the translation b7cfab456932f854… (all of the seat's roots in one cut). By AI agents, Wed Nov 11 2026. No macro, syntax, notation, axiom, sorry.
-/
import Derived.Test.YtjmgdkhkgbipeaaChecked
import GoSem.Claim
import GoSem.ClaimJoined
import GoSem.ClaimMapViews
import Derived.JoinedTies
import Derived.KernelRfl
namespace Go.Proofs.Ytjmgdkhkgbipeaa
/- THE CELL 'sum', in the pinned program and in every row, IS THE sha256 OF THE DUMP (.gsa) THAT YtjmgdkhkgbipeaaProg.lean LOADS. Nothing in Lean hashes anything: it is a label: what it is worth is what the hold of that sum in a sandbox is worth. -/
noncomputable def Try.pinned : Pinned := { name := "ytjmgdkhkgbipeaa", sum := "b7cfab456932f85429d10675dccd0d8f4399a28d4dcd73f697ac67d6ce572da1", checked := Try.checked }
namespace Rows
def none {H : Type} : Left H := { results := [], args := [] }

/-- 'laws.FnExactExtendBy': WHATEVER THE INPUT: true; the input reads as it did. -/
def fnExactExtendBySpec : ChangeSpec := { name := "fnExactExtendBy", fn := fun _ => fun
  | [d1, d2, d3] => { results := [.lit (.bool true)], args := [d1, d2, d3] }
  | _ => none }
def fnExactExtendByRow : OpenClaim := { program := "ytjmgdkhkgbipeaa", sum := "b7cfab456932f85429d10675dccd0d8f4399a28d4dcd73f697ac67d6ce572da1", func := "loop.example/g03400/laws.FnExactExtendBy", spec := "fnExactExtendBy", apart := false }
def FnExactExtendBySaid : Prop := fnExactExtendByRow.holds Try.pinned (OpenSpec.ofChange fnExactExtendBySpec)

/-- ITS FALSE NEIGHBOUR: 'it returns false'. Refute it at one input. -/
def fnExactExtendByWrong : ChangeSpec := { name := "fnExactExtendBy", fn := fun _ => fun
  | [d1, d2, d3] => { results := [.lit (.bool false)], args := [d1, d2, d3] }
  | _ => none }
def FnExactExtendByWrongFalsely : Prop := fnExactExtendByRow.holds Try.pinned (OpenSpec.ofChange fnExactExtendByWrong)

/-- 'laws.FnExactStripCount': WHATEVER THE INPUT: true; the input reads as it did. -/
def fnExactStripCountSpec : ChangeSpec := { name := "fnExactStripCount", fn := fun _ => fun
  | [d1, d2] => { results := [.lit (.bool true)], args := [d1, d2] }
  | _ => none }
def fnExactStripCountRow : OpenClaim := { program := "ytjmgdkhkgbipeaa", sum := "b7cfab456932f85429d10675dccd0d8f4399a28d4dcd73f697ac67d6ce572da1", func := "loop.example/g03400/laws.FnExactStripCount", spec := "fnExactStripCount", unfollowed := true, recurses := true, apart := false }
def FnExactStripCountSaid : Prop := fnExactStripCountRow.holds Try.pinned (OpenSpec.ofChange fnExactStripCountSpec)

/-- ITS FALSE NEIGHBOUR: 'it returns false'. Refute it at one input. -/
def fnExactStripCountWrong : ChangeSpec := { name := "fnExactStripCount", fn := fun _ => fun
  | [d1, d2] => { results := [.lit (.bool false)], args := [d1, d2] }
  | _ => none }
def FnExactStripCountWrongFalsely : Prop := fnExactStripCountRow.holds Try.pinned (OpenSpec.ofChange fnExactStripCountWrong)

/-- 'laws.FnExactTraceOf': WHATEVER THE INPUT: true; the input reads as it did. -/
def fnExactTraceOfSpec : ChangeSpec := { name := "fnExactTraceOf", fn := fun _ => fun
  | [d] => { results := [.lit (.bool true)], args := [d] }
  | _ => none }
def fnExactTraceOfRow : OpenClaim := { program := "ytjmgdkhkgbipeaa", sum := "b7cfab456932f85429d10675dccd0d8f4399a28d4dcd73f697ac67d6ce572da1", func := "loop.example/g03400/laws.FnExactTraceOf", spec := "fnExactTraceOf", apart := false }
def FnExactTraceOfSaid : Prop := fnExactTraceOfRow.holds Try.pinned (OpenSpec.ofChange fnExactTraceOfSpec)

/-- ITS FALSE NEIGHBOUR: 'it returns false'. Refute it at one input. -/
def fnExactTraceOfWrong : ChangeSpec := { name := "fnExactTraceOf", fn := fun _ => fun
  | [d] => { results := [.lit (.bool false)], args := [d] }
  | _ => none }
def FnExactTraceOfWrongFalsely : Prop := fnExactTraceOfRow.holds Try.pinned (OpenSpec.ofChange fnExactTraceOfWrong)

/-- 'laws.FnExactArePieces': WHATEVER THE INPUT: true; the input reads as it did. -/
def fnExactArePiecesSpec : ChangeSpec := { name := "fnExactArePieces", fn := fun _ => fun
  | [d] => { results := [.lit (.bool true)], args := [d] }
  | _ => none }
def fnExactArePiecesRow : OpenClaim := { program := "ytjmgdkhkgbipeaa", sum := "b7cfab456932f85429d10675dccd0d8f4399a28d4dcd73f697ac67d6ce572da1", func := "loop.example/g03400/laws.FnExactArePieces", spec := "fnExactArePieces", apart := false }
def FnExactArePiecesSaid : Prop := fnExactArePiecesRow.holds Try.pinned (OpenSpec.ofChange fnExactArePiecesSpec)

/-- ITS FALSE NEIGHBOUR: 'it returns false'. Refute it at one input. -/
def fnExactArePiecesWrong : ChangeSpec := { name := "fnExactArePieces", fn := fun _ => fun
  | [d] => { results := [.lit (.bool false)], args := [d] }
  | _ => none }
def FnExactArePiecesWrongFalsely : Prop := fnExactArePiecesRow.holds Try.pinned (OpenSpec.ofChange fnExactArePiecesWrong)

/-- 'laws.FnExactTransferMatrix': WHATEVER THE INPUT: true; the input reads as it did. -/
def fnExactTransferMatrixSpec : ChangeSpec := { name := "fnExactTransferMatrix", fn := fun _ => fun
  | [d] => { results := [.lit (.bool true)], args := [d] }
  | _ => none }
def fnExactTransferMatrixRow : OpenClaim := { program := "ytjmgdkhkgbipeaa", sum := "b7cfab456932f85429d10675dccd0d8f4399a28d4dcd73f697ac67d6ce572da1", func := "loop.example/g03400/laws.FnExactTransferMatrix", spec := "fnExactTransferMatrix", unfollowed := true, recurses := true, apart := false }
def FnExactTransferMatrixSaid : Prop := fnExactTransferMatrixRow.holds Try.pinned (OpenSpec.ofChange fnExactTransferMatrixSpec)

/-- ITS FALSE NEIGHBOUR: 'it returns false'. Refute it at one input. -/
def fnExactTransferMatrixWrong : ChangeSpec := { name := "fnExactTransferMatrix", fn := fun _ => fun
  | [d] => { results := [.lit (.bool false)], args := [d] }
  | _ => none }
def FnExactTransferMatrixWrongFalsely : Prop := fnExactTransferMatrixRow.holds Try.pinned (OpenSpec.ofChange fnExactTransferMatrixWrong)

/-- 'laws.FnExactStripSequence': WHATEVER THE INPUT: true; the input reads as it did. -/
def fnExactStripSequenceSpec : ChangeSpec := { name := "fnExactStripSequence", fn := fun _ => fun
  | [d1, d2] => { results := [.lit (.bool true)], args := [d1, d2] }
  | _ => none }
def fnExactStripSequenceRow : OpenClaim := { program := "ytjmgdkhkgbipeaa", sum := "b7cfab456932f85429d10675dccd0d8f4399a28d4dcd73f697ac67d6ce572da1", func := "loop.example/g03400/laws.FnExactStripSequence", spec := "fnExactStripSequence", unfollowed := true, recurses := true, apart := false }
def FnExactStripSequenceSaid : Prop := fnExactStripSequenceRow.holds Try.pinned (OpenSpec.ofChange fnExactStripSequenceSpec)

/-- ITS FALSE NEIGHBOUR: 'it returns false'. Refute it at one input. -/
def fnExactStripSequenceWrong : ChangeSpec := { name := "fnExactStripSequence", fn := fun _ => fun
  | [d1, d2] => { results := [.lit (.bool false)], args := [d1, d2] }
  | _ => none }
def FnExactStripSequenceWrongFalsely : Prop := fnExactStripSequenceRow.holds Try.pinned (OpenSpec.ofChange fnExactStripSequenceWrong)

/-- 'laws.FnExactShortestRecurrence': WHATEVER THE INPUT: true; the input reads as it did. -/
def fnExactShortestRecurrenceSpec : ChangeSpec := { name := "fnExactShortestRecurrence", fn := fun _ => fun
  | [d1, d2] => { results := [.lit (.bool true)], args := [d1, d2] }
  | _ => none }
def fnExactShortestRecurrenceRow : OpenClaim := { program := "ytjmgdkhkgbipeaa", sum := "b7cfab456932f85429d10675dccd0d8f4399a28d4dcd73f697ac67d6ce572da1", func := "loop.example/g03400/laws.FnExactShortestRecurrence", spec := "fnExactShortestRecurrence", recurses := true, apart := false }
def FnExactShortestRecurrenceSaid : Prop := fnExactShortestRecurrenceRow.holds Try.pinned (OpenSpec.ofChange fnExactShortestRecurrenceSpec)

/-- ITS FALSE NEIGHBOUR: 'it returns false'. Refute it at one input. -/
def fnExactShortestRecurrenceWrong : ChangeSpec := { name := "fnExactShortestRecurrence", fn := fun _ => fun
  | [d1, d2] => { results := [.lit (.bool false)], args := [d1, d2] }
  | _ => none }
def FnExactShortestRecurrenceWrongFalsely : Prop := fnExactShortestRecurrenceRow.holds Try.pinned (OpenSpec.ofChange fnExactShortestRecurrenceWrong)

/-- 'laws.FnExactCountDominoes': WHATEVER THE INPUT: true; the input reads as it did. -/
def fnExactCountDominoesSpec : ChangeSpec := { name := "fnExactCountDominoes", fn := fun _ => fun
  | [d] => { results := [.lit (.bool true)], args := [d] }
  | _ => none }
def fnExactCountDominoesRow : OpenClaim := { program := "ytjmgdkhkgbipeaa", sum := "b7cfab456932f85429d10675dccd0d8f4399a28d4dcd73f697ac67d6ce572da1", func := "loop.example/g03400/laws.FnExactCountDominoes", spec := "fnExactCountDominoes", unfollowed := true, recurses := true, apart := false }
def FnExactCountDominoesSaid : Prop := fnExactCountDominoesRow.holds Try.pinned (OpenSpec.ofChange fnExactCountDominoesSpec)

/-- ITS FALSE NEIGHBOUR: 'it returns false'. Refute it at one input. -/
def fnExactCountDominoesWrong : ChangeSpec := { name := "fnExactCountDominoes", fn := fun _ => fun
  | [d] => { results := [.lit (.bool false)], args := [d] }
  | _ => none }
def FnExactCountDominoesWrongFalsely : Prop := fnExactCountDominoesRow.holds Try.pinned (OpenSpec.ofChange fnExactCountDominoesWrong)

/-- 'laws.FnExactMultiplyInts': WHATEVER THE INPUT: true; the input reads as it did. -/
def fnExactMultiplyIntsSpec : ChangeSpec := { name := "fnExactMultiplyInts", fn := fun _ => fun
  | [d1, d2] => { results := [.lit (.bool true)], args := [d1, d2] }
  | _ => none }
def fnExactMultiplyIntsRow : OpenClaim := { program := "ytjmgdkhkgbipeaa", sum := "b7cfab456932f85429d10675dccd0d8f4399a28d4dcd73f697ac67d6ce572da1", func := "loop.example/g03400/laws.FnExactMultiplyInts", spec := "fnExactMultiplyInts", apart := false }
def FnExactMultiplyIntsSaid : Prop := fnExactMultiplyIntsRow.holds Try.pinned (OpenSpec.ofChange fnExactMultiplyIntsSpec)

/-- ITS FALSE NEIGHBOUR: 'it returns false'. Refute it at one input. -/
def fnExactMultiplyIntsWrong : ChangeSpec := { name := "fnExactMultiplyInts", fn := fun _ => fun
  | [d1, d2] => { results := [.lit (.bool false)], args := [d1, d2] }
  | _ => none }
def FnExactMultiplyIntsWrongFalsely : Prop := fnExactMultiplyIntsRow.holds Try.pinned (OpenSpec.ofChange fnExactMultiplyIntsWrong)

/-- 'laws.FnExactCharacteristicOf': WHATEVER THE INPUT: true; the input reads as it did. -/
def fnExactCharacteristicOfSpec : ChangeSpec := { name := "fnExactCharacteristicOf", fn := fun _ => fun
  | [d] => { results := [.lit (.bool true)], args := [d] }
  | _ => none }
def fnExactCharacteristicOfRow : OpenClaim := { program := "ytjmgdkhkgbipeaa", sum := "b7cfab456932f85429d10675dccd0d8f4399a28d4dcd73f697ac67d6ce572da1", func := "loop.example/g03400/laws.FnExactCharacteristicOf", spec := "fnExactCharacteristicOf", apart := false }
def FnExactCharacteristicOfSaid : Prop := fnExactCharacteristicOfRow.holds Try.pinned (OpenSpec.ofChange fnExactCharacteristicOfSpec)

/-- ITS FALSE NEIGHBOUR: 'it returns false'. Refute it at one input. -/
def fnExactCharacteristicOfWrong : ChangeSpec := { name := "fnExactCharacteristicOf", fn := fun _ => fun
  | [d] => { results := [.lit (.bool false)], args := [d] }
  | _ => none }
def FnExactCharacteristicOfWrongFalsely : Prop := fnExactCharacteristicOfRow.holds Try.pinned (OpenSpec.ofChange fnExactCharacteristicOfWrong)

/-- 'laws.FnExactStripRecurrence': WHATEVER THE INPUT: true; the input reads as it did. -/
def fnExactStripRecurrenceSpec : ChangeSpec := { name := "fnExactStripRecurrence", fn := fun _ => fun
  | [d] => { results := [.lit (.bool true)], args := [d] }
  | _ => none }
def fnExactStripRecurrenceRow : OpenClaim := { program := "ytjmgdkhkgbipeaa", sum := "b7cfab456932f85429d10675dccd0d8f4399a28d4dcd73f697ac67d6ce572da1", func := "loop.example/g03400/laws.FnExactStripRecurrence", spec := "fnExactStripRecurrence", unfollowed := true, recurses := true, apart := false }
def FnExactStripRecurrenceSaid : Prop := fnExactStripRecurrenceRow.holds Try.pinned (OpenSpec.ofChange fnExactStripRecurrenceSpec)

/-- ITS FALSE NEIGHBOUR: 'it returns false'. Refute it at one input. -/
def fnExactStripRecurrenceWrong : ChangeSpec := { name := "fnExactStripRecurrence", fn := fun _ => fun
  | [d] => { results := [.lit (.bool false)], args := [d] }
  | _ => none }
def FnExactStripRecurrenceWrongFalsely : Prop := fnExactStripRecurrenceRow.holds Try.pinned (OpenSpec.ofChange fnExactStripRecurrenceWrong)

/- THE SECOND FORM. 'bulk': how many values and letters a reading holds, each counted each time it is reached (what is shared counts as often as it is met; a slice's spare places count too). A statement '..UptoSaid' is the law's where the arguments, and the package variables that the reading takes, are together of bulk at most 1048576: NARROWER than '..Said'. Prove '..Said' where nothing that the law and all that it calls make is longer than what came in: it says more and counts as full. Else prove '..UptoSaid'. A law counts once. -/
mutual
def uptoBulk {H : Type} : DataW H → Nat
  | .lit (.string bytes) => bytes.length + 1
  | .lit _ => 1
  | .nil => 1
  | .ptr d => uptoBulk d + 1
  | .slice elems spare => uptoBulkAll elems + uptoBulkAll spare + 1
  | .agg parts => uptoBulkAll parts + 1
  | .iface _ d => uptoBulk d + 1
  | .map entries => uptoBulkEntries entries + 1
  | .held _ => 1
def uptoBulkAll {H : Type} : List (DataW H) → Nat
  | [] => 0
  | d :: r => uptoBulk d + uptoBulkAll r
def uptoBulkEntries {H : Type} : List (Lit × DataW H) → Nat
  | [] => 0
  | x :: r => uptoBulkEntry x + uptoBulkEntries r
def uptoBulkEntry {H : Type} : Lit × DataW H → Nat
  | (.string bytes, d) => bytes.length + uptoBulk d + 1
  | (_, d) => uptoBulk d + 1
 end
def uptoSmall : (H : Type) → List (DataW H) → Bool := fun _ ds => decide (uptoBulkAll ds ≤ 1048576)
def OpenSpec.upto (s : _root_.Go.ChangeSpec) : _root_.Go.OpenSpec := { _root_.Go.OpenSpec.ofChange s with cond := some uptoSmall }

/-- 'laws.FnExactExtendBy', WHERE WHAT IT READS IS OF BULK AT MOST 1048576: true; the input reads as it did. -/
def fnExactExtendByUptoRow : OpenClaim := { program := "ytjmgdkhkgbipeaa", sum := "b7cfab456932f85429d10675dccd0d8f4399a28d4dcd73f697ac67d6ce572da1", func := "loop.example/g03400/laws.FnExactExtendBy", spec := "fnExactExtendBy", apart := false, narrowed := true }
def FnExactExtendByUptoSaid : Prop := fnExactExtendByUptoRow.holds Try.pinned (OpenSpec.upto fnExactExtendBySpec)

/-- 'laws.FnExactStripCount', WHERE WHAT IT READS IS OF BULK AT MOST 1048576: true; the input reads as it did. -/
def fnExactStripCountUptoRow : OpenClaim := { program := "ytjmgdkhkgbipeaa", sum := "b7cfab456932f85429d10675dccd0d8f4399a28d4dcd73f697ac67d6ce572da1", func := "loop.example/g03400/laws.FnExactStripCount", spec := "fnExactStripCount", unfollowed := true, recurses := true, apart := false, narrowed := true }
def FnExactStripCountUptoSaid : Prop := fnExactStripCountUptoRow.holds Try.pinned (OpenSpec.upto fnExactStripCountSpec)

/-- 'laws.FnExactTraceOf', WHERE WHAT IT READS IS OF BULK AT MOST 1048576: true; the input reads as it did. -/
def fnExactTraceOfUptoRow : OpenClaim := { program := "ytjmgdkhkgbipeaa", sum := "b7cfab456932f85429d10675dccd0d8f4399a28d4dcd73f697ac67d6ce572da1", func := "loop.example/g03400/laws.FnExactTraceOf", spec := "fnExactTraceOf", apart := false, narrowed := true }
def FnExactTraceOfUptoSaid : Prop := fnExactTraceOfUptoRow.holds Try.pinned (OpenSpec.upto fnExactTraceOfSpec)

/-- 'laws.FnExactArePieces', WHERE WHAT IT READS IS OF BULK AT MOST 1048576: true; the input reads as it did. -/
def fnExactArePiecesUptoRow : OpenClaim := { program := "ytjmgdkhkgbipeaa", sum := "b7cfab456932f85429d10675dccd0d8f4399a28d4dcd73f697ac67d6ce572da1", func := "loop.example/g03400/laws.FnExactArePieces", spec := "fnExactArePieces", apart := false, narrowed := true }
def FnExactArePiecesUptoSaid : Prop := fnExactArePiecesUptoRow.holds Try.pinned (OpenSpec.upto fnExactArePiecesSpec)

/-- 'laws.FnExactTransferMatrix', WHERE WHAT IT READS IS OF BULK AT MOST 1048576: true; the input reads as it did. -/
def fnExactTransferMatrixUptoRow : OpenClaim := { program := "ytjmgdkhkgbipeaa", sum := "b7cfab456932f85429d10675dccd0d8f4399a28d4dcd73f697ac67d6ce572da1", func := "loop.example/g03400/laws.FnExactTransferMatrix", spec := "fnExactTransferMatrix", unfollowed := true, recurses := true, apart := false, narrowed := true }
def FnExactTransferMatrixUptoSaid : Prop := fnExactTransferMatrixUptoRow.holds Try.pinned (OpenSpec.upto fnExactTransferMatrixSpec)

/-- 'laws.FnExactStripSequence', WHERE WHAT IT READS IS OF BULK AT MOST 1048576: true; the input reads as it did. -/
def fnExactStripSequenceUptoRow : OpenClaim := { program := "ytjmgdkhkgbipeaa", sum := "b7cfab456932f85429d10675dccd0d8f4399a28d4dcd73f697ac67d6ce572da1", func := "loop.example/g03400/laws.FnExactStripSequence", spec := "fnExactStripSequence", unfollowed := true, recurses := true, apart := false, narrowed := true }
def FnExactStripSequenceUptoSaid : Prop := fnExactStripSequenceUptoRow.holds Try.pinned (OpenSpec.upto fnExactStripSequenceSpec)

/-- 'laws.FnExactShortestRecurrence', WHERE WHAT IT READS IS OF BULK AT MOST 1048576: true; the input reads as it did. -/
def fnExactShortestRecurrenceUptoRow : OpenClaim := { program := "ytjmgdkhkgbipeaa", sum := "b7cfab456932f85429d10675dccd0d8f4399a28d4dcd73f697ac67d6ce572da1", func := "loop.example/g03400/laws.FnExactShortestRecurrence", spec := "fnExactShortestRecurrence", recurses := true, apart := false, narrowed := true }
def FnExactShortestRecurrenceUptoSaid : Prop := fnExactShortestRecurrenceUptoRow.holds Try.pinned (OpenSpec.upto fnExactShortestRecurrenceSpec)

/-- 'laws.FnExactCountDominoes', WHERE WHAT IT READS IS OF BULK AT MOST 1048576: true; the input reads as it did. -/
def fnExactCountDominoesUptoRow : OpenClaim := { program := "ytjmgdkhkgbipeaa", sum := "b7cfab456932f85429d10675dccd0d8f4399a28d4dcd73f697ac67d6ce572da1", func := "loop.example/g03400/laws.FnExactCountDominoes", spec := "fnExactCountDominoes", unfollowed := true, recurses := true, apart := false, narrowed := true }
def FnExactCountDominoesUptoSaid : Prop := fnExactCountDominoesUptoRow.holds Try.pinned (OpenSpec.upto fnExactCountDominoesSpec)

/-- 'laws.FnExactMultiplyInts', WHERE WHAT IT READS IS OF BULK AT MOST 1048576: true; the input reads as it did. -/
def fnExactMultiplyIntsUptoRow : OpenClaim := { program := "ytjmgdkhkgbipeaa", sum := "b7cfab456932f85429d10675dccd0d8f4399a28d4dcd73f697ac67d6ce572da1", func := "loop.example/g03400/laws.FnExactMultiplyInts", spec := "fnExactMultiplyInts", apart := false, narrowed := true }
def FnExactMultiplyIntsUptoSaid : Prop := fnExactMultiplyIntsUptoRow.holds Try.pinned (OpenSpec.upto fnExactMultiplyIntsSpec)

/-- 'laws.FnExactCharacteristicOf', WHERE WHAT IT READS IS OF BULK AT MOST 1048576: true; the input reads as it did. -/
def fnExactCharacteristicOfUptoRow : OpenClaim := { program := "ytjmgdkhkgbipeaa", sum := "b7cfab456932f85429d10675dccd0d8f4399a28d4dcd73f697ac67d6ce572da1", func := "loop.example/g03400/laws.FnExactCharacteristicOf", spec := "fnExactCharacteristicOf", apart := false, narrowed := true }
def FnExactCharacteristicOfUptoSaid : Prop := fnExactCharacteristicOfUptoRow.holds Try.pinned (OpenSpec.upto fnExactCharacteristicOfSpec)

/-- 'laws.FnExactStripRecurrence', WHERE WHAT IT READS IS OF BULK AT MOST 1048576: true; the input reads as it did. -/
def fnExactStripRecurrenceUptoRow : OpenClaim := { program := "ytjmgdkhkgbipeaa", sum := "b7cfab456932f85429d10675dccd0d8f4399a28d4dcd73f697ac67d6ce572da1", func := "loop.example/g03400/laws.FnExactStripRecurrence", spec := "fnExactStripRecurrence", unfollowed := true, recurses := true, apart := false, narrowed := true }
def FnExactStripRecurrenceUptoSaid : Prop := fnExactStripRecurrenceUptoRow.holds Try.pinned (OpenSpec.upto fnExactStripRecurrenceSpec)

end Rows
end Go.Proofs.Ytjmgdkhkgbipeaa
