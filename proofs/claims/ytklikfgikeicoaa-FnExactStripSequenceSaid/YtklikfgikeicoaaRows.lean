/-
  No cell of these rows narrows 'for every input' (looked for: loops, veiled, ifaces, maps, wideKeys, modest, calm, conditions, laid).
  DERIVED. THE GIVEN ROWS OF THIS SEAT. 5 by the template 'for every input the law returns true; each argument reads behind the call as it read before'; 0 by the template 'total and deterministic' (their statements: YtklikfgikeicoaaTotals.lean).
  GIVEN WITH THE SEED: the statements are not yours to turn. If you find one false, say at which input.
  Laid BY PROGRAM, IN A SANDBOX (cutbox-rows.mjs): the forced cells as the released guide's own fill.sh prints them over the translation 95233bf1d9b7cbf3… (all of the seat's roots in one cut). By AI agents, Wed Nov 11 2026. No macro, syntax, notation, axiom, sorry.
-/
import Derived.Test.YtklikfgikeicoaaChecked
import GoSem.Claim
import GoSem.ClaimJoined
import GoSem.ClaimMapViews
import Derived.JoinedTies
import Derived.KernelRfl
namespace Go.Proofs.Ytklikfgikeicoaa
/- THE CELL 'sum', in the pinned program and in every row, IS THE sha256 OF THE DUMP (.gsa) THAT YtklikfgikeicoaaProg.lean LOADS. Nothing in Lean hashes anything: it is a label: what it is worth is what the hold of that sum in a sandbox is worth. -/
noncomputable def Try.pinned : Pinned := { name := "ytklikfgikeicoaa", sum := "95233bf1d9b7cbf3f8c60b7a43c6f6ae0d1a312c8cd027a79d38d089e3b76ae0", checked := Try.checked }
namespace Rows
def none {H : Type} : Left H := { results := [], args := [] }

/-- 'laws.FnExactStripCount': WHATEVER THE INPUT: true; the input reads as it did. -/
def fnExactStripCountSpec : ChangeSpec := { name := "fnExactStripCount", fn := fun _ => fun
  | [d1, d2] => { results := [.lit (.bool true)], args := [d1, d2] }
  | _ => none }
def fnExactStripCountRow : OpenClaim := { program := "ytklikfgikeicoaa", sum := "95233bf1d9b7cbf3f8c60b7a43c6f6ae0d1a312c8cd027a79d38d089e3b76ae0", func := "loop.example/g03400/laws.FnExactStripCount", spec := "fnExactStripCount", unfollowed := true, recurses := true, apart := false }
def FnExactStripCountSaid : Prop := fnExactStripCountRow.holds Try.pinned (OpenSpec.ofChange fnExactStripCountSpec)

/-- ITS FALSE NEIGHBOUR: 'it returns false'. Refute it at one input. -/
def fnExactStripCountWrong : ChangeSpec := { name := "fnExactStripCount", fn := fun _ => fun
  | [d1, d2] => { results := [.lit (.bool false)], args := [d1, d2] }
  | _ => none }
def FnExactStripCountWrongFalsely : Prop := fnExactStripCountRow.holds Try.pinned (OpenSpec.ofChange fnExactStripCountWrong)

/-- 'laws.FnExactTransferMatrix': WHATEVER THE INPUT: true; the input reads as it did. -/
def fnExactTransferMatrixSpec : ChangeSpec := { name := "fnExactTransferMatrix", fn := fun _ => fun
  | [d] => { results := [.lit (.bool true)], args := [d] }
  | _ => none }
def fnExactTransferMatrixRow : OpenClaim := { program := "ytklikfgikeicoaa", sum := "95233bf1d9b7cbf3f8c60b7a43c6f6ae0d1a312c8cd027a79d38d089e3b76ae0", func := "loop.example/g03400/laws.FnExactTransferMatrix", spec := "fnExactTransferMatrix", unfollowed := true, recurses := true, apart := false }
def FnExactTransferMatrixSaid : Prop := fnExactTransferMatrixRow.holds Try.pinned (OpenSpec.ofChange fnExactTransferMatrixSpec)

/-- ITS FALSE NEIGHBOUR: 'it returns false'. Refute it at one input. -/
def fnExactTransferMatrixWrong : ChangeSpec := { name := "fnExactTransferMatrix", fn := fun _ => fun
  | [d] => { results := [.lit (.bool false)], args := [d] }
  | _ => none }
def FnExactTransferMatrixWrongFalsely : Prop := fnExactTransferMatrixRow.holds Try.pinned (OpenSpec.ofChange fnExactTransferMatrixWrong)

/-- 'laws.FnExactStripSequence': WHATEVER THE INPUT: true; the input reads as it did. -/
def fnExactStripSequenceSpec : ChangeSpec := { name := "fnExactStripSequence", fn := fun _ => fun
  | [d1, d2] => { results := [.lit (.bool true)], args := [d1, d2] }
  | _ => none }
def fnExactStripSequenceRow : OpenClaim := { program := "ytklikfgikeicoaa", sum := "95233bf1d9b7cbf3f8c60b7a43c6f6ae0d1a312c8cd027a79d38d089e3b76ae0", func := "loop.example/g03400/laws.FnExactStripSequence", spec := "fnExactStripSequence", unfollowed := true, recurses := true, apart := false }
def FnExactStripSequenceSaid : Prop := fnExactStripSequenceRow.holds Try.pinned (OpenSpec.ofChange fnExactStripSequenceSpec)

/-- ITS FALSE NEIGHBOUR: 'it returns false'. Refute it at one input. -/
def fnExactStripSequenceWrong : ChangeSpec := { name := "fnExactStripSequence", fn := fun _ => fun
  | [d1, d2] => { results := [.lit (.bool false)], args := [d1, d2] }
  | _ => none }
def FnExactStripSequenceWrongFalsely : Prop := fnExactStripSequenceRow.holds Try.pinned (OpenSpec.ofChange fnExactStripSequenceWrong)

/-- 'laws.FnExactCountDominoes': WHATEVER THE INPUT: true; the input reads as it did. -/
def fnExactCountDominoesSpec : ChangeSpec := { name := "fnExactCountDominoes", fn := fun _ => fun
  | [d] => { results := [.lit (.bool true)], args := [d] }
  | _ => none }
def fnExactCountDominoesRow : OpenClaim := { program := "ytklikfgikeicoaa", sum := "95233bf1d9b7cbf3f8c60b7a43c6f6ae0d1a312c8cd027a79d38d089e3b76ae0", func := "loop.example/g03400/laws.FnExactCountDominoes", spec := "fnExactCountDominoes", unfollowed := true, recurses := true, apart := false }
def FnExactCountDominoesSaid : Prop := fnExactCountDominoesRow.holds Try.pinned (OpenSpec.ofChange fnExactCountDominoesSpec)

/-- ITS FALSE NEIGHBOUR: 'it returns false'. Refute it at one input. -/
def fnExactCountDominoesWrong : ChangeSpec := { name := "fnExactCountDominoes", fn := fun _ => fun
  | [d] => { results := [.lit (.bool false)], args := [d] }
  | _ => none }
def FnExactCountDominoesWrongFalsely : Prop := fnExactCountDominoesRow.holds Try.pinned (OpenSpec.ofChange fnExactCountDominoesWrong)

/-- 'laws.FnExactStripRecurrence': WHATEVER THE INPUT: true; the input reads as it did. -/
def fnExactStripRecurrenceSpec : ChangeSpec := { name := "fnExactStripRecurrence", fn := fun _ => fun
  | [d] => { results := [.lit (.bool true)], args := [d] }
  | _ => none }
def fnExactStripRecurrenceRow : OpenClaim := { program := "ytklikfgikeicoaa", sum := "95233bf1d9b7cbf3f8c60b7a43c6f6ae0d1a312c8cd027a79d38d089e3b76ae0", func := "loop.example/g03400/laws.FnExactStripRecurrence", spec := "fnExactStripRecurrence", unfollowed := true, recurses := true, apart := false }
def FnExactStripRecurrenceSaid : Prop := fnExactStripRecurrenceRow.holds Try.pinned (OpenSpec.ofChange fnExactStripRecurrenceSpec)

/-- ITS FALSE NEIGHBOUR: 'it returns false'. Refute it at one input. -/
def fnExactStripRecurrenceWrong : ChangeSpec := { name := "fnExactStripRecurrence", fn := fun _ => fun
  | [d] => { results := [.lit (.bool false)], args := [d] }
  | _ => none }
def FnExactStripRecurrenceWrongFalsely : Prop := fnExactStripRecurrenceRow.holds Try.pinned (OpenSpec.ofChange fnExactStripRecurrenceWrong)

/- THE SECOND FORM. 'bulk': how many values and letters a reading holds, each counted each time it is reached (what is shared counts as often as it is met; a slice's spare places count too). A statement '..UptoSaid' is the law's where the arguments, and the package variables that the reading takes, are together of bulk at most 1048576: NARROWER than '..Said'. Prove '..Said' where nothing that the law and all that it calls make is longer than what came in: it says more and counts as full. Else prove '..UptoSaid'. A law counts once. -/
mutual
def uptoBulk {H : Type} : DataW H → Nat
  | .lit (.string bytes) => bytes.length + 1
  | .lit _ => 1
  | .nil => 1
  | .ptr d => uptoBulk d + 1
  | .slice elems spare => uptoBulkAll elems + uptoBulkAll spare + 1
  | .agg parts => uptoBulkAll parts + 1
  | .iface _ d => uptoBulk d + 1
  | .map entries => uptoBulkEntries entries + 1
  | .held _ => 1
def uptoBulkAll {H : Type} : List (DataW H) → Nat
  | [] => 0
  | d :: r => uptoBulk d + uptoBulkAll r
def uptoBulkEntries {H : Type} : List (Lit × DataW H) → Nat
  | [] => 0
  | x :: r => uptoBulkEntry x + uptoBulkEntries r
def uptoBulkEntry {H : Type} : Lit × DataW H → Nat
  | (.string bytes, d) => bytes.length + uptoBulk d + 1
  | (_, d) => uptoBulk d + 1
 end
def uptoSmall : (H : Type) → List (DataW H) → Bool := fun _ ds => decide (uptoBulkAll ds ≤ 1048576)
def OpenSpec.upto (s : _root_.Go.ChangeSpec) : _root_.Go.OpenSpec := { _root_.Go.OpenSpec.ofChange s with cond := some uptoSmall }

/-- 'laws.FnExactStripCount', WHERE WHAT IT READS IS OF BULK AT MOST 1048576: true; the input reads as it did. -/
def fnExactStripCountUptoRow : OpenClaim := { program := "ytklikfgikeicoaa", sum := "95233bf1d9b7cbf3f8c60b7a43c6f6ae0d1a312c8cd027a79d38d089e3b76ae0", func := "loop.example/g03400/laws.FnExactStripCount", spec := "fnExactStripCount", unfollowed := true, recurses := true, apart := false, narrowed := true }
def FnExactStripCountUptoSaid : Prop := fnExactStripCountUptoRow.holds Try.pinned (OpenSpec.upto fnExactStripCountSpec)

/-- 'laws.FnExactTransferMatrix', WHERE WHAT IT READS IS OF BULK AT MOST 1048576: true; the input reads as it did. -/
def fnExactTransferMatrixUptoRow : OpenClaim := { program := "ytklikfgikeicoaa", sum := "95233bf1d9b7cbf3f8c60b7a43c6f6ae0d1a312c8cd027a79d38d089e3b76ae0", func := "loop.example/g03400/laws.FnExactTransferMatrix", spec := "fnExactTransferMatrix", unfollowed := true, recurses := true, apart := false, narrowed := true }
def FnExactTransferMatrixUptoSaid : Prop := fnExactTransferMatrixUptoRow.holds Try.pinned (OpenSpec.upto fnExactTransferMatrixSpec)

/-- 'laws.FnExactStripSequence', WHERE WHAT IT READS IS OF BULK AT MOST 1048576: true; the input reads as it did. -/
def fnExactStripSequenceUptoRow : OpenClaim := { program := "ytklikfgikeicoaa", sum := "95233bf1d9b7cbf3f8c60b7a43c6f6ae0d1a312c8cd027a79d38d089e3b76ae0", func := "loop.example/g03400/laws.FnExactStripSequence", spec := "fnExactStripSequence", unfollowed := true, recurses := true, apart := false, narrowed := true }
def FnExactStripSequenceUptoSaid : Prop := fnExactStripSequenceUptoRow.holds Try.pinned (OpenSpec.upto fnExactStripSequenceSpec)

/-- 'laws.FnExactCountDominoes', WHERE WHAT IT READS IS OF BULK AT MOST 1048576: true; the input reads as it did. -/
def fnExactCountDominoesUptoRow : OpenClaim := { program := "ytklikfgikeicoaa", sum := "95233bf1d9b7cbf3f8c60b7a43c6f6ae0d1a312c8cd027a79d38d089e3b76ae0", func := "loop.example/g03400/laws.FnExactCountDominoes", spec := "fnExactCountDominoes", unfollowed := true, recurses := true, apart := false, narrowed := true }
def FnExactCountDominoesUptoSaid : Prop := fnExactCountDominoesUptoRow.holds Try.pinned (OpenSpec.upto fnExactCountDominoesSpec)

/-- 'laws.FnExactStripRecurrence', WHERE WHAT IT READS IS OF BULK AT MOST 1048576: true; the input reads as it did. -/
def fnExactStripRecurrenceUptoRow : OpenClaim := { program := "ytklikfgikeicoaa", sum := "95233bf1d9b7cbf3f8c60b7a43c6f6ae0d1a312c8cd027a79d38d089e3b76ae0", func := "loop.example/g03400/laws.FnExactStripRecurrence", spec := "fnExactStripRecurrence", unfollowed := true, recurses := true, apart := false, narrowed := true }
def FnExactStripRecurrenceUptoSaid : Prop := fnExactStripRecurrenceUptoRow.holds Try.pinned (OpenSpec.upto fnExactStripRecurrenceSpec)

end Rows
end Go.Proofs.Ytklikfgikeicoaa
