/-
  No cell of these rows narrows 'for every input' (looked for: loops, veiled, ifaces, maps, wideKeys, modest, calm, conditions, laid).
  DERIVED. THE GIVEN ROWS OF THIS SEAT. 6 by the template 'for every input the law returns true; each argument reads behind the call as it read before'; 0 by the template 'total and deterministic' (their statements: YtpmlndnhofchmaaTotals.lean).
  GIVEN WITH THE SEED: the statements are not yours to turn. If you find one false, say at which input.
  Laid BY PROGRAM, IN A SANDBOX (cutbox-rows.mjs): the forced cells as the released guide's own fill.sh prints them over the translation d45a3721d67bf6f0… (all of the seat's roots in one cut). By AI agents, Wed Nov 11 2026. No macro, syntax, notation, axiom, sorry.
-/
import Derived.Test.YtpmlndnhofchmaaChecked
import GoSem.Claim
import GoSem.ClaimJoined
import GoSem.ClaimMapViews
import Derived.JoinedTies
import Derived.KernelRfl
namespace Go.Proofs.Ytpmlndnhofchmaa
/- THE CELL 'sum', in the pinned program and in every row, IS THE sha256 OF THE DUMP (.gsa) THAT YtpmlndnhofchmaaProg.lean LOADS. Nothing in Lean hashes anything: it is a label: what it is worth is what the hold of that sum in a sandbox is worth. -/
noncomputable def Try.pinned : Pinned := { name := "ytpmlndnhofchmaa", sum := "d45a3721d67bf6f0f703a197aa060785ef75b7ca115464d792c011f66da5705c", checked := Try.checked }
namespace Rows
def none {H : Type} : Left H := { results := [], args := [] }

/-- 'laws.FnExactIsPrime': WHATEVER THE INPUT: true; the input reads as it did. -/
def fnExactIsPrimeSpec : ChangeSpec := { name := "fnExactIsPrime", fn := fun _ => fun
  | [d] => { results := [.lit (.bool true)], args := [d] }
  | _ => none }
def fnExactIsPrimeRow : OpenClaim := { program := "ytpmlndnhofchmaa", sum := "d45a3721d67bf6f0f703a197aa060785ef75b7ca115464d792c011f66da5705c", func := "loop.example/g03400/laws.FnExactIsPrime", spec := "fnExactIsPrime", apart := false }
def FnExactIsPrimeSaid : Prop := fnExactIsPrimeRow.holds Try.pinned (OpenSpec.ofChange fnExactIsPrimeSpec)

/-- ITS FALSE NEIGHBOUR: 'it returns false'. Refute it at one input. -/
def fnExactIsPrimeWrong : ChangeSpec := { name := "fnExactIsPrime", fn := fun _ => fun
  | [d] => { results := [.lit (.bool false)], args := [d] }
  | _ => none }
def FnExactIsPrimeWrongFalsely : Prop := fnExactIsPrimeRow.holds Try.pinned (OpenSpec.ofChange fnExactIsPrimeWrong)

/-- 'laws.FnExactRefutationSize': WHATEVER THE INPUT: true; the input reads as it did. -/
def fnExactRefutationSizeSpec : ChangeSpec := { name := "fnExactRefutationSize", fn := fun _ => fun
  | [d] => { results := [.lit (.bool true)], args := [d] }
  | _ => none }
def fnExactRefutationSizeRow : OpenClaim := { program := "ytpmlndnhofchmaa", sum := "d45a3721d67bf6f0f703a197aa060785ef75b7ca115464d792c011f66da5705c", func := "loop.example/g03400/laws.FnExactRefutationSize", spec := "fnExactRefutationSize", apart := false }
def FnExactRefutationSizeSaid : Prop := fnExactRefutationSizeRow.holds Try.pinned (OpenSpec.ofChange fnExactRefutationSizeSpec)

/-- ITS FALSE NEIGHBOUR: 'it returns false'. Refute it at one input. -/
def fnExactRefutationSizeWrong : ChangeSpec := { name := "fnExactRefutationSize", fn := fun _ => fun
  | [d] => { results := [.lit (.bool false)], args := [d] }
  | _ => none }
def FnExactRefutationSizeWrongFalsely : Prop := fnExactRefutationSizeRow.holds Try.pinned (OpenSpec.ofChange fnExactRefutationSizeWrong)

/-- 'laws.FnExactDeepestOf': WHATEVER THE INPUT: true; the input reads as it did. -/
def fnExactDeepestOfSpec : ChangeSpec := { name := "fnExactDeepestOf", fn := fun _ => fun
  | [d] => { results := [.lit (.bool true)], args := [d] }
  | _ => none }
def fnExactDeepestOfRow : OpenClaim := { program := "ytpmlndnhofchmaa", sum := "d45a3721d67bf6f0f703a197aa060785ef75b7ca115464d792c011f66da5705c", func := "loop.example/g03400/laws.FnExactDeepestOf", spec := "fnExactDeepestOf", apart := false }
def FnExactDeepestOfSaid : Prop := fnExactDeepestOfRow.holds Try.pinned (OpenSpec.ofChange fnExactDeepestOfSpec)

/-- ITS FALSE NEIGHBOUR: 'it returns false'. Refute it at one input. -/
def fnExactDeepestOfWrong : ChangeSpec := { name := "fnExactDeepestOf", fn := fun _ => fun
  | [d] => { results := [.lit (.bool false)], args := [d] }
  | _ => none }
def FnExactDeepestOfWrongFalsely : Prop := fnExactDeepestOfRow.holds Try.pinned (OpenSpec.ofChange fnExactDeepestOfWrong)

/-- 'laws.FnExactIsRecurrence': WHATEVER THE INPUT: true; the input reads as it did. -/
def fnExactIsRecurrenceSpec : ChangeSpec := { name := "fnExactIsRecurrence", fn := fun _ => fun
  | [d1, d2] => { results := [.lit (.bool true)], args := [d1, d2] }
  | _ => none }
def fnExactIsRecurrenceRow : OpenClaim := { program := "ytpmlndnhofchmaa", sum := "d45a3721d67bf6f0f703a197aa060785ef75b7ca115464d792c011f66da5705c", func := "loop.example/g03400/laws.FnExactIsRecurrence", spec := "fnExactIsRecurrence", apart := false }
def FnExactIsRecurrenceSaid : Prop := fnExactIsRecurrenceRow.holds Try.pinned (OpenSpec.ofChange fnExactIsRecurrenceSpec)

/-- ITS FALSE NEIGHBOUR: 'it returns false'. Refute it at one input. -/
def fnExactIsRecurrenceWrong : ChangeSpec := { name := "fnExactIsRecurrence", fn := fun _ => fun
  | [d1, d2] => { results := [.lit (.bool false)], args := [d1, d2] }
  | _ => none }
def FnExactIsRecurrenceWrongFalsely : Prop := fnExactIsRecurrenceRow.holds Try.pinned (OpenSpec.ofChange fnExactIsRecurrenceWrong)

/-- 'laws.FnExactCheckerBalance': WHATEVER THE INPUT: true; the input reads as it did. -/
def fnExactCheckerBalanceSpec : ChangeSpec := { name := "fnExactCheckerBalance", fn := fun _ => fun
  | [d] => { results := [.lit (.bool true)], args := [d] }
  | _ => none }
def fnExactCheckerBalanceRow : OpenClaim := { program := "ytpmlndnhofchmaa", sum := "d45a3721d67bf6f0f703a197aa060785ef75b7ca115464d792c011f66da5705c", func := "loop.example/g03400/laws.FnExactCheckerBalance", spec := "fnExactCheckerBalance", apart := false }
def FnExactCheckerBalanceSaid : Prop := fnExactCheckerBalanceRow.holds Try.pinned (OpenSpec.ofChange fnExactCheckerBalanceSpec)

/-- ITS FALSE NEIGHBOUR: 'it returns false'. Refute it at one input. -/
def fnExactCheckerBalanceWrong : ChangeSpec := { name := "fnExactCheckerBalance", fn := fun _ => fun
  | [d] => { results := [.lit (.bool false)], args := [d] }
  | _ => none }
def FnExactCheckerBalanceWrongFalsely : Prop := fnExactCheckerBalanceRow.holds Try.pinned (OpenSpec.ofChange fnExactCheckerBalanceWrong)

/-- 'laws.FnExactMaskOf': WHATEVER THE INPUT: true; the input reads as it did. -/
def fnExactMaskOfSpec : ChangeSpec := { name := "fnExactMaskOf", fn := fun _ => fun
  | [d] => { results := [.lit (.bool true)], args := [d] }
  | _ => none }
def fnExactMaskOfRow : OpenClaim := { program := "ytpmlndnhofchmaa", sum := "d45a3721d67bf6f0f703a197aa060785ef75b7ca115464d792c011f66da5705c", func := "loop.example/g03400/laws.FnExactMaskOf", spec := "fnExactMaskOf", apart := false }
def FnExactMaskOfSaid : Prop := fnExactMaskOfRow.holds Try.pinned (OpenSpec.ofChange fnExactMaskOfSpec)

/-- ITS FALSE NEIGHBOUR: 'it returns false'. Refute it at one input. -/
def fnExactMaskOfWrong : ChangeSpec := { name := "fnExactMaskOf", fn := fun _ => fun
  | [d] => { results := [.lit (.bool false)], args := [d] }
  | _ => none }
def FnExactMaskOfWrongFalsely : Prop := fnExactMaskOfRow.holds Try.pinned (OpenSpec.ofChange fnExactMaskOfWrong)

/- THE SECOND FORM. 'bulk': how many values and letters a reading holds, each counted each time it is reached (what is shared counts as often as it is met; a slice's spare places count too). A statement '..UptoSaid' is the law's where the arguments, and the package variables that the reading takes, are together of bulk at most 1048576: NARROWER than '..Said'. Prove '..Said' where nothing that the law and all that it calls make is longer than what came in: it says more and counts as full. Else prove '..UptoSaid'. A law counts once. -/
mutual
def uptoBulk {H : Type} : DataW H → Nat
  | .lit (.string bytes) => bytes.length + 1
  | .lit _ => 1
  | .nil => 1
  | .ptr d => uptoBulk d + 1
  | .slice elems spare => uptoBulkAll elems + uptoBulkAll spare + 1
  | .agg parts => uptoBulkAll parts + 1
  | .iface _ d => uptoBulk d + 1
  | .map entries => uptoBulkEntries entries + 1
  | .held _ => 1
def uptoBulkAll {H : Type} : List (DataW H) → Nat
  | [] => 0
  | d :: r => uptoBulk d + uptoBulkAll r
def uptoBulkEntries {H : Type} : List (Lit × DataW H) → Nat
  | [] => 0
  | x :: r => uptoBulkEntry x + uptoBulkEntries r
def uptoBulkEntry {H : Type} : Lit × DataW H → Nat
  | (.string bytes, d) => bytes.length + uptoBulk d + 1
  | (_, d) => uptoBulk d + 1
 end
def uptoSmall : (H : Type) → List (DataW H) → Bool := fun _ ds => decide (uptoBulkAll ds ≤ 1048576)
def OpenSpec.upto (s : _root_.Go.ChangeSpec) : _root_.Go.OpenSpec := { _root_.Go.OpenSpec.ofChange s with cond := some uptoSmall }

/-- 'laws.FnExactIsPrime', WHERE WHAT IT READS IS OF BULK AT MOST 1048576: true; the input reads as it did. -/
def fnExactIsPrimeUptoRow : OpenClaim := { program := "ytpmlndnhofchmaa", sum := "d45a3721d67bf6f0f703a197aa060785ef75b7ca115464d792c011f66da5705c", func := "loop.example/g03400/laws.FnExactIsPrime", spec := "fnExactIsPrime", apart := false, narrowed := true }
def FnExactIsPrimeUptoSaid : Prop := fnExactIsPrimeUptoRow.holds Try.pinned (OpenSpec.upto fnExactIsPrimeSpec)

/-- 'laws.FnExactRefutationSize', WHERE WHAT IT READS IS OF BULK AT MOST 1048576: true; the input reads as it did. -/
def fnExactRefutationSizeUptoRow : OpenClaim := { program := "ytpmlndnhofchmaa", sum := "d45a3721d67bf6f0f703a197aa060785ef75b7ca115464d792c011f66da5705c", func := "loop.example/g03400/laws.FnExactRefutationSize", spec := "fnExactRefutationSize", apart := false, narrowed := true }
def FnExactRefutationSizeUptoSaid : Prop := fnExactRefutationSizeUptoRow.holds Try.pinned (OpenSpec.upto fnExactRefutationSizeSpec)

/-- 'laws.FnExactDeepestOf', WHERE WHAT IT READS IS OF BULK AT MOST 1048576: true; the input reads as it did. -/
def fnExactDeepestOfUptoRow : OpenClaim := { program := "ytpmlndnhofchmaa", sum := "d45a3721d67bf6f0f703a197aa060785ef75b7ca115464d792c011f66da5705c", func := "loop.example/g03400/laws.FnExactDeepestOf", spec := "fnExactDeepestOf", apart := false, narrowed := true }
def FnExactDeepestOfUptoSaid : Prop := fnExactDeepestOfUptoRow.holds Try.pinned (OpenSpec.upto fnExactDeepestOfSpec)

/-- 'laws.FnExactIsRecurrence', WHERE WHAT IT READS IS OF BULK AT MOST 1048576: true; the input reads as it did. -/
def fnExactIsRecurrenceUptoRow : OpenClaim := { program := "ytpmlndnhofchmaa", sum := "d45a3721d67bf6f0f703a197aa060785ef75b7ca115464d792c011f66da5705c", func := "loop.example/g03400/laws.FnExactIsRecurrence", spec := "fnExactIsRecurrence", apart := false, narrowed := true }
def FnExactIsRecurrenceUptoSaid : Prop := fnExactIsRecurrenceUptoRow.holds Try.pinned (OpenSpec.upto fnExactIsRecurrenceSpec)

/-- 'laws.FnExactCheckerBalance', WHERE WHAT IT READS IS OF BULK AT MOST 1048576: true; the input reads as it did. -/
def fnExactCheckerBalanceUptoRow : OpenClaim := { program := "ytpmlndnhofchmaa", sum := "d45a3721d67bf6f0f703a197aa060785ef75b7ca115464d792c011f66da5705c", func := "loop.example/g03400/laws.FnExactCheckerBalance", spec := "fnExactCheckerBalance", apart := false, narrowed := true }
def FnExactCheckerBalanceUptoSaid : Prop := fnExactCheckerBalanceUptoRow.holds Try.pinned (OpenSpec.upto fnExactCheckerBalanceSpec)

/-- 'laws.FnExactMaskOf', WHERE WHAT IT READS IS OF BULK AT MOST 1048576: true; the input reads as it did. -/
def fnExactMaskOfUptoRow : OpenClaim := { program := "ytpmlndnhofchmaa", sum := "d45a3721d67bf6f0f703a197aa060785ef75b7ca115464d792c011f66da5705c", func := "loop.example/g03400/laws.FnExactMaskOf", spec := "fnExactMaskOf", apart := false, narrowed := true }
def FnExactMaskOfUptoSaid : Prop := fnExactMaskOfUptoRow.holds Try.pinned (OpenSpec.upto fnExactMaskOfSpec)

end Rows
end Go.Proofs.Ytpmlndnhofchmaa
