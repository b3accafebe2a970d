/- Division of numbers that are not negative. -/
import Derived.Test.YtncmnmbapalonaaGreatRows
import Derived.WalkKit
import Derived.ProofKit
import Derived.OpenShut
import Derived.BigQuiet
import Derived.Lib.Hide
import Derived.Deep.QuietTactic
import Derived.Outline
import Derived.Test.YtncmnmbapalonaaGreatBitops
namespace Go.Proofs.YtncmnmbapalonaaGreat
open Go.ChangeShapes Go.WideShapes Go.ChangeAt Go.RowKit
set_option linter.unusedVariables false
def divN (a b : Nat) : Nat := a / b
def modN (a b : Nat) : Nat := a % b
class PosN (b : Nat) : Prop where
  pos : 0 < b
@[go_sem ↓ 20000] theorem w_quo (a b : Nat) [h : PosN b] [h' : Lt63 a] : Op.intDiv .quo .i64 (a : Int) (b : Int) = pure (.int .i64 (divN a b : Nat)) := by
  have := h.pos
  have e : (a : Int).tdiv b = ((divN a b : Nat) : Int) := rfl
  unfold Op.intDiv
  rw [if_neg (by omega)]
  show pure (Value.int IntKind.i64 (IntKind.i64.wrap ((a : Int).tdiv b))) = _
  have hl : divN a b < 9223372036854775808 := Nat.lt_of_le_of_lt (Nat.div_le_self _ _) h'.lt
  rw [e, wrap_nat _ hl]
@[go_sem ↓ 20000] theorem w_rem (a b : Nat) [h : PosN b] : Op.intDiv .rem .i64 (a : Int) (b : Int) = pure (.int .i64 (modN a b : Nat)) := by
  have := h.pos
  unfold Op.intDiv
  rw [if_neg (by omega)]
  rfl
end Go.Proofs.YtncmnmbapalonaaGreat
