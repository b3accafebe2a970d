/- toIntSS, szIntSS, markIntSS, heldIntSS; slices of slices of int among the arguments, opened. -/
import Derived.Test.YtklikfgikeicoaaRows
import Derived.WalkKit
import Derived.ProofKit
import Derived.OpenShut
import Derived.BigQuiet
import Derived.Lib.Hide
import Derived.Deep.QuietTactic
import Derived.Outline
import Derived.Test.YtklikfgikeicoaaSlsl
import Derived.Test.YtklikfgikeicoaaSlsl0
import Derived.Test.YtklikfgikeicoaaSzints
namespace Go.Proofs.Ytklikfgikeicoaa
open Go.ChangeShapes Go.WideShapes Go.ChangeAt Go.RowKit
set_option linter.unusedVariables false
theorem eraseIdx_mid {α : Type} (r o : α) (L : List α) : ([r] ++ (o :: L)).eraseIdx 1 = r :: L := rfl
end Go.Proofs.Ytklikfgikeicoaa
