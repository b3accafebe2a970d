/- between and l1In. -/
import Derived.Test.YtncmnmbapalonaaGreatRows
import Derived.WalkKit
import Derived.ProofKit
import Derived.OpenShut
import Derived.BigQuiet
import Derived.Lib.Hide
import Derived.Deep.QuietTactic
import Derived.Outline
import Derived.Test.YtncmnmbapalonaaGreatBase
namespace Go.Proofs.YtncmnmbapalonaaGreat
open Go.ChangeShapes Go.WideShapes Go.ChangeAt Go.RowKit
set_option linter.unusedVariables false
def btw (n lo hi : Int) : Bool := decide (lo ≤ n) && decide (n ≤ hi)
theorem btw_iff {n lo hi : Int} : btw n lo hi = true ↔ lo ≤ n ∧ n ≤ hi := by simp [btw]
theorem btw_not {n lo hi : Int} : btw n lo hi = false ↔ ¬ (lo ≤ n ∧ n ≤ hi) := by rw [← btw_iff]; simp
theorem between_any (n lo hi : Int) (w : World) : Calls Tryz.prog 69 #[.int .i64 n, .int .i64 lo, .int .i64 hi] w fun e w' => e = .returned (.bool (btw n lo hi)) ∧ ∃ x, w' = ext w x := by
  by_cases h1 : lo ≤ n <;> by_cases h2 : n ≤ hi
  all_goals
    go_enter Tryz.func69, Tryz.ntmps69
    go_wp2
    go_ret
    exact ⟨by simp [h1, h2, btw], ext_refl _⟩
theorem between_b (n lo hi : Int) (b : Bool) (h : btw n lo hi = b) (w : World) : Calls Tryz.prog 69 #[.int .i64 n, .int .i64 lo, .int .i64 hi] w fun e w' => e = .returned (.bool b) ∧ ∃ x, w' = ext w x := h ▸ between_any n lo hi w
theorem l1In_any (n lo hi : Int) (w : World) : Calls Tryz.prog 49 #[.int .i64 n, .int .i64 lo, .int .i64 hi] w fun e w' => e = .returned (.bool (btw n lo hi)) ∧ ∃ x, w' = ext w x := by
  by_cases h1 : lo ≤ n <;> by_cases h2 : n ≤ hi
  all_goals
    go_enter Tryz.func49, Tryz.ntmps49
    go_wp2
    go_ret
    exact ⟨by simp [h1, h2, btw], ext_refl _⟩
theorem l1In_b (n lo hi : Int) (b : Bool) (h : btw n lo hi = b) (w : World) : Calls Tryz.prog 49 #[.int .i64 n, .int .i64 lo, .int .i64 hi] w fun e w' => e = .returned (.bool b) ∧ ∃ x, w' = ext w x := h ▸ l1In_any n lo hi w
end Go.Proofs.YtncmnmbapalonaaGreat
