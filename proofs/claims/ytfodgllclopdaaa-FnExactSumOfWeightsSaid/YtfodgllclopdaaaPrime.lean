/- IsPrime of the program and of the reference. -/
import Derived.Test.YtfodgllclopdaaaRows
import Derived.WalkKit
import Derived.ProofKit
import Derived.OpenShut
import Derived.BigQuiet
import Derived.Lib.Hide
import Derived.Deep.QuietTactic
import Derived.Outline
import Derived.Test.YtfodgllclopdaaaBase
namespace Go.Proofs.Ytfodgllclopdaaa
open Go.ChangeShapes Go.WideShapes Go.ChangeAt Go.RowKit
set_option linter.unusedVariables false
def primeB (p : Int) : Bool := p == 2 || (p == 3 || p == 5)
theorem primeB_nat {p : Int} (h : primeB p = true) : ∃ P : Nat, p = P ∧ 2 ≤ P ∧ P ≤ 5 := by
  simp [primeB] at h
  exact ⟨p.toNat, by omega, by omega, by omega⟩
theorem isPrime_any (p : Int) (w : World) : Calls Try.prog 54 #[.int .i64 p] w fun e w' => e = .returned (.bool (primeB p)) ∧ ∃ x, w' = ext w x := by
  have HF := Lib.hid (show primeB p = (p == 2 || (p == 3 || p == 5)) from rfl)
  cases h2 : p == 2
  · cases h3 : p == 3
    · cases h5 : p == 5
      all_goals
        go_enter Try.func54, Try.ntmps54
        go_wp2_with fail
        go_ret
        exact ⟨ret_bool (by rw [HF.out, h2, h3, h5]; rfl), (by repeat (first | exact ext_refl _ | (with_reducible assumption) | refine ext_ext' ?_ _ | refine ext_alloc' ?_ _ | refine ext_drew' ?_))⟩
    · go_enter Try.func54, Try.ntmps54
      go_wp2_with fail
      go_ret
      exact ⟨ret_bool (by rw [HF.out, h2, h3]; rfl), (by repeat (first | exact ext_refl _ | (with_reducible assumption) | refine ext_ext' ?_ _ | refine ext_alloc' ?_ _ | refine ext_drew' ?_))⟩
  · go_enter Try.func54, Try.ntmps54
    go_wp2_with fail
    go_ret
    exact ⟨ret_bool (by rw [HF.out, h2]; rfl), (by repeat (first | exact ext_refl _ | (with_reducible assumption) | refine ext_ext' ?_ _ | refine ext_alloc' ?_ _ | refine ext_drew' ?_))⟩
theorem specIsPrime_any (p : Int) (w : World) : Calls Try.prog 51 #[.int .i64 p] w fun e w' => e = .returned (.bool (primeB p)) ∧ ∃ x, w' = ext w x := by
  have HF := Lib.hid (show primeB p = (p == 2 || (p == 3 || p == 5)) from rfl)
  cases h2 : p == 2
  · cases h3 : p == 3
    · cases h5 : p == 5
      all_goals
        go_enter Try.func51, Try.ntmps51
        go_wp2_with fail
        go_ret
        exact ⟨ret_bool (by rw [HF.out, h2, h3, h5]; rfl), (by repeat (first | exact ext_refl _ | (with_reducible assumption) | refine ext_ext' ?_ _ | refine ext_alloc' ?_ _ | refine ext_drew' ?_))⟩
    · go_enter Try.func51, Try.ntmps51
      go_wp2_with fail
      go_ret
      exact ⟨ret_bool (by rw [HF.out, h2, h3]; rfl), (by repeat (first | exact ext_refl _ | (with_reducible assumption) | refine ext_ext' ?_ _ | refine ext_alloc' ?_ _ | refine ext_drew' ?_))⟩
  · go_enter Try.func51, Try.ntmps51
    go_wp2_with fail
    go_ret
    exact ⟨ret_bool (by rw [HF.out, h2]; rfl), (by repeat (first | exact ext_refl _ | (with_reducible assumption) | refine ext_ext' ?_ _ | refine ext_alloc' ?_ _ | refine ext_drew' ?_))⟩
end Go.Proofs.Ytfodgllclopdaaa
