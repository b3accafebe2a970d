/- One letter cut out of the alphabet. -/
import Derived.Test.YtfodgllclopdaaaRows
import Derived.WalkKit
import Derived.ProofKit
import Derived.OpenShut
import Derived.BigQuiet
import Derived.Lib.Hide
import Derived.Deep.QuietTactic
import Derived.Outline
import Derived.Test.YtfodgllclopdaaaFmttiling
namespace Go.Proofs.Ytfodgllclopdaaa
open Go.ChangeShapes Go.WideShapes Go.ChangeAt Go.RowKit
set_option linter.unusedVariables false
def abc : ByteArray := ⟨#[97, 98, 99, 100, 101, 102, 103, 104, 105, 106, 107, 108, 109, 110, 111, 112, 113, 114, 115, 116, 117, 118, 119, 120, 121, 122]⟩
theorem abc_one : ∀ i, i < 26 → (abc.extract i (i + 1)).data = #[lc (some i)] := by decide +kernel
theorem slice_one (i : Nat) (hi : i < 26) : ∀ w : World, (Instr.slice 9 (.string ⟨#[97, 98, 99, 100, 101, 102, 103, 104, 105, 106, 107, 108, 109, 110, 111, 112, 113, 114, 115, 116, 117, 118, 119, 120, 121, 122]⟩) (some (.int .i64 i)) (some (.int .i64 ((i : Int) + 1))) none).run Try.prog w = .ok (.string (bsOf [lc (some i)])) w := by
  intro w
  have e : abc.extract i (i + 1) = bsOf [lc (some i)] := by
    apply ByteArray.ext
    exact abc_one i hi
  have h1 : ((i : Int) + 1) = ((i + 1 : Nat) : Int) := by omega
  have hs : abc.size = 26 := rfl
  rw [h1]
  show (Instr.slice 9 (.string abc) (some (.int .i64 i)) (some (.int .i64 ((i + 1 : Nat) : Int))) none).run Try.prog w = _
  simp only [Instr.slice, run_underlying Try.underlying9, hs, Sem.run_bind, Result.andThen_ok]
  simp [Instr.sliceBounds, Instr.sliceBound, asIntOf, show i + 1 ≤ 26 by omega, e, -Int.natCast_add]
end Go.Proofs.Ytfodgllclopdaaa
