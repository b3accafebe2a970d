/- The mask of a region, of the program and of the reference. -/
import Derived.Test.YtncmnmbapalonaaRows
import Derived.WalkKit
import Derived.ProofKit
import Derived.OpenShut
import Derived.BigQuiet
import Derived.Lib.Hide
import Derived.Deep.QuietTactic
import Derived.Outline
import Derived.Test.YtncmnmbapalonaaRegion
namespace Go.Proofs.Ytncmnmbapalonaa
open Go.ChangeShapes Go.WideShapes Go.ChangeAt Go.RowKit
set_option linter.unusedVariables false
def rowN (rows : List Int) (k : Nat) : Nat := (nth rows k).toNat
/-- the mask of the first k rows -/
def maskTo (W : Nat) (rows : List Int) : Nat → Nat := iter (fun k m => m + shlN (rowN rows k) (mulN k W)) 0
theorem maskTo_succ (W : Nat) (rows : List Int) (k : Nat) : maskTo W rows (k + 1) = maskTo W rows k + shlN (rowN rows k) (mulN k W) := rfl
def maskR (wd : Int) (rows : List Int) : Nat := maskTo wd.toNat rows rows.length
def maskV (wd : Int) (rows : List Int) : Nat := if regB wd rows then maskR wd rows else 0
theorem regB_bd {wd : Int} {rows : List Int} (h : regB wd rows = true) : ∃ W : Nat, wd = W ∧ 1 ≤ W ∧ W ≤ 6 ∧ 1 ≤ rows.length ∧ rows.length ≤ 6 ∧ ∀ k, k < rows.length → nth rows k = (rowN rows k : Nat) ∧ rowN rows k < 2 ^ W := by
  simp only [regB, Bool.and_eq_true, btw_iff] at h
  refine ⟨wd.toNat, by omega, by omega, by omega, by omega, by omega, fun k hk => ?_⟩
  have := allTo_true.1 h.2 k hk
  simp [rowB, shlN] at this
  have h2 : ((2 ^ wd.toNat : Nat) : Int) = 2 ^ wd.toNat := by simp
  refine ⟨by unfold rowN; omega, ?_⟩
  unfold rowN
  omega
theorem maskTo_lt {W : Nat} {rows : List Int} (h : ∀ k, k < rows.length → rowN rows k < 2 ^ W) : ∀ k, k ≤ rows.length → maskTo W rows k < 2 ^ (k * W) := by
  intro k
  induction k with
  | zero => intro _; simp [maskTo, iter]
  | succ k ih =>
    intro hk
    have h1 := ih (by omega)
    have h2 := h k (by omega)
    rw [maskTo_succ, shlN, mulN]
    have e : 2 ^ ((k + 1) * W) = 2 ^ W * 2 ^ (k * W) := by rw [Nat.add_mul, Nat.one_mul, Nat.pow_add, Nat.mul_comm]
    rw [e]
    have h3 : (rowN rows k + 1) * 2 ^ (k * W) ≤ 2 ^ W * 2 ^ (k * W) := Nat.mul_le_mul_right _ h2
    rw [Nat.add_mul, Nat.one_mul] at h3
    omega
theorem maskTo_or {W : Nat} {rows : List Int} (h : ∀ k, k < rows.length → rowN rows k < 2 ^ W) {k : Nat} (hk : k < rows.length) : orN (maskTo W rows k) (shlN (rowN rows k) (mulN k W)) = maskTo W rows (k + 1) := by
  have h1 := maskTo_lt h k (by omega)
  rw [maskTo_succ, orN, shlN, mulN, Nat.mul_comm (rowN rows k), Nat.or_comm, ← Nat.two_pow_add_eq_or_of_lt h1, Nat.add_comm]
theorem pow36 {k W : Nat} (hk : k ≤ 6) (hW : W ≤ 6) : 2 ^ (k * W) ≤ 68719476736 := by
  have : k * W ≤ 36 := Nat.mul_le_mul hk hW
  calc 2 ^ (k * W) ≤ 2 ^ 36 := Nat.pow_le_pow_right (by omega) this
    _ = 68719476736 := by decide
theorem shl_row_lt {r k W : Nat} (hr : r < 2 ^ W) (hk : k < 6) (hW : W ≤ 6) : shlN r (mulN k W) < 68719476736 := by
  have e : 2 ^ ((k + 1) * W) = 2 ^ W * 2 ^ (k * W) := by rw [Nat.add_mul, Nat.one_mul, Nat.pow_add, Nat.mul_comm]
  have h3 : (r + 1) * 2 ^ (k * W) ≤ 2 ^ W * 2 ^ (k * W) := Nat.mul_le_mul_right _ hr
  have h4 := pow36 (k := k + 1) (by omega) hW
  have h5 := Nat.two_pow_pos (k * W)
  rw [Nat.add_mul, Nat.one_mul, ← e] at h3
  unfold shlN mulN
  omega
theorem shlOK_row {r k W : Nat} (hr : r < 2 ^ W) (hk : k < 6) (hW : W ≤ 6) : ShlOK r (mulN k W) :=
  ⟨by have : k * W ≤ 6 * 6 := Nat.mul_le_mul (by omega) hW
      unfold mulN; omega, by have := shl_row_lt hr hk hW; omega⟩
end Go.Proofs.Ytncmnmbapalonaa
