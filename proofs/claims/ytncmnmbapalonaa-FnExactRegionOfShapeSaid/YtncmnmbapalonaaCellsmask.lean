/- MaskOfCells of the program and of the reference. -/
import Derived.Test.YtncmnmbapalonaaRows
import Derived.WalkKit
import Derived.ProofKit
import Derived.OpenShut
import Derived.BigQuiet
import Derived.Lib.Hide
import Derived.Deep.QuietTactic
import Derived.Outline
import Derived.Test.YtncmnmbapalonaaHas
import Derived.Test.YtncmnmbapalonaaCells
import Derived.Test.YtncmnmbapalonaaDivops
import Derived.Test.YtncmnmbapalonaaCopyregion
namespace Go.Proofs.Ytncmnmbapalonaa
open Go.ChangeShapes Go.WideShapes Go.ChangeAt Go.RowKit
set_option linter.unusedVariables false
theorem add_or {n k : Nat} (h : n.testBit k = false) : n + 2 ^ k = n ||| 2 ^ k := by
  have hr : n % 2 ^ (k + 1) < 2 ^ k := by
    rw [Nat.testBit_eq_decide_div_mod_eq, decide_eq_false_iff_not] at h
    have h1 : n / 2 ^ k % 2 = 0 := by omega
    rw [Nat.pow_succ, Nat.mod_mul, h1]
    have := Nat.mod_lt n (Nat.two_pow_pos k)
    omega
  have e0 := Nat.div_add_mod n (2 ^ (k + 1))
  have h1 := Nat.two_pow_add_eq_or_of_lt (i := k) hr 1
  have h2 := Nat.two_pow_add_eq_or_of_lt (i := k + 1) (Nat.mod_lt n (Nat.two_pow_pos _)) (n / 2 ^ (k + 1))
  have hlt : 2 ^ k * 1 + n % 2 ^ (k + 1) < 2 ^ (k + 1) := by rw [Nat.pow_succ]; rw [Nat.pow_succ] at hr; omega
  have h3 := Nat.two_pow_add_eq_or_of_lt (i := k + 1) hlt (n / 2 ^ (k + 1))
  rw [Nat.mul_one] at h1 h3
  generalize 2 ^ (k + 1) * (n / 2 ^ (k + 1)) = q at e0 h2 h3
  generalize n % 2 ^ (k + 1) = r at e0 h1 h2 h3
  have e1 : n + 2 ^ k = q + (2 ^ k + r) := by omega
  rw [e1, h3, h1, Nat.or_comm (2 ^ k), ← Nat.or_assoc, ← h2, e0]
theorem addN_or {n k : Nat} (h : n.testBit k = false) : addN n (shlN 1 k) = orN n (shlN 1 k) := by
  unfold addN orN shlN; rw [Nat.one_mul]; exact add_or h
def moStep (W : Nat) (rows : List Int) (n : Nat) (x y : Int) : Option Nat :=
  if hasB W rows x y && !n.testBit (addN (mulN y.toNat W) x.toNat) then some (orN n (shlN 1 (addN (mulN y.toNat W) x.toNat))) else none
def moTo (W : Nat) (rows : List Int) (cs : List (Int × Int)) : Nat → Option Nat := iter (fun i s => s.bind fun n => moStep W rows n (cx cs i) (cy cs i)) (some 0)
theorem moTo_succ {W : Nat} {rows : List Int} {cs : List (Int × Int)} {k n : Nat} (h : moTo W rows cs k = some n) : moTo W rows cs (k + 1) = moStep W rows n (cx cs k) (cy cs k) := by
  show (moTo W rows cs k).bind _ = _
  rw [h]; rfl
theorem moTo_none {W : Nat} {rows : List Int} {cs : List (Int × Int)} {k : Nat} (h : moTo W rows cs k = none) : ∀ d, moTo W rows cs (k + d) = none := by
  intro d
  induction d with
  | zero => exact h
  | succ d ih => show (moTo W rows cs (k + d)).bind _ = _; rw [ih]; rfl
def moV (wd : Int) (rows : List Int) (cs : List (Int × Int)) : Option Nat := if regB wd rows then moTo wd.toNat rows cs cs.length else none
theorem moV_no {wd : Int} {rows : List Int} {cs : List (Int × Int)} (h : regB wd rows = false) : moV wd rows cs = none := by simp [moV, h]
theorem moV_yes {W : Nat} {rows : List Int} {cs : List (Int × Int)} (h : regB W rows = true) : moV W rows cs = moTo W rows cs cs.length := by simp [moV, h]
theorem moV_cut {W : Nat} {rows : List Int} {cs : List (Int × Int)} {k n : Nat} (h : regB W rows = true) (hk : k < cs.length) (hn : moTo W rows cs k = some n) (hs : moStep W rows n (cx cs k) (cy cs k) = none) : moV W rows cs = none := by
  rw [moV_yes h]
  have := moTo_none ((moTo_succ hn).trans hs) (cs.length - (k + 1))
  rwa [show k + 1 + (cs.length - (k + 1)) = cs.length by omega] at this
theorem moStep_has {W : Nat} {rows : List Int} {n : Nat} {x y : Int} (h : hasB W rows x y = false) : moStep W rows n x y = none := by simp [moStep, h]
theorem moStep_bit {W : Nat} {rows : List Int} {n X Y : Nat} (h : n.testBit (addN (mulN Y W) X) = true) : moStep W rows n X Y = none := by simp [moStep, h]
theorem moStep_yes {W : Nat} {rows : List Int} {n X Y : Nat} (h : hasB W rows X Y = true) (h2 : n.testBit (addN (mulN Y W) X) = false) : moStep W rows n X Y = some (orN n (shlN 1 (addN (mulN Y W) X))) := by simp [moStep, h, h2]
theorem hasB_nat {W : Nat} {rows : List Int} {x y : Int} (h : hasB W rows x y = true) : ∃ X Y : Nat, x = X ∧ y = Y ∧ X < W ∧ Y < rows.length := by
  simp only [hasB, Bool.and_eq_true, btw_iff] at h
  exact ⟨x.toNat, y.toNat, by omega, by omega, by omega, by omega⟩
theorem spot_36 {W X Y H : Nat} (hW : W ≤ 6) (hH : H ≤ 6) (hx : X < W) (hy : Y < H) : addN (mulN Y W) X < 36 := by
  have : Y * W ≤ 5 * 6 := Nat.mul_le_mul (by omega) hW
  have : (Y + 1) * W ≤ 6 * 6 := Nat.mul_le_mul (by omega) hW
  rw [Nat.add_mul] at this
  unfold addN mulN; omega
theorem moTo_lt {W : Nat} {rows : List Int} {cs : List (Int × Int)} (hW : W ≤ 6) (hH : rows.length ≤ 6) : ∀ k n, moTo W rows cs k = some n → n < 2 ^ 36 := by
  intro k
  induction k with
  | zero => intro n h; simp [moTo, iter] at h; subst h; decide
  | succ k ih =>
    intro n h
    cases hk : moTo W rows cs k with
    | none => have := moTo_none hk 1; rw [this] at h; cases h
    | some m =>
      rw [moTo_succ hk] at h
      have hm := ih m hk
      cases hh : hasB W rows (cx cs k) (cy cs k)
      · rw [moStep_has hh] at h; cases h
      · obtain ⟨X, Y, e1, e2, hX, hY⟩ := hasB_nat hh
        rw [e1, e2] at h hh
        cases hb : m.testBit (addN (mulN Y W) X)
        · rw [moStep_yes hh hb] at h
          simp only [Option.some.injEq] at h
          rw [← h, orN, shlN, Nat.one_mul]
          exact Nat.or_lt_two_pow hm (Nat.pow_lt_pow_right (by omega) (spot_36 hW hH hX hY))
        · rw [moStep_bit hb] at h; cases h
/-- a number and a truth value -/
def MoPost (w : World) (r : Option Nat) (e : Ending) (w' : World) : Prop := e = .returned (.tuple #[.int .i64 ((r.getD 0 : Nat) : Int), .bool r.isSome]) ∧ ∃ x, w' = ext w x
theorem MoPost.none {w w' : World} {r : Option Nat} (h : r = .none) (hx : ∃ x, w' = ext w x) : MoPost w r (.returned (.tuple #[.int .i64 0, .bool false])) w' := by subst h; exact ⟨rfl, hx⟩
theorem MoPost.some {w w' : World} {r : Option Nat} {n : Nat} (h : r = .some n) (hx : ∃ x, w' = ext w x) : MoPost w r (.returned (.tuple #[.int .i64 (n : Int), .bool true])) w' := by subst h; exact ⟨rfl, hx⟩
theorem shl_spot {k : Nat} (h : k < 36) : ShlOK 1 k := ⟨by omega, by
  rw [shlN, Nat.one_mul]
  have := Nat.pow_le_pow_right (n := 2) (by omega) (show k ≤ 36 by omega)
  omega⟩
theorem cnt_zero : ((0 : Nat) : Int) = 0 := rfl
end Go.Proofs.Ytncmnmbapalonaa
