/- Shifts and bit operations on numbers that are not negative. -/
import Derived.Test.YtncmnmbapalonaaGreatRows
import Derived.WalkKit
import Derived.ProofKit
import Derived.OpenShut
import Derived.BigQuiet
import Derived.Lib.Hide
import Derived.Deep.QuietTactic
import Derived.Outline
import Derived.Test.YtncmnmbapalonaaGreatSl
namespace Go.Proofs.YtncmnmbapalonaaGreat
open Go.ChangeShapes Go.WideShapes Go.ChangeAt Go.RowKit
set_option linter.unusedVariables false
def shlN (a k : Nat) : Nat := a * 2 ^ k
def shrN (a k : Nat) : Nat := a / 2 ^ k
def orN (a b : Nat) : Nat := a ||| b
def andN (a b : Nat) : Nat := a &&& b
def butN (a b : Nat) : Nat := a ^^^ (a &&& b)
theorem wrap_nat (a : Nat) (h : a < 9223372036854775808) : IntKind.i64.wrap (a : Int) = a := IntWalk.i64_in _ (by omega)
theorem op_shl (a k : Nat) (yk : IntKind) (hk : k ≤ 64) (h : shlN a k < 9223372036854775808) : Op.shift .shl .i64 (a : Int) yk (k : Int) = pure (.int .i64 (shlN a k : Nat)) := by
  have e : ((a : Int) * 2 ^ (k : Int).toNat) = ((shlN a k : Nat) : Int) := by simp [shlN]
  have h1 : ¬ ((k : Int) < 0) := by omega
  have h2 : min (k : Int).toNat IntKind.i64.bits = (k : Int).toNat := by simp [IntKind.bits]; omega
  unfold Op.shift
  rw [if_neg h1, h2]
  show pure (Value.int IntKind.i64 (IntKind.i64.wrap ((a : Int) * 2 ^ (k : Int).toNat))) = _
  rw [e, wrap_nat _ h]
theorem op_shr (a k : Nat) (yk : IntKind) (hk : k ≤ 64) : Op.shift .shr .i64 (a : Int) yk (k : Int) = pure (.int .i64 (shrN a k : Nat)) := by
  have h1 : ¬ ((k : Int) < 0) := by omega
  have h2 : min (k : Int).toNat IntKind.i64.bits = k := by simp [IntKind.bits]; omega
  unfold Op.shift
  rw [if_neg h1, h2]
  show pure (Value.int IntKind.i64 ((a : Int).fdiv (2 ^ k))) = _
  have e : (a : Int).fdiv (2 ^ k) = ((shrN a k : Nat) : Int) := by
    rw [Int.fdiv_eq_ediv_of_nonneg _ (by exact_mod_cast Nat.zero_le _)]
    simp [shrN]
  rw [e]
theorem ofNat_bits (a : Nat) (h : a < 9223372036854775808) : (BitVec.ofInt IntKind.i64.bits (a : Int)).toNat = a := by
  show (BitVec.ofInt 64 (a : Int)).toNat = a
  rw [BitVec.ofInt_natCast, BitVec.toNat_ofNat, Nat.mod_eq_of_lt (by omega)]
theorem and_lt (a b : Nat) (h : a < 9223372036854775808) : andN a b < 9223372036854775808 := Nat.lt_of_le_of_lt Nat.and_le_left h
theorem or_lt (a b : Nat) (h : a < 9223372036854775808) (h' : b < 9223372036854775808) : orN a b < 9223372036854775808 := Nat.or_lt_two_pow (n := 63) h h'
theorem but_lt (a b : Nat) (h : a < 9223372036854775808) : butN a b < 9223372036854775808 := Nat.xor_lt_two_pow (n := 63) h (and_lt a b h)
theorem op_or (a b : Nat) (h : a < 9223372036854775808) (h' : b < 9223372036854775808) : Op.intBits .or .i64 (a : Int) (b : Int) = pure (.int .i64 (orN a b : Nat)) := by
  unfold Op.intBits
  simp only [BitVec.toNat_or, ofNat_bits a h, ofNat_bits b h']
  show pure (Value.int IntKind.i64 (IntKind.i64.wrap ((orN a b : Nat) : Int))) = _
  rw [wrap_nat _ (or_lt a b h h')]
theorem op_and (a b : Nat) (h : a < 9223372036854775808) (h' : b < 9223372036854775808) : Op.intBits .and .i64 (a : Int) (b : Int) = pure (.int .i64 (andN a b : Nat)) := by
  unfold Op.intBits
  simp only [BitVec.toNat_and, ofNat_bits a h, ofNat_bits b h']
  show pure (Value.int IntKind.i64 (IntKind.i64.wrap ((andN a b : Nat) : Int))) = _
  rw [wrap_nat _ (and_lt a b h)]
theorem but_bits (a b : Nat) (h : a < 9223372036854775808) (h' : b < 9223372036854775808) : (BitVec.ofInt IntKind.i64.bits (a : Int) &&& ~~~ BitVec.ofInt IntKind.i64.bits (b : Int)).toNat = butN a b := by
  apply Nat.eq_of_testBit_eq
  intro i
  show (BitVec.ofInt 64 (a : Int) &&& ~~~ BitVec.ofInt 64 (b : Int)).getLsbD i = _
  have ha : (BitVec.ofInt 64 (a : Int)).getLsbD i = a.testBit i := congrArg (fun n => Nat.testBit n i) (ofNat_bits a h)
  have hb : (BitVec.ofInt 64 (b : Int)).getLsbD i = b.testBit i := congrArg (fun n => Nat.testBit n i) (ofNat_bits b h')
  rw [BitVec.getLsbD_and, BitVec.getLsbD_not, ha, hb, butN, Nat.testBit_xor, Nat.testBit_and]
  by_cases hi : i < 64
  · cases a.testBit i <;> cases b.testBit i <;> simp [hi]
  · have : a.testBit i = false := Nat.testBit_lt_two_pow (Nat.lt_of_lt_of_le h (by exact Nat.pow_le_pow_right (n := 2) (by omega) (show 63 ≤ i by omega)))
    simp [this]
theorem op_but (a b : Nat) (h : a < 9223372036854775808) (h' : b < 9223372036854775808) : Op.intBits .andNot .i64 (a : Int) (b : Int) = pure (.int .i64 (butN a b : Nat)) := by
  unfold Op.intBits
  simp only [but_bits a b h h', wrap_nat _ (but_lt a b h)]
theorem bit_of (m k : Nat) : andN (shrN m k) 1 = if m.testBit k then 1 else 0 := by
  rw [andN, shrN, Nat.and_one_is_mod, ← Nat.shiftRight_eq_div_pow, Nat.testBit_eq_decide_div_mod_eq, Nat.shiftRight_eq_div_pow]
  have := Nat.mod_two_eq_zero_or_one (m / 2 ^ k)
  rcases this with e | e <;> simp [e]
theorem bit_test (m k : Nat) : (((andN (shrN m k) 1 : Nat) : Int) == 1) = m.testBit k := by
  rw [bit_of]
  cases m.testBit k <;> rfl
theorem bit_test0 (m k : Nat) : (((andN (shrN m k) 1 : Nat) : Int) == 0) = !m.testBit k := by
  rw [bit_of]
  cases m.testBit k <;> rfl
theorem shr_zero (m k : Nat) : (((shrN m k : Nat) : Int) != 0) = !decide (m < 2 ^ k) := by
  have : shrN m k = 0 ↔ m < 2 ^ k := Nat.div_eq_zero_iff_lt (Nat.two_pow_pos k)
  by_cases h : m < 2 ^ k
  · have h2 := this.2 h
    simp [h2, h]
  · have h2 : ¬ shrN m k = 0 := fun e => h (this.1 e)
    simp [h2, h]
/-! the walk's own rules, ahead of the kit's -/
class Lt63 (a : Nat) : Prop where
  lt : a < 9223372036854775808
class ShlOK (a k : Nat) : Prop where
  le : k ≤ 64
  lt : shlN a k < 9223372036854775808
class Le64 (k : Nat) : Prop where
  le : k ≤ 64
class Le6 (k : Nat) : Prop where
  le : k ≤ 6
instance lt63_one : Lt63 1 := ⟨by omega⟩
instance lt63_zero : Lt63 0 := ⟨by omega⟩
instance lt63_and (a b : Nat) [h : Lt63 a] : Lt63 (andN a b) := ⟨and_lt a b h.lt⟩
instance lt63_but (a b : Nat) [h : Lt63 a] : Lt63 (butN a b) := ⟨but_lt a b h.lt⟩
instance lt63_or (a b : Nat) [h : Lt63 a] [h' : Lt63 b] : Lt63 (orN a b) := ⟨or_lt a b h.lt h'.lt⟩
instance lt63_shr (a k : Nat) [h : Lt63 a] : Lt63 (shrN a k) := ⟨Nat.lt_of_le_of_lt (Nat.div_le_self _ _) h.lt⟩
instance lt63_shl (a k : Nat) [h : ShlOK a k] : Lt63 (shlN a k) := ⟨h.lt⟩
@[go_sem ↓ 20000] theorem w_shl (a k : Nat) (yk : IntKind) [h : ShlOK a k] : Op.shift .shl .i64 (a : Int) yk (k : Int) = pure (.int .i64 (shlN a k : Nat)) := op_shl a k yk h.le h.lt
@[go_sem ↓ 20000] theorem w_shl1 (k : Nat) (yk : IntKind) [h : ShlOK 1 k] : Op.shift .shl .i64 (1 : Int) yk (k : Int) = pure (.int .i64 (shlN 1 k : Nat)) := op_shl 1 k yk h.le h.lt
@[go_sem ↓ 20000] theorem w_shr (a k : Nat) (yk : IntKind) [h : Le64 k] : Op.shift .shr .i64 (a : Int) yk (k : Int) = pure (.int .i64 (shrN a k : Nat)) := op_shr a k yk h.le
@[go_sem 20000] theorem w_or (a b : Nat) [h : Lt63 a] [h' : Lt63 b] : Op.intBits .or .i64 (a : Int) (b : Int) = pure (.int .i64 (orN a b : Nat)) := op_or a b h.lt h'.lt
@[go_sem 20000] theorem w_and (a b : Nat) [h : Lt63 a] [h' : Lt63 b] : Op.intBits .and .i64 (a : Int) (b : Int) = pure (.int .i64 (andN a b : Nat)) := op_and a b h.lt h'.lt
@[go_sem 20000] theorem w_and1 (a : Nat) [h : Lt63 a] : Op.intBits .and .i64 (a : Int) (1 : Int) = pure (.int .i64 (andN a 1 : Nat)) := op_and a 1 h.lt (by omega)
@[go_sem 20000] theorem w_but (a b : Nat) [h : Lt63 a] [h' : Lt63 b] : Op.intBits .andNot .i64 (a : Int) (b : Int) = pure (.int .i64 (butN a b : Nat)) := op_but a b h.lt h'.lt
@[go_sem 20000] theorem w_bit (m k : Nat) : (((andN (shrN m k) 1 : Nat) : Int) == 1) = m.testBit k := bit_test m k
@[go_sem 20000] theorem w_bit0 (m k : Nat) : (((andN (shrN m k) 1 : Nat) : Int) == 0) = !m.testBit k := bit_test0 m k
instance shlOK_one6 (W : Nat) [h : Le6 W] : ShlOK 1 W := ⟨by have := h.le; omega, by
  have : shlN 1 W ≤ 2 ^ 6 := by rw [shlN, Nat.one_mul]; exact Nat.pow_le_pow_right (by omega) h.le
  omega⟩
def mulN (a b : Nat) : Nat := a * b
def addN (a b : Nat) : Nat := a + b
class MulOK (a b : Nat) : Prop where
  lt : a * b < 9223372036854775808
class AddOK (a b : Nat) : Prop where
  lt : a + b < 9223372036854775808
@[go_sem ↓ 20000] theorem w_mul (a b : Nat) [h : MulOK a b] : Op.intArith .mul .i64 (a : Int) (b : Int) = pure (.int .i64 (mulN a b : Nat)) := by
  show pure (Value.int IntKind.i64 (IntKind.i64.wrap ((a : Int) * (b : Int)))) = _
  rw [← Int.natCast_mul, wrap_nat _ h.lt]; rfl
@[go_sem ↓ 20000] theorem w_add (a b : Nat) [h : AddOK a b] : Op.intArith .add .i64 (a : Int) (b : Int) = pure (.int .i64 (addN a b : Nat)) := by
  show pure (Value.int IntKind.i64 (IntKind.i64.wrap ((a : Int) + (b : Int)))) = _
  rw [← Int.natCast_add, wrap_nat _ h.lt]; rfl
instance mulOK6 (a b : Nat) [h : Le6 a] [h' : Le6 b] : MulOK a b := ⟨Nat.lt_of_le_of_lt (Nat.mul_le_mul h.le h'.le) (by omega)⟩
end Go.Proofs.YtncmnmbapalonaaGreat
