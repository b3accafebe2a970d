/- Part 4 of a proof: bitops, search, region, mask, has, srch, zeros. -/
import Derived.Test.YtmehmpammjcnkabGreatRows
import Derived.WalkKit
import Derived.ProofKit
import Derived.OpenShut
import Derived.BigQuiet
import Derived.Lib.Hide
import Derived.Deep.QuietTactic
import Derived.Outline
import Derived.Shelf.Spec.TrailingZeros
import Derived.Test.YtmehmpammjcnkabGreatMg1
import Derived.Test.YtmehmpammjcnkabGreatMg2
import Derived.Test.YtmehmpammjcnkabGreatMg3
namespace Go.Proofs.YtmehmpammjcnkabGreat
set_option linter.unusedVariables false
section
open Go.ChangeShapes Go.WideShapes Go.ChangeAt Go.RowKit
def shlN (a k : Nat) : Nat := a * 2 ^ k
def shrN (a k : Nat) : Nat := a / 2 ^ k
def orN (a b : Nat) : Nat := a ||| b
def andN (a b : Nat) : Nat := a &&& b
def butN (a b : Nat) : Nat := a ^^^ (a &&& b)
theorem wrap_nat (a : Nat) (h : a < 9223372036854775808) : IntKind.i64.wrap (a : Int) = a := IntWalk.i64_in _ (by omega)
theorem op_shl (a k : Nat) (yk : IntKind) (hk : k ≤ 64) (h : shlN a k < 9223372036854775808) : Op.shift .shl .i64 (a : Int) yk (k : Int) = pure (.int .i64 (shlN a k : Nat)) := by
  have e : ((a : Int) * 2 ^ (k : Int).toNat) = ((shlN a k : Nat) : Int) := by simp [shlN]
  have h1 : ¬ ((k : Int) < 0) := by omega
  have h2 : min (k : Int).toNat IntKind.i64.bits = (k : Int).toNat := by simp [IntKind.bits]; omega
  unfold Op.shift
  rw [if_neg h1, h2]
  show pure (Value.int IntKind.i64 (IntKind.i64.wrap ((a : Int) * 2 ^ (k : Int).toNat))) = _
  rw [e, wrap_nat _ h]
theorem op_shr (a k : Nat) (yk : IntKind) (hk : k ≤ 64) : Op.shift .shr .i64 (a : Int) yk (k : Int) = pure (.int .i64 (shrN a k : Nat)) := by
  have h1 : ¬ ((k : Int) < 0) := by omega
  have h2 : min (k : Int).toNat IntKind.i64.bits = k := by simp [IntKind.bits]; omega
  unfold Op.shift
  rw [if_neg h1, h2]
  show pure (Value.int IntKind.i64 ((a : Int).fdiv (2 ^ k))) = _
  have e : (a : Int).fdiv (2 ^ k) = ((shrN a k : Nat) : Int) := by
    rw [Int.fdiv_eq_ediv_of_nonneg _ (by exact_mod_cast Nat.zero_le _)]
    simp [shrN]
  rw [e]
theorem ofNat_bits (a : Nat) (h : a < 9223372036854775808) : (BitVec.ofInt IntKind.i64.bits (a : Int)).toNat = a := by
  show (BitVec.ofInt 64 (a : Int)).toNat = a
  rw [BitVec.ofInt_natCast, BitVec.toNat_ofNat, Nat.mod_eq_of_lt (by omega)]
theorem and_lt (a b : Nat) (h : a < 9223372036854775808) : andN a b < 9223372036854775808 := Nat.lt_of_le_of_lt Nat.and_le_left h
theorem or_lt (a b : Nat) (h : a < 9223372036854775808) (h' : b < 9223372036854775808) : orN a b < 9223372036854775808 := Nat.or_lt_two_pow (n := 63) h h'
theorem but_lt (a b : Nat) (h : a < 9223372036854775808) : butN a b < 9223372036854775808 := Nat.xor_lt_two_pow (n := 63) h (and_lt a b h)
theorem op_or (a b : Nat) (h : a < 9223372036854775808) (h' : b < 9223372036854775808) : Op.intBits .or .i64 (a : Int) (b : Int) = pure (.int .i64 (orN a b : Nat)) := by
  unfold Op.intBits
  simp only [BitVec.toNat_or, ofNat_bits a h, ofNat_bits b h']
  show pure (Value.int IntKind.i64 (IntKind.i64.wrap ((orN a b : Nat) : Int))) = _
  rw [wrap_nat _ (or_lt a b h h')]
theorem op_and (a b : Nat) (h : a < 9223372036854775808) (h' : b < 9223372036854775808) : Op.intBits .and .i64 (a : Int) (b : Int) = pure (.int .i64 (andN a b : Nat)) := by
  unfold Op.intBits
  simp only [BitVec.toNat_and, ofNat_bits a h, ofNat_bits b h']
  show pure (Value.int IntKind.i64 (IntKind.i64.wrap ((andN a b : Nat) : Int))) = _
  rw [wrap_nat _ (and_lt a b h)]
theorem but_bits (a b : Nat) (h : a < 9223372036854775808) (h' : b < 9223372036854775808) : (BitVec.ofInt IntKind.i64.bits (a : Int) &&& ~~~ BitVec.ofInt IntKind.i64.bits (b : Int)).toNat = butN a b := by
  apply Nat.eq_of_testBit_eq
  intro i
  show (BitVec.ofInt 64 (a : Int) &&& ~~~ BitVec.ofInt 64 (b : Int)).getLsbD i = _
  have ha : (BitVec.ofInt 64 (a : Int)).getLsbD i = a.testBit i := congrArg (fun n => Nat.testBit n i) (ofNat_bits a h)
  have hb : (BitVec.ofInt 64 (b : Int)).getLsbD i = b.testBit i := congrArg (fun n => Nat.testBit n i) (ofNat_bits b h')
  rw [BitVec.getLsbD_and, BitVec.getLsbD_not, ha, hb, butN, Nat.testBit_xor, Nat.testBit_and]
  by_cases hi : i < 64
  · cases a.testBit i <;> cases b.testBit i <;> simp [hi]
  · have : a.testBit i = false := Nat.testBit_lt_two_pow (Nat.lt_of_lt_of_le h (by exact Nat.pow_le_pow_right (n := 2) (by omega) (show 63 ≤ i by omega)))
    simp [this]
theorem op_but (a b : Nat) (h : a < 9223372036854775808) (h' : b < 9223372036854775808) : Op.intBits .andNot .i64 (a : Int) (b : Int) = pure (.int .i64 (butN a b : Nat)) := by
  unfold Op.intBits
  simp only [but_bits a b h h', wrap_nat _ (but_lt a b h)]
theorem bit_of (m k : Nat) : andN (shrN m k) 1 = if m.testBit k then 1 else 0 := by
  rw [andN, shrN, Nat.and_one_is_mod, ← Nat.shiftRight_eq_div_pow, Nat.testBit_eq_decide_div_mod_eq, Nat.shiftRight_eq_div_pow]
  have := Nat.mod_two_eq_zero_or_one (m / 2 ^ k)
  rcases this with e | e <;> simp [e]
theorem bit_test (m k : Nat) : (((andN (shrN m k) 1 : Nat) : Int) == 1) = m.testBit k := by
  rw [bit_of]
  cases m.testBit k <;> rfl
theorem bit_test0 (m k : Nat) : (((andN (shrN m k) 1 : Nat) : Int) == 0) = !m.testBit k := by
  rw [bit_of]
  cases m.testBit k <;> rfl
theorem shr_zero (m k : Nat) : (((shrN m k : Nat) : Int) != 0) = !decide (m < 2 ^ k) := by
  have : shrN m k = 0 ↔ m < 2 ^ k := Nat.div_eq_zero_iff_lt (Nat.two_pow_pos k)
  by_cases h : m < 2 ^ k
  · have h2 := this.2 h
    simp [h2, h]
  · have h2 : ¬ shrN m k = 0 := fun e => h (this.1 e)
    simp [h2, h]
/-! the walk's own rules, ahead of the kit's -/
class Lt63 (a : Nat) : Prop where
  lt : a < 9223372036854775808
class ShlOK (a k : Nat) : Prop where
  le : k ≤ 64
  lt : shlN a k < 9223372036854775808
class Le64 (k : Nat) : Prop where
  le : k ≤ 64
class Le6 (k : Nat) : Prop where
  le : k ≤ 6
instance lt63_one : Lt63 1 := ⟨by omega⟩
instance lt63_zero : Lt63 0 := ⟨by omega⟩
instance lt63_and (a b : Nat) [h : Lt63 a] : Lt63 (andN a b) := ⟨and_lt a b h.lt⟩
instance lt63_but (a b : Nat) [h : Lt63 a] : Lt63 (butN a b) := ⟨but_lt a b h.lt⟩
instance lt63_or (a b : Nat) [h : Lt63 a] [h' : Lt63 b] : Lt63 (orN a b) := ⟨or_lt a b h.lt h'.lt⟩
instance lt63_shr (a k : Nat) [h : Lt63 a] : Lt63 (shrN a k) := ⟨Nat.lt_of_le_of_lt (Nat.div_le_self _ _) h.lt⟩
instance lt63_shl (a k : Nat) [h : ShlOK a k] : Lt63 (shlN a k) := ⟨h.lt⟩
@[go_sem ↓ 20000] theorem w_shl (a k : Nat) (yk : IntKind) [h : ShlOK a k] : Op.shift .shl .i64 (a : Int) yk (k : Int) = pure (.int .i64 (shlN a k : Nat)) := op_shl a k yk h.le h.lt
@[go_sem ↓ 20000] theorem w_shl1 (k : Nat) (yk : IntKind) [h : ShlOK 1 k] : Op.shift .shl .i64 (1 : Int) yk (k : Int) = pure (.int .i64 (shlN 1 k : Nat)) := op_shl 1 k yk h.le h.lt
@[go_sem ↓ 20000] theorem w_shr (a k : Nat) (yk : IntKind) [h : Le64 k] : Op.shift .shr .i64 (a : Int) yk (k : Int) = pure (.int .i64 (shrN a k : Nat)) := op_shr a k yk h.le
@[go_sem 20000] theorem w_or (a b : Nat) [h : Lt63 a] [h' : Lt63 b] : Op.intBits .or .i64 (a : Int) (b : Int) = pure (.int .i64 (orN a b : Nat)) := op_or a b h.lt h'.lt
@[go_sem 20000] theorem w_and (a b : Nat) [h : Lt63 a] [h' : Lt63 b] : Op.intBits .and .i64 (a : Int) (b : Int) = pure (.int .i64 (andN a b : Nat)) := op_and a b h.lt h'.lt
@[go_sem 20000] theorem w_and1 (a : Nat) [h : Lt63 a] : Op.intBits .and .i64 (a : Int) (1 : Int) = pure (.int .i64 (andN a 1 : Nat)) := op_and a 1 h.lt (by omega)
@[go_sem 20000] theorem w_but (a b : Nat) [h : Lt63 a] [h' : Lt63 b] : Op.intBits .andNot .i64 (a : Int) (b : Int) = pure (.int .i64 (butN a b : Nat)) := op_but a b h.lt h'.lt
@[go_sem 20000] theorem w_bit (m k : Nat) : (((andN (shrN m k) 1 : Nat) : Int) == 1) = m.testBit k := bit_test m k
@[go_sem 20000] theorem w_bit0 (m k : Nat) : (((andN (shrN m k) 1 : Nat) : Int) == 0) = !m.testBit k := bit_test0 m k
instance shlOK_one6 (W : Nat) [h : Le6 W] : ShlOK 1 W := ⟨by have := h.le; omega, by
  have : shlN 1 W ≤ 2 ^ 6 := by rw [shlN, Nat.one_mul]; exact Nat.pow_le_pow_right (by omega) h.le
  omega⟩
def mulN (a b : Nat) : Nat := a * b
def addN (a b : Nat) : Nat := a + b
class MulOK (a b : Nat) : Prop where
  lt : a * b < 9223372036854775808
class AddOK (a b : Nat) : Prop where
  lt : a + b < 9223372036854775808
@[go_sem ↓ 20000] theorem w_mul (a b : Nat) [h : MulOK a b] : Op.intArith .mul .i64 (a : Int) (b : Int) = pure (.int .i64 (mulN a b : Nat)) := by
  show pure (Value.int IntKind.i64 (IntKind.i64.wrap ((a : Int) * (b : Int)))) = _
  rw [← Int.natCast_mul, wrap_nat _ h.lt]; rfl
@[go_sem ↓ 20000] theorem w_add (a b : Nat) [h : AddOK a b] : Op.intArith .add .i64 (a : Int) (b : Int) = pure (.int .i64 (addN a b : Nat)) := by
  show pure (Value.int IntKind.i64 (IntKind.i64.wrap ((a : Int) + (b : Int)))) = _
  rw [← Int.natCast_add, wrap_nat _ h.lt]; rfl
instance mulOK6 (a b : Nat) [h : Le6 a] [h' : Le6 b] : MulOK a b := ⟨Nat.lt_of_le_of_lt (Nat.mul_le_mul h.le h'.le) (by omega)⟩
end
section
open Go.ChangeShapes Go.WideShapes Go.ChangeAt Go.RowKit
set_option maxHeartbeats 1000000 in
theorem search_any (f : Nat) (cb : Array Value) (n : Nat) (hn : n ≤ 1000) (p : Nat → Bool) (w : World) (eg : ∀ args w, (callFunc f args).run Tryz.prog w = .ok (.enter f args) w)
    (hf : ∀ w', (∃ x, w' = ext w x) → ∀ i : Nat, i < n → Calls Tryz.prog f (#[.int .i64 i] ++ cb) w' fun e w'' => e = .returned (.bool (p i)) ∧ ∃ x, w'' = ext w' x) (hmono : ∀ a b, a ≤ b → b < n → p a = true → p b = true) :
    Calls Tryz.prog 81 #[.int .i64 n, .func (.func f) #[] cb] w fun e w' => ∃ k : Nat, e = .returned (.int .i64 k) ∧ k ≤ n ∧ (∀ i, i < k → p i = false) ∧ (∀ i, k ≤ i → i < n → p i = true) ∧ ∃ x, w' = ext w x := by
  have HF := Lib.hid hf
  have HM := Lib.hid hmono
  clear hf hmono
  go_enter Tryz.func81, Tryz.ntmps81
  go_wp2_with fail
  go_loopw [5, 6] (fun ui uj wr => ∃ i j : Nat, ui = .int .i64 i ∧ uj = .int .i64 j ∧ i ≤ j ∧ j ≤ n ∧ (∀ q, q < i → p q = false) ∧ (∀ q, j ≤ q → q < n → p q = true) ∧ ∃ x, wr = ext w x) (fun ui uj _ => (intOf uj).toNat - (intOf ui).toNat)
  case atStart => exact ⟨0, n, rfl, rfl, Nat.zero_le _, Nat.le_refl _, fun q hq => by omega, fun q h1 h2 => by omega, (by repeat (first | exact ext_refl _ | (with_reducible assumption) | refine ext_ext' ?_ _ | refine ext_alloc' ?_ _ | refine ext_drew' ?_))⟩
  case round =>
    obtain ⟨i, j, rfl, rfl, hij, hjn, hlo, hhi, x, rfl⟩ := hrel
    have HL := Lib.hid hlo
    have HH := Lib.hid hhi
    clear hlo hhi
    by_cases hlt : i < j
    · obtain ⟨h, hh⟩ : ∃ h, (i + j) / 2 = h := ⟨_, rfl⟩
      have hc := HF.out (ext w x) (by repeat (first | exact ext_refl _ | (with_reducible assumption) | refine ext_ext' ?_ _ | refine ext_alloc' ?_ _ | refine ext_drew' ?_)) h (by omega)
      have h2 : ((i : Int) + j) / 2 = (h : Int) := by omega
      cases hp : p h
      · rw [hp] at hc
        have HC := Lib.hid hc
        have HP := Lib.hid hp
        clear hc hp
        go_wp2_with fail
        refine HC.out.mono ?_
        rintro e w' ⟨rfl, xe, rfl⟩
        go_wp2_with fail
        go_roundw
        case rel =>
          refine ⟨h + 1, j, int_succ h, rfl, by omega, hjn, fun q hq => ?_, HH.out, (by repeat (first | exact ext_refl _ | (with_reducible assumption) | refine ext_ext' ?_ _ | refine ext_alloc' ?_ _ | refine ext_drew' ?_))⟩
          cases hpq : p q
          · rfl
          · have := HM.out q h (by omega) (by omega) hpq
            rw [HP.out] at this; cases this
        case measure => simp [intOf]; omega
      · rw [hp] at hc
        have HC := Lib.hid hc
        have HP := Lib.hid hp
        clear hc hp
        go_wp2_with fail
        refine HC.out.mono ?_
        rintro e w' ⟨rfl, xe, rfl⟩
        go_wp2_with fail
        go_roundw
        case rel => exact ⟨i, h, rfl, rfl, by omega, by omega, HL.out, fun q h1 h2 => HM.out h q h1 h2 HP.out, (by repeat (first | exact ext_refl _ | (with_reducible assumption) | refine ext_ext' ?_ _ | refine ext_alloc' ?_ _ | refine ext_drew' ?_))⟩
        case measure => simp [intOf]; omega
    · have HK := Lib.hid (show i = j by omega)
      go_wp2_with fail
      go_ret
      exact ⟨i, rfl, by omega, HL.out, fun q h1 h2 => HH.out q (by have := HK.out; omega) h2, (by repeat (first | exact ext_refl _ | (with_reducible assumption) | refine ext_ext' ?_ _ | refine ext_alloc' ?_ _ | refine ext_drew' ?_))⟩
end
section
open Go.ChangeShapes Go.WideShapes Go.ChangeAt Go.RowKit
def rowB (wd x : Int) : Bool := decide (0 ≤ x) && decide (x < (shlN 1 wd.toNat : Nat))
def regB (wd : Int) (rows : List Int) : Bool := btw wd 1 6 && btw rows.length 1 6 && allTo (fun k => rowB wd (nth rows k)) rows.length
theorem regB_w {wd : Int} {rows : List Int} (h : btw wd 1 6 = false) : regB wd rows = false := by simp [regB, h]
theorem regB_h {wd : Int} {rows : List Int} (h : btw rows.length 1 6 = false) : regB wd rows = false := by simp [regB, h]
theorem regB_row {wd : Int} {rows : List Int} {k : Nat} (h : k < rows.length) (hk : rowB wd (nth rows k) = false) : regB wd rows = false := by
  simp [regB, allTo_false (p := fun k => rowB wd (nth rows k)) h hk]
theorem isSide_any (n : Int) (w : World) : Calls Tryz.prog 58 #[.int .i64 n] w fun e w' => e = .returned (.bool (btw n 1 6)) ∧ ∃ x, w' = ext w x := by
  go_enter Tryz.func58, Tryz.ntmps58
  go_wp2_with (first | (go_at_call 60; refine (between_any _ _ _ _).mono ?_; rintro e w' ⟨rfl, xe, rfl⟩))
  go_ret
  exact ⟨rfl, (by repeat (first | exact ext_refl _ | (with_reducible assumption) | refine ext_ext' ?_ _ | refine ext_alloc' ?_ _ | refine ext_drew' ?_))⟩
theorem isSide_b (n : Int) (b : Bool) (h : btw n 1 6 = b) (w : World) : Calls Tryz.prog 58 #[.int .i64 n] w fun e w' => e = .returned (.bool b) ∧ ∃ x, w' = ext w x := h ▸ isSide_any n w
theorem isRegion_any (wd : Int) (rows : List Int) (v : Value) (w : World) (h : IntsAt w v rows) :
    Calls Tryz.prog 49 #[.agg #[.int .i64 wd, v]] w fun e w' => e = .returned (.bool (regB wd rows)) ∧ ∃ x, w' = ext w x := by
  obtain ⟨a, b, o, cap, rfl, hc1, hc2, hc3, hcell⟩ := h.opn
  cases h1 : btw wd 1 6
  · clear hcell
    go_enter Tryz.func49, Tryz.ntmps49
    go_wp2_with (first | (go_at_call 58; refine (isSide_b _ _ (by assumption) _).mono ?_; rintro e w' ⟨rfl, xe, rfl⟩))
    go_ret
    exact ⟨ret_bool (regB_w h1).symm, (by repeat (first | exact ext_refl _ | (with_reducible assumption) | refine ext_ext' ?_ _ | refine ext_alloc' ?_ _ | refine ext_drew' ?_))⟩
  obtain ⟨b1, b2⟩ := btw_iff.1 h1
  cases h2 : btw rows.length 1 6
  · clear hcell
    go_enter Tryz.func49, Tryz.ntmps49
    go_wp2_with (first | (go_at_call 58; refine (isSide_b _ _ (by assumption) _).mono ?_; rintro e w' ⟨rfl, xe, rfl⟩))
    go_ret
    exact ⟨ret_bool (regB_h h2).symm, (by repeat (first | exact ext_refl _ | (with_reducible assumption) | refine ext_ext' ?_ _ | refine ext_alloc' ?_ _ | refine ext_drew' ?_))⟩
  obtain ⟨W, rfl⟩ : ∃ W : Nat, wd = W := ⟨wd.toNat, by omega⟩
  have h6 : Le6 W := ⟨by omega⟩
  have HF := Lib.hid (show regB W rows = (btw W 1 6 && btw rows.length 1 6 && allTo (fun k => rowB W (nth rows k)) rows.length) from rfl)
  go_enter Tryz.func49, Tryz.ntmps49
  go_wp2_with (first | (go_at_call 58; refine (isSide_b _ _ (by assumption) _).mono ?_; rintro e w' ⟨rfl, xe, rfl⟩))
  go_loopw [19] (fun i wr => ∃ k : Nat, k ≤ rows.length ∧ i = .int .i64 k ∧ allTo (fun k => rowB W (nth rows k)) k = true ∧ ∃ x, wr = ext (w.alloc (.cells #[.int .i64 W, .slice a rows.length cap] 30)) x) (fun i _ => rows.length - (intOf i).toNat)
  case atStart => exact ⟨0, Nat.zero_le _, rfl, rfl, (by repeat (first | exact ext_refl _ | (with_reducible assumption) | refine ext_ext' ?_ _ | refine ext_alloc' ?_ _ | refine ext_drew' ?_))⟩
  case round =>
    obtain ⟨k, hk, rfl, hall, x, rfl⟩ := hrel
    have HA := Lib.hid hall
    clear hall
    by_cases hlt : k < rows.length
    · obtain ⟨hb, hi, hck⟩ := hcell k hlt
      clear hcell
      by_cases hneg : nth rows k < 0
      · go_wp2_with fail
        go_ret
        exact ⟨ret_bool (regB_row hlt (by simp [rowB]; omega)).symm, (by repeat (first | exact ext_refl _ | (with_reducible assumption) | refine ext_ext' ?_ _ | refine ext_alloc' ?_ _ | refine ext_drew' ?_))⟩
      by_cases hbig : ((shlN 1 W : Nat) : Int) ≤ nth rows k
      · go_wp2_with fail
        go_ret
        exact ⟨ret_bool (regB_row hlt (by simp [rowB]; omega)).symm, (by repeat (first | exact ext_refl _ | (with_reducible assumption) | refine ext_ext' ?_ _ | refine ext_alloc' ?_ _ | refine ext_drew' ?_))⟩
      · go_wp2_with fail
        go_roundw
        case rel => exact ⟨k + 1, hlt, int_succ k, allTo_succ HA.out (by simp [rowB]; omega), (by repeat (first | exact ext_refl _ | (with_reducible assumption) | refine ext_ext' ?_ _ | refine ext_alloc' ?_ _ | refine ext_drew' ?_))⟩
        case measure => simp [intOf]; omega
    · have hks := Lib.hid (show k = rows.length by omega)
      go_wp2_with fail
      go_ret
      exact ⟨ret_bool (by rw [HF.out, h1, h2, ← hks.out, HA.out]; rfl), (by repeat (first | exact ext_refl _ | (with_reducible assumption) | refine ext_ext' ?_ _ | refine ext_alloc' ?_ _ | refine ext_drew' ?_))⟩
theorem specIsRegion_any (wd : Int) (rows : List Int) (v : Value) (w : World) (h : IntsAt w v rows) :
    Calls Tryz.prog 22 #[.agg #[.int .i64 wd, v]] w fun e w' => e = .returned (.bool (regB wd rows)) ∧ ∃ x, w' = ext w x := by
  obtain ⟨a, b, o, cap, rfl, hc1, hc2, hc3, hcell⟩ := h.opn
  cases h1 : btw wd 1 6
  · clear hcell
    go_enter Tryz.func22, Tryz.ntmps22
    go_wp2_with (first | (go_at_call 43; refine (l1In_b _ _ _ _ (by assumption) _).mono ?_; rintro e w' ⟨rfl, xe, rfl⟩))
    go_ret
    exact ⟨ret_bool (regB_w h1).symm, (by repeat (first | exact ext_refl _ | (with_reducible assumption) | refine ext_ext' ?_ _ | refine ext_alloc' ?_ _ | refine ext_drew' ?_))⟩
  obtain ⟨b1, b2⟩ := btw_iff.1 h1
  cases h2 : btw rows.length 1 6
  · clear hcell
    go_enter Tryz.func22, Tryz.ntmps22
    go_wp2_with (first | (go_at_call 43; refine (l1In_b _ _ _ _ (by assumption) _).mono ?_; rintro e w' ⟨rfl, xe, rfl⟩))
    go_ret
    exact ⟨ret_bool (regB_h h2).symm, (by repeat (first | exact ext_refl _ | (with_reducible assumption) | refine ext_ext' ?_ _ | refine ext_alloc' ?_ _ | refine ext_drew' ?_))⟩
  obtain ⟨W, rfl⟩ : ∃ W : Nat, wd = W := ⟨wd.toNat, by omega⟩
  have h6 : Le6 W := ⟨by omega⟩
  have HF := Lib.hid (show regB W rows = (btw W 1 6 && btw rows.length 1 6 && allTo (fun k => rowB W (nth rows k)) rows.length) from rfl)
  go_enter Tryz.func22, Tryz.ntmps22
  go_wp2_with (first | (go_at_call 43; refine (l1In_b _ _ _ _ (by assumption) _).mono ?_; rintro e w' ⟨rfl, xe, rfl⟩))
  go_loopw [3] (fun i wr => ∃ k : Nat, k ≤ rows.length ∧ i = .int .i64 k ∧ allTo (fun k => rowB W (nth rows k)) k = true ∧ ∃ x, wr = ext (w.alloc (.cells #[.int .i64 W, .slice a rows.length cap] 30)) x) (fun i _ => rows.length - (intOf i).toNat)
  case atStart => exact ⟨0, Nat.zero_le _, rfl, rfl, (by repeat (first | exact ext_refl _ | (with_reducible assumption) | refine ext_ext' ?_ _ | refine ext_alloc' ?_ _ | refine ext_drew' ?_))⟩
  case round =>
    obtain ⟨k, hk, rfl, hall, x, rfl⟩ := hrel
    have HA := Lib.hid hall
    clear hall
    by_cases hlt : k < rows.length
    · obtain ⟨hb, hi, hck⟩ := hcell k hlt
      clear hcell
      by_cases hneg : nth rows k < 0
      · go_wp2_with fail
        refine wp_region_ext_lit (by kernel_rfl) (by kernel_rfl) ?_
        repeat (go_big_quiet_step (fail))
        refine wpQuiet_nil ?_
        intro _ hwq
        obtain ⟨xq, hwq⟩ := hwq
        subst hwq
        go_wp2_with fail
        go_ret
        exact ⟨ret_bool (regB_row hlt (by simp [rowB]; omega)).symm, (by repeat (first | exact ext_refl _ | (with_reducible assumption) | refine ext_ext' ?_ _ | refine ext_alloc' ?_ _ | refine ext_drew' ?_))⟩
      have hneg' : decide (nth rows k < 0) = false := decide_eq_false hneg
      by_cases hbig : ((shlN 1 W : Nat) : Int) ≤ nth rows k
      · go_wp2_with fail
        refine wp_region_ext_lit (by kernel_rfl) (by kernel_rfl) ?_
        repeat (go_big_quiet_step (fail))
        refine wpQuiet_nil ?_
        intro _ hwq
        obtain ⟨xq, hwq⟩ := hwq
        subst hwq
        go_wp2_with fail
        go_ret
        exact ⟨ret_bool (regB_row hlt (by simp [rowB]; omega)).symm, (by repeat (first | exact ext_refl _ | (with_reducible assumption) | refine ext_ext' ?_ _ | refine ext_alloc' ?_ _ | refine ext_drew' ?_))⟩
      · have hbig' : decide (((shlN 1 W : Nat) : Int) ≤ nth rows k) = false := decide_eq_false hbig
        go_wp2_with fail
        refine wp_region_ext_lit (by kernel_rfl) (by kernel_rfl) ?_
        repeat (go_big_quiet_step (fail))
        refine wpQuiet_nil ?_
        intro _ hwq
        obtain ⟨xq, hwq⟩ := hwq
        subst hwq
        go_wp2_with fail
        go_roundw
        case rel => exact ⟨k + 1, hlt, int_succ k, allTo_succ HA.out (by simp [rowB]; omega), (by repeat (first | exact ext_refl _ | (with_reducible assumption) | refine ext_ext' ?_ _ | refine ext_alloc' ?_ _ | refine ext_drew' ?_))⟩
        case measure => simp [intOf]; omega
    · have hks := Lib.hid (show k = rows.length by omega)
      go_wp2_with fail
      go_ret
      exact ⟨ret_bool (by rw [HF.out, h1, h2, ← hks.out, HA.out]; rfl), (by repeat (first | exact ext_refl _ | (with_reducible assumption) | refine ext_ext' ?_ _ | refine ext_alloc' ?_ _ | refine ext_drew' ?_))⟩
end
section
open Go.ChangeShapes Go.WideShapes Go.ChangeAt Go.RowKit
def rowN (rows : List Int) (k : Nat) : Nat := (nth rows k).toNat
/-- the mask of the first k rows -/
def maskTo (W : Nat) (rows : List Int) : Nat → Nat := iter (fun k m => m + shlN (rowN rows k) (mulN k W)) 0
theorem maskTo_succ (W : Nat) (rows : List Int) (k : Nat) : maskTo W rows (k + 1) = maskTo W rows k + shlN (rowN rows k) (mulN k W) := rfl
def maskR (wd : Int) (rows : List Int) : Nat := maskTo wd.toNat rows rows.length
def maskV (wd : Int) (rows : List Int) : Nat := if regB wd rows then maskR wd rows else 0
theorem regB_bd {wd : Int} {rows : List Int} (h : regB wd rows = true) : ∃ W : Nat, wd = W ∧ 1 ≤ W ∧ W ≤ 6 ∧ 1 ≤ rows.length ∧ rows.length ≤ 6 ∧ ∀ k, k < rows.length → nth rows k = (rowN rows k : Nat) ∧ rowN rows k < 2 ^ W := by
  simp only [regB, Bool.and_eq_true, btw_iff] at h
  refine ⟨wd.toNat, by omega, by omega, by omega, by omega, by omega, fun k hk => ?_⟩
  have := allTo_true.1 h.2 k hk
  simp [rowB, shlN] at this
  have h2 : ((2 ^ wd.toNat : Nat) : Int) = 2 ^ wd.toNat := by simp
  refine ⟨by unfold rowN; omega, ?_⟩
  unfold rowN
  omega
theorem maskTo_lt {W : Nat} {rows : List Int} (h : ∀ k, k < rows.length → rowN rows k < 2 ^ W) : ∀ k, k ≤ rows.length → maskTo W rows k < 2 ^ (k * W) := by
  intro k
  induction k with
  | zero => intro _; simp [maskTo, iter]
  | succ k ih =>
    intro hk
    have h1 := ih (by omega)
    have h2 := h k (by omega)
    rw [maskTo_succ, shlN, mulN]
    have e : 2 ^ ((k + 1) * W) = 2 ^ W * 2 ^ (k * W) := by rw [Nat.add_mul, Nat.one_mul, Nat.pow_add, Nat.mul_comm]
    rw [e]
    have h3 : (rowN rows k + 1) * 2 ^ (k * W) ≤ 2 ^ W * 2 ^ (k * W) := Nat.mul_le_mul_right _ h2
    rw [Nat.add_mul, Nat.one_mul] at h3
    omega
theorem maskTo_or {W : Nat} {rows : List Int} (h : ∀ k, k < rows.length → rowN rows k < 2 ^ W) {k : Nat} (hk : k < rows.length) : orN (maskTo W rows k) (shlN (rowN rows k) (mulN k W)) = maskTo W rows (k + 1) := by
  have h1 := maskTo_lt h k (by omega)
  rw [maskTo_succ, orN, shlN, mulN, Nat.mul_comm (rowN rows k), Nat.or_comm, ← Nat.two_pow_add_eq_or_of_lt h1, Nat.add_comm]
theorem pow36 {k W : Nat} (hk : k ≤ 6) (hW : W ≤ 6) : 2 ^ (k * W) ≤ 68719476736 := by
  have : k * W ≤ 36 := Nat.mul_le_mul hk hW
  calc 2 ^ (k * W) ≤ 2 ^ 36 := Nat.pow_le_pow_right (by omega) this
    _ = 68719476736 := by decide
theorem shl_row_lt {r k W : Nat} (hr : r < 2 ^ W) (hk : k < 6) (hW : W ≤ 6) : shlN r (mulN k W) < 68719476736 := by
  have e : 2 ^ ((k + 1) * W) = 2 ^ W * 2 ^ (k * W) := by rw [Nat.add_mul, Nat.one_mul, Nat.pow_add, Nat.mul_comm]
  have h3 : (r + 1) * 2 ^ (k * W) ≤ 2 ^ W * 2 ^ (k * W) := Nat.mul_le_mul_right _ hr
  have h4 := pow36 (k := k + 1) (by omega) hW
  have h5 := Nat.two_pow_pos (k * W)
  rw [Nat.add_mul, Nat.one_mul, ← e] at h3
  unfold shlN mulN
  omega
theorem shlOK_row {r k W : Nat} (hr : r < 2 ^ W) (hk : k < 6) (hW : W ≤ 6) : ShlOK r (mulN k W) :=
  ⟨by have : k * W ≤ 6 * 6 := Nat.mul_le_mul (by omega) hW
      unfold mulN; omega, by have := shl_row_lt hr hk hW; omega⟩
theorem mask_any (wd : Int) (rows : List Int) (v : Value) (w : World) (h : IntsAt w v rows) (hr : regB wd rows = true) :
    Calls Tryz.prog 35 #[.agg #[.int .i64 wd, v]] w fun e w' => e = .returned (.int .i64 (maskR wd rows : Nat)) ∧ ∃ x, w' = ext w x := by
  obtain ⟨a, b, o, cap, rfl, hc1, hc2, hc3, hcell⟩ := h.opn
  obtain ⟨W, rfl, hW1, hW2, hl1, hl2, hrow⟩ := regB_bd hr
  have HF := Lib.hid (show maskR W rows = maskTo W rows rows.length from rfl)
  have HR := Lib.hid hrow
  have h6 : Le6 W := ⟨hW2⟩
  clear hrow hr
  go_enter Tryz.func35, Tryz.ntmps35
  go_wp2_with fail
  go_loopw [3, 9] (fun n i wr => ∃ k : Nat, k ≤ rows.length ∧ i = .int .i64 k ∧ n = .int .i64 (maskTo W rows k : Nat) ∧ ∃ x, wr = ext (w.alloc (.cells #[.int .i64 W, .slice a rows.length cap] 30)) x) (fun n i _ => rows.length - (intOf i).toNat)
  case atStart => exact ⟨0, Nat.zero_le _, rfl, rfl, (by repeat (first | exact ext_refl _ | (with_reducible assumption) | refine ext_ext' ?_ _ | refine ext_alloc' ?_ _ | refine ext_drew' ?_))⟩
  case round =>
    obtain ⟨k, hk, rfl, rfl, x, rfl⟩ := hrel
    by_cases hlt : k < rows.length
    · obtain ⟨hb, hi, hck⟩ := hcell k hlt
      obtain ⟨e1, e2⟩ := HR.out k hlt
      rw [e1] at hck
      have h6k : Le6 k := ⟨by omega⟩
      have hok : ShlOK (rowN rows k) (mulN k W) := shlOK_row e2 (by omega) hW2
      have hl3 : Lt63 (maskTo W rows k) := ⟨by
        have h1 := maskTo_lt (fun k hk => (HR.out k hk).2) k (by omega)
        have h2 := pow36 (k := k) (W := W) (by omega) hW2
        omega⟩
      have HO := Lib.hid (maskTo_or (fun k hk => (HR.out k hk).2) hlt)
      clear hcell e1
      go_wp2_with fail
      go_roundw
      case rel => exact ⟨k + 1, hlt, int_succ k, by rw [HO.out], (by repeat (first | exact ext_refl _ | (with_reducible assumption) | refine ext_ext' ?_ _ | refine ext_alloc' ?_ _ | refine ext_drew' ?_))⟩
      case measure => simp [intOf]; omega
    · have hks := Lib.hid (show k = rows.length by omega)
      go_wp2_with fail
      go_ret
      exact ⟨ret_int (by rw [HF.out, ← hks.out]), (by repeat (first | exact ext_refl _ | (with_reducible assumption) | refine ext_ext' ?_ _ | refine ext_alloc' ?_ _ | refine ext_drew' ?_))⟩
theorem specMaskOf_any (wd : Int) (rows : List Int) (v : Value) (w : World) (h : IntsAt w v rows) :
    Calls Tryz.prog 26 #[.agg #[.int .i64 wd, v]] w fun e w' => e = .returned (.int .i64 (maskV wd rows : Nat)) ∧ ∃ x, w' = ext w x := by
  have h0 := h
  obtain ⟨a, b, o, cap, rfl, hc1, hc2, hc3, hcell⟩ := h.opn
  have HF := Lib.hid (show maskV wd rows = if regB wd rows then maskR wd rows else 0 from rfl)
  cases hr : regB wd rows
  · clear hcell
    by_cases hpos : 0 < rows.length
    all_goals
      go_enter Tryz.func26, Tryz.ntmps26
      go_wp2_with fail
      go_loopw [3, 4] (fun n i wr => i = .int .i64 0 ∧ n = .int .i64 0 ∧ ∃ x, wr = ext (w.alloc (.cells #[.int .i64 wd, .slice a rows.length cap] 30)) x) (fun n i _ => 0)
      case atStart => exact ⟨rfl, rfl, (by repeat (first | exact ext_refl _ | (with_reducible assumption) | refine ext_ext' ?_ _ | refine ext_alloc' ?_ _ | refine ext_drew' ?_))⟩
      case round =>
        obtain ⟨rfl, rfl, x, rfl⟩ := hrel
        go_wp2_with (first | (go_at_call 22; refine (specIsRegion_any _ _ _ _ (by first | (with_reducible assumption) | (with_reducible exact IntsAt.mono (by assumption) (bel_of_ext (by repeat (first | exact ext_refl _ | (with_reducible assumption) | refine ext_ext' ?_ _ | refine ext_alloc' ?_ _ | refine ext_drew' ?_)))) | (with_reducible exact RegionAt.mono (by assumption) (bel_of_ext (by repeat (first | exact ext_refl _ | (with_reducible assumption) | refine ext_ext' ?_ _ | refine ext_alloc' ?_ _ | refine ext_drew' ?_)))))).mono ?_; rintro e w' ⟨rfl, xe, rfl⟩))
        go_ret
        exact ⟨ret_int (by rw [HF.out, hr]; rfl), (by repeat (first | exact ext_refl _ | (with_reducible assumption) | refine ext_ext' ?_ _ | refine ext_alloc' ?_ _ | refine ext_drew' ?_))⟩
  obtain ⟨W, rfl, hW1, hW2, hl1, hl2, hrow⟩ := regB_bd hr
  have HF2 := Lib.hid (show maskR W rows = maskTo W rows rows.length from rfl)
  have HR := Lib.hid hrow
  have h6 : Le6 W := ⟨hW2⟩
  clear hrow
  go_enter Tryz.func26, Tryz.ntmps26
  go_wp2_with fail
  go_loopw [3, 4] (fun n i wr => ∃ k : Nat, k ≤ rows.length ∧ i = .int .i64 k ∧ n = .int .i64 (maskTo W rows k : Nat) ∧ ∃ x, wr = ext (w.alloc (.cells #[.int .i64 W, .slice a rows.length cap] 30)) x) (fun n i _ => rows.length - (intOf i).toNat)
  case atStart => exact ⟨0, Nat.zero_le _, rfl, rfl, (by repeat (first | exact ext_refl _ | (with_reducible assumption) | refine ext_ext' ?_ _ | refine ext_alloc' ?_ _ | refine ext_drew' ?_))⟩
  case round =>
    obtain ⟨k, hk, rfl, rfl, x, rfl⟩ := hrel
    by_cases hlt : k < rows.length
    · obtain ⟨hb, hi, hck⟩ := hcell k hlt
      obtain ⟨e1, e2⟩ := HR.out k hlt
      rw [e1] at hck
      have h6k : Le6 k := ⟨by omega⟩
      have hok : ShlOK (rowN rows k) (mulN k W) := shlOK_row e2 (by omega) hW2
      have hsl := shl_row_lt e2 (show k < 6 by omega) hW2
      have hml : maskTo W rows k < 68719476736 := by
        have h1 := maskTo_lt (fun k hk => (HR.out k hk).2) k (by omega)
        have h2 := pow36 (k := k) (W := W) (by omega) hW2
        omega
      have HO := Lib.hid (maskTo_succ W rows k)
      have hadd : AddOK (maskTo W rows k) (shlN (rowN rows k) (mulN k W)) := ⟨by omega⟩
      clear hcell e1
      go_wp2_with (first | (go_at_call 22; refine (specIsRegion_any _ _ _ _ (by first | (with_reducible assumption) | (with_reducible exact IntsAt.mono (by assumption) (bel_of_ext (by repeat (first | exact ext_refl _ | (with_reducible assumption) | refine ext_ext' ?_ _ | refine ext_alloc' ?_ _ | refine ext_drew' ?_)))) | (with_reducible exact RegionAt.mono (by assumption) (bel_of_ext (by repeat (first | exact ext_refl _ | (with_reducible assumption) | refine ext_ext' ?_ _ | refine ext_alloc' ?_ _ | refine ext_drew' ?_)))))).mono ?_; rintro e w' ⟨rfl, xe, rfl⟩))
      refine wp_region_ext_lit (by kernel_rfl) (by kernel_rfl) ?_
      repeat (go_big_quiet_step (fail))
      refine wpQuiet_nil ?_
      intro _ hwq
      obtain ⟨xq, hwq⟩ := hwq
      subst hwq
      go_wp2_with fail
      go_roundw
      case rel => exact ⟨k + 1, hlt, int_succ k, by rw [HO.out]; rfl, (by repeat (first | exact ext_refl _ | (with_reducible assumption) | refine ext_ext' ?_ _ | refine ext_alloc' ?_ _ | refine ext_drew' ?_))⟩
      case measure => simp [intOf]; omega
    · have hks := Lib.hid (show k = rows.length by omega)
      go_wp2_with fail
      go_ret
      exact ⟨ret_int (by rw [HF.out, hr, if_pos rfl, HF2.out, ← hks.out]), (by repeat (first | exact ext_refl _ | (with_reducible assumption) | refine ext_ext' ?_ _ | refine ext_alloc' ?_ _ | refine ext_drew' ?_))⟩
end
section
open Go.ChangeShapes Go.WideShapes Go.ChangeAt Go.RowKit
def hasB (W : Nat) (rows : List Int) (x y : Int) : Bool := btw x 0 ((W : Int) - 1) && (btw y 0 ((rows.length : Int) - 1) && (rowN rows y.toNat).testBit x.toNat)
theorem hasB_x {W : Nat} {rows : List Int} {x y : Int} (h : btw x 0 ((W : Int) - 1) = false) : hasB W rows x y = false := by simp [hasB, h]
theorem hasB_y {W : Nat} {rows : List Int} {x y : Int} (h : btw y 0 ((rows.length : Int) - 1) = false) : hasB W rows x y = false := by simp [hasB, h]
theorem hasB_in {W : Nat} {rows : List Int} {x y : Nat} (h : btw x 0 ((W : Int) - 1) = true) (h2 : btw y 0 ((rows.length : Int) - 1) = true) : hasB W rows x y = (rowN rows y).testBit x := by simp [hasB, h, h2]
theorem hasB_at {W : Nat} {rows : List Int} {x y : Nat} (h : x < W) (h2 : y < rows.length) : hasB W rows x y = (rowN rows y).testBit x := hasB_in (btw_iff.2 ⟨by omega, by omega⟩) (btw_iff.2 ⟨by omega, by omega⟩)
theorem row_lt63 {W : Nat} {rows : List Int} {y : Nat} (hW : W ≤ 6) (h : rowN rows y < 2 ^ W) : Lt63 (rowN rows y) := ⟨by have := Nat.pow_le_pow_right (n := 2) (by omega) hW; omega⟩
set_option maxHeartbeats 1000000 in
theorem has_any (W : Nat) (rows : List Int) (x y : Int) (v : Value) (w : World) (h : IntsAt w v rows) (hr : regB W rows = true) :
    Calls Tryz.prog 73 #[.agg #[.int .i64 W, v], .int .i64 x, .int .i64 y] w fun e w' => e = .returned (.bool (hasB W rows x y)) ∧ ∃ x, w' = ext w x := by
  obtain ⟨a, b, o, cap, rfl, hc1, hc2, hc3, hcell⟩ := h.opn
  obtain ⟨W', hWW, hW1, hW2, hl1, hl2, hrow⟩ := regB_bd hr
  obtain rfl : W = W' := by omega
  cases h1 : btw x 0 ((W : Int) - 1)
  · have HF := Lib.hid (hasB_x (rows := rows) (y := y) h1)
    clear hcell hrow hr hWW
    go_enter Tryz.func73, Tryz.ntmps73
    go_wp2_with (first | (go_at_call 60; refine (between_b _ _ _ _ h1 _).mono ?_; rintro e w' ⟨rfl, xe, rfl⟩))
    go_ret
    exact ⟨ret_bool HF.out.symm, (by repeat (first | exact ext_refl _ | (with_reducible assumption) | refine ext_ext' ?_ _ | refine ext_alloc' ?_ _ | refine ext_drew' ?_))⟩
  cases h2 : btw y 0 ((rows.length : Int) - 1)
  · have HF := Lib.hid (hasB_y (W := W) (x := x) h2)
    clear hcell hrow hr hWW
    go_enter Tryz.func73, Tryz.ntmps73
    go_wp2_with (first | (go_at_call 60; refine (between_any _ _ _ _).mono ?_; rintro e w' ⟨rfl, xe, rfl⟩))
    go_ret
    exact ⟨ret_bool HF.out.symm, (by repeat (first | exact ext_refl _ | (with_reducible assumption) | refine ext_ext' ?_ _ | refine ext_alloc' ?_ _ | refine ext_drew' ?_))⟩
  obtain ⟨x1, x2⟩ := btw_iff.1 h1
  obtain ⟨y1, y2⟩ := btw_iff.1 h2
  obtain ⟨X, rfl⟩ : ∃ X : Nat, x = X := ⟨x.toNat, by omega⟩
  obtain ⟨Y, rfl⟩ : ∃ Y : Nat, y = Y := ⟨y.toNat, by omega⟩
  have HF := Lib.hid (hasB_in h1 h2)
  have hY : Y < rows.length := by omega
  obtain ⟨hb, hi, hck⟩ := hcell Y hY
  obtain ⟨e1, e2⟩ := hrow Y hY
  rw [e1] at hck
  haveI := row_lt63 hW2 e2
  haveI : Le64 X := ⟨by omega⟩
  clear hcell hrow hr hWW e1
  go_enter Tryz.func73, Tryz.ntmps73
  go_wp2_with (first | (go_at_call 60; refine (between_any _ _ _ _).mono ?_; rintro e w' ⟨rfl, xe, rfl⟩))
  go_ret
  exact ⟨ret_bool HF.out.symm, (by repeat (first | exact ext_refl _ | (with_reducible assumption) | refine ext_ext' ?_ _ | refine ext_alloc' ?_ _ | refine ext_drew' ?_))⟩
set_option maxHeartbeats 1000000 in
theorem l6In_any (W : Nat) (rows : List Int) (x y : Int) (v : Value) (w : World) (h : IntsAt w v rows) (hr : regB W rows = true) :
    Calls Tryz.prog 80 #[.agg #[.int .i64 W, v], .int .i64 x, .int .i64 y] w fun e w' => e = .returned (.bool (hasB W rows x y)) ∧ ∃ x, w' = ext w x := by
  obtain ⟨a, b, o, cap, rfl, hc1, hc2, hc3, hcell⟩ := h.opn
  obtain ⟨W', hWW, hW1, hW2, hl1, hl2, hrow⟩ := regB_bd hr
  obtain rfl : W = W' := by omega
  by_cases x1 : 0 ≤ x
  case neg =>
    have HF := Lib.hid (hasB_x (W := W) (rows := rows) (x := x) (y := y) (by simp [btw]; omega))
    have x1' : decide (0 ≤ x) = false := decide_eq_false x1
    clear hcell hrow hr hWW
    go_enter Tryz.func80, Tryz.ntmps80
    go_wp2_with fail
    go_ret
    exact ⟨ret_bool HF.out.symm, (by repeat (first | exact ext_refl _ | (with_reducible assumption) | refine ext_ext' ?_ _ | refine ext_alloc' ?_ _ | refine ext_drew' ?_))⟩
  by_cases y1 : 0 ≤ y
  case neg =>
    have HF := Lib.hid (hasB_y (W := W) (rows := rows) (x := x) (y := y) (by simp [btw]; omega))
    have y1' : decide (0 ≤ y) = false := decide_eq_false y1
    clear hcell hrow hr hWW
    go_enter Tryz.func80, Tryz.ntmps80
    go_wp2_with fail
    go_ret
    exact ⟨ret_bool HF.out.symm, (by repeat (first | exact ext_refl _ | (with_reducible assumption) | refine ext_ext' ?_ _ | refine ext_alloc' ?_ _ | refine ext_drew' ?_))⟩
  obtain ⟨X, rfl⟩ : ∃ X : Nat, x = X := ⟨x.toNat, by omega⟩
  obtain ⟨Y, rfl⟩ : ∃ Y : Nat, y = Y := ⟨y.toNat, by omega⟩
  by_cases x2 : X < W
  case neg =>
    have HF := Lib.hid (hasB_x (W := W) (rows := rows) (x := X) (y := Y) (by simp [btw]; omega))
    have x2' : W ≤ X := by omega
    clear hcell hrow hr hWW
    go_enter Tryz.func80, Tryz.ntmps80
    go_wp2_with fail
    go_ret
    exact ⟨ret_bool HF.out.symm, (by repeat (first | exact ext_refl _ | (with_reducible assumption) | refine ext_ext' ?_ _ | refine ext_alloc' ?_ _ | refine ext_drew' ?_))⟩
  by_cases y2 : Y < rows.length
  case neg =>
    have HF := Lib.hid (hasB_y (W := W) (rows := rows) (x := X) (y := Y) (by simp [btw]; omega))
    have y2' : rows.length ≤ Y := by omega
    clear hcell hrow hr hWW
    go_enter Tryz.func80, Tryz.ntmps80
    go_wp2_with fail
    go_ret
    exact ⟨ret_bool HF.out.symm, (by repeat (first | exact ext_refl _ | (with_reducible assumption) | refine ext_ext' ?_ _ | refine ext_alloc' ?_ _ | refine ext_drew' ?_))⟩
  have HF := Lib.hid (hasB_at x2 y2)
  obtain ⟨hb, hi, hck⟩ := hcell Y y2
  obtain ⟨e1, e2⟩ := hrow Y y2
  rw [e1] at hck
  haveI := row_lt63 hW2 e2
  haveI : Le64 X := ⟨by omega⟩
  clear hcell hrow hr hWW e1
  go_enter Tryz.func80, Tryz.ntmps80
  go_wp2_with fail
  go_ret
  exact ⟨ret_bool HF.out.symm, (by repeat (first | exact ext_refl _ | (with_reducible assumption) | refine ext_ext' ?_ _ | refine ext_alloc' ?_ _ | refine ext_drew' ?_))⟩
end
section
open Go.ChangeShapes Go.WideShapes Go.ChangeAt Go.RowKit
def runL {α σ : Type} (f : α → σ → σ × Bool) : List α → σ → σ × Bool
  | [], s => (s, true)
  | m :: l, s => if (f m s).2 then runL f l (f m s).1 else ((f m s).1, false)
theorem runL_nil {α σ : Type} (f : α → σ → σ × Bool) (s : σ) : runL f [] s = (s, true) := rfl
theorem runL_go {α σ : Type} {f : α → σ → σ × Bool} {m : α} {l : List α} {s : σ} (h : (f m s).2 = true) : runL f (m :: l) s = runL f l (f m s).1 := by simp [runL, h]
theorem runL_stop {α σ : Type} {f : α → σ → σ × Bool} {m : α} {l : List α} {s : σ} (h : (f m s).2 = false) : runL f (m :: l) s = ((f m s).1, false) := by simp [runL, h]
theorem runL_append {α σ : Type} (f : α → σ → σ × Bool) (a b : List α) (s : σ) : runL f (a ++ b) s = if (runL f a s).2 then runL f b (runL f a s).1 else runL f a s := by
  induction a generalizing s with
  | nil => simp [runL]
  | cons m a ih =>
    simp only [List.cons_append, runL]
    by_cases h : (f m s).2 = true
    · simp only [h, if_true]; exact ih _
    · simp [h]
theorem runL_flatMap {α β σ : Type} (f : α → σ → σ × Bool) (g : β → List α) (l : List β) (s : σ) : runL f (l.flatMap g) s = runL (fun b s => runL f (g b) s) l s := by
  induction l generalizing s with
  | nil => rfl
  | cons b l ih =>
    rw [List.flatMap_cons, runL_append]
    simp only [runL]
    cases h : (runL f (g b) s).2
    · simp only [Bool.false_eq_true, if_false]
      exact Prod.ext rfl h
    · simp only [if_true]; exact ih _
theorem runL_map {α β σ : Type} (f : α → σ → σ × Bool) (g : β → α) (l : List β) (s : σ) : runL f (l.map g) s = runL (fun b s => f (g b) s) l s := by
  induction l generalizing s with
  | nil => rfl
  | cons b l ih => simp only [List.map_cons, runL]; rw [ih]
theorem runL_filter {α σ : Type} (f : α → σ → σ × Bool) (p : α → Bool) (l : List α) (s : σ) : runL f (l.filter p) s = runL (fun m s => if p m then f m s else (s, true)) l s := by
  induction l generalizing s with
  | nil => rfl
  | cons m l ih =>
    cases h : p m
    · rw [List.filter_cons_of_neg (by simp [h])]
      simp only [runL, h, Bool.false_eq_true, if_false, if_true]; exact ih s
    · rw [List.filter_cons_of_pos h]
      simp only [runL, h, if_true, ih]
theorem runL_congr {α σ : Type} {f g : α → σ → σ × Bool} {l : List α} (h : ∀ m ∈ l, ∀ s, f m s = g m s) (s : σ) : runL f l s = runL g l s := by
  induction l generalizing s with
  | nil => rfl
  | cons m l ih =>
    simp only [runL, h m List.mem_cons_self]
    rw [ih fun m hm => h m (List.mem_cons_of_mem _ hm)]
/-! ### the least place -/
def lowN (m : Nat) : Nat := ((List.range 64).find? fun i => m.testBit i).getD 0
def IsLow (m i : Nat) : Prop := m.testBit i = true ∧ ∀ j, j < i → m.testBit j = false
theorem isLow_unique {m i j : Nat} (h : IsLow m i) (h' : IsLow m j) : i = j := by
  rcases Nat.lt_trichotomy i j with e | e | e
  · have := h'.2 i e; rw [h.1] at this; cases this
  · exact e
  · have := h.2 j e; rw [h'.1] at this; cases this
theorem exists_bit {m : Nat} (h : 0 < m) (h' : m < 2 ^ 64) : ∃ i, i < 64 ∧ m.testBit i = true := by
  obtain ⟨i, hi⟩ := Nat.exists_testBit_of_ne_zero (x := m) (by omega)
  refine ⟨i, ?_, hi⟩
  rcases Nat.lt_or_ge i 64 with e | e
  · exact e
  · have := Nat.testBit_lt_two_pow (Nat.lt_of_lt_of_le h' (Nat.pow_le_pow_right (n := 2) (by omega) e))
    rw [this] at hi; cases hi
theorem lowN_spec {m : Nat} (h : 0 < m) (h' : m < 2 ^ 64) : IsLow m (lowN m) ∧ lowN m < 64 := by
  unfold lowN
  cases hf : (List.range 64).find? (fun i => m.testBit i) with
  | none =>
    obtain ⟨i, hi, hb⟩ := exists_bit h h'
    have := List.find?_eq_none.1 hf i (List.mem_range.2 hi)
    simp [hb] at this
  | some i =>
    rw [List.find?_range_eq_some] at hf
    simp only [Option.getD_some]
    refine ⟨⟨hf.1, fun j hj => ?_⟩, by have := List.mem_range.1 hf.2.1; exact this⟩
    have := hf.2.2 j hj
    simpa using this
theorem lowN_eq {m i : Nat} (h : IsLow m i) (h' : m < 2 ^ 64) : lowN m = i := by
  have hp : 0 < m := by
    rcases Nat.eq_zero_or_pos m with e | e
    · subst e; have := h.1; simp at this
    · exact e
  exact isLow_unique (lowN_spec hp h').1 h
/-! ### masks that fit -/
def atL (all : List Nat) (k : Nat) : List Nat := all.filter fun m => m.testBit k
def subB (m free : Nat) : Bool := andN m free == m
def cand (all : List Nat) (free : Nat) : List Nat := (atL all (lowN free)).filter fun m => subB m free
theorem sub_le {m free : Nat} (h : subB m free = true) : m ≤ free := by
  have : andN m free = m := by simpa [subB] using h
  rw [← this]; exact Nat.and_le_right
theorem sub_bits {m free : Nat} (h : subB m free = true) {i : Nat} (hi : m.testBit i = true) : free.testBit i = true := by
  have : andN m free = m := by simpa [subB] using h
  have h2 := congrArg (fun n => n.testBit i) this
  simp only [andN, Nat.testBit_and, hi, Bool.true_and] at h2
  exact h2
theorem sub_bits' {m free : Nat} (h : ∀ i, m.testBit i = true → free.testBit i = true) : subB m free = true := by
  have : andN m free = m := by
    apply Nat.eq_of_testBit_eq
    intro i
    simp only [andN, Nat.testBit_and]
    cases hm : m.testBit i
    · rfl
    · rw [h i hm]; rfl
  simp [subB, this]
theorem add_or_and : ∀ (n a b : Nat), a ≤ n → a &&& b = 0 → a + b = a ||| b
  | 0, a, b, h, _ => by
    have : a = 0 := by omega
    subst this; simp
  | n + 1, a, b, h, hab => by
    rcases Nat.eq_zero_or_pos a with e | e
    · subst e; simp
    have h2 : a / 2 &&& b / 2 = 0 := by
      have := congrArg (fun n => n / 2) hab
      simpa [Nat.and_div_two] using this
    have ih := add_or_and n (a / 2) (b / 2) (by omega) h2
    have h3 : (a ||| b) / 2 = a / 2 ||| b / 2 := by simp [Nat.or_div_two]
    have h4 : ((a ||| b) % 2 = 1) ↔ (a % 2 = 1 ∨ b % 2 = 1) := Nat.or_mod_two_eq_one
    have h5 : ¬ (a % 2 = 1 ∧ b % 2 = 1) := by
      rw [← Nat.and_mod_two_eq_one, hab]; decide
    omega
theorem xor_sub {m free : Nat} (h : subB m free = true) : butN free m = free - m := by
  have hm : m &&& free = m := by simpa [subB, andN] using h
  have h1 : free &&& m = m := by rw [Nat.and_comm]; exact hm
  have h2 : (free ^^^ m) &&& m = 0 := by
    apply Nat.eq_of_testBit_eq
    intro i
    have := sub_bits h (i := i)
    simp only [Nat.testBit_and, Nat.testBit_xor, Nat.zero_testBit]
    cases hm : m.testBit i
    · simp
    · simp [this hm]
  have h3 : (free ^^^ m) + m = free := by
    have e : (free ^^^ m) + m = (free ^^^ m) ||| m := by
      exact add_or_and _ _ _ (Nat.le_refl _) h2
    rw [e]
    apply Nat.eq_of_testBit_eq
    intro i
    have := sub_bits h (i := i)
    simp only [Nat.testBit_or, Nat.testBit_xor]
    cases hm : m.testBit i
    · simp
    · simp [this hm]
  unfold butN
  rw [h1]
  omega
theorem butN_zero {m free : Nat} : (butN m free = 0) ↔ subB m free = true := by
  unfold subB butN andN
  constructor
  · intro h
    have : m &&& free = m := by
      apply Nat.eq_of_testBit_eq
      intro i
      have := congrArg (fun n => n.testBit i) h
      simp only [Nat.testBit_xor, Nat.zero_testBit] at this
      revert this
      cases (m &&& free).testBit i <;> cases m.testBit i <;> simp
    simp [this]
  · intro h
    have : m &&& free = m := by simpa using h
    rw [this, Nat.xor_self]
theorem mem_cand {all : List Nat} {free m : Nat} : m ∈ cand all free ↔ m ∈ all ∧ m.testBit (lowN free) = true ∧ subB m free = true := by
  simp only [cand, atL, List.mem_filter, and_assoc]
theorem cand_lt {all : List Nat} {free m : Nat} (h : m ∈ cand all free) : 0 < m ∧ m ≤ free := by
  obtain ⟨_, h1, h2⟩ := mem_cand.1 h
  refine ⟨?_, sub_le h2⟩
  rcases Nat.eq_zero_or_pos m with e | e
  · subst e; simp at h1
  · exact e
/-! ### all tilings, in the order of the search -/
def tlF (all : List Nat) : Nat → Nat → List (List Nat)
  | 0, free => if free = 0 then [[]] else []
  | n + 1, free => if free = 0 then [[]] else (cand all free).flatMap fun m => (tlF all n (free - m)).map (m :: ·)
theorem tlF_zero (all : List Nat) (n : Nat) : tlF all n 0 = [[]] := by cases n <;> simp [tlF]
theorem flatMap_congr' {α β : Type} {l : List α} {f g : α → List β} (h : ∀ a ∈ l, f a = g a) : l.flatMap f = l.flatMap g := by
  induction l with
  | nil => rfl
  | cons a l ih => rw [List.flatMap_cons, List.flatMap_cons, h a List.mem_cons_self, ih fun b hb => h b (List.mem_cons_of_mem _ hb)]
theorem tlF_fuel (all : List Nat) : ∀ n k free, free ≤ n → free ≤ k → tlF all n free = tlF all k free
  | 0, k, free, h1, _ => by
    have : free = 0 := by omega
    subst this; rw [tlF_zero, tlF_zero]
  | n + 1, 0, free, _, h2 => by
    have : free = 0 := by omega
    subst this; rw [tlF_zero, tlF_zero]
  | n + 1, k + 1, free, h1, h2 => by
    simp only [tlF]
    split
    · rfl
    · refine flatMap_congr' fun m hm => ?_
      have := cand_lt hm
      rw [tlF_fuel all n k (free - m) (by omega) (by omega)]
def tl (all : List Nat) (free : Nat) : List (List Nat) := tlF all free free
theorem tl_zero (all : List Nat) : tl all 0 = [[]] := rfl
theorem tl_pos (all : List Nat) {free : Nat} (h : 0 < free) : tl all free = (cand all free).flatMap fun m => (tl all (free - m)).map (m :: ·) := by
  obtain ⟨n, rfl⟩ : ∃ n, free = n + 1 := ⟨free - 1, by omega⟩
  show tlF all (n + 1) (n + 1) = _
  simp only [tlF, Nat.add_eq_zero_iff, Nat.one_ne_zero, and_false, if_false]
  refine flatMap_congr' fun m hm => ?_
  have := cand_lt hm
  rw [tl, tlF_fuel all n (n + 1 - m) (n + 1 - m) (by omega) (by omega)]
/-! ### the run of the search: tr is asked at each placement, vis at each tiling -/
def fillF {σ : Type} (all : List Nat) (tr : σ → σ × Bool) (vis : List Nat → σ → σ × Bool) : Nat → Nat → List Nat → σ → σ × Bool
  | 0, _, l, s => vis l s
  | n + 1, free, l, s => if free = 0 then vis l s else runL (fun m s => if subB m free then (if (tr s).2 then fillF all tr vis n (free - m) (l ++ [m]) (tr s).1 else ((tr s).1, false)) else (s, true)) (atL all (lowN free)) s
theorem fillF_tl {σ : Type} (all : List Nat) (vis : List Nat → σ → σ × Bool) : ∀ n free, free ≤ n → ∀ l s, fillF all (fun s => (s, true)) vis n free l s = runL (fun t s => vis (l ++ t) s) (tl all free) s
  | 0, free, h, l, s => by
    have : free = 0 := by omega
    subst this
    simp only [fillF, tl_zero, runL, List.append_nil]
    cases h : (vis l s).2 <;> simp [Prod.ext_iff, h]
  | n + 1, free, h, l, s => by
    rcases Nat.eq_zero_or_pos free with e | e
    · subst e
      simp only [fillF, tl_zero, runL, List.append_nil, if_true]
      cases h : (vis l s).2 <;> simp [Prod.ext_iff, h]
    · rw [tl_pos all e, runL_flatMap]
      simp only [fillF, if_true, if_neg (show ¬ free = 0 by omega)]
      rw [← runL_filter (fun m s => fillF all (fun s => (s, true)) vis n (free - m) (l ++ [m]) s) (fun m => subB m free)]
      refine runL_congr (fun m hm s => ?_) s
      have := cand_lt (all := all) hm
      rw [runL_map, fillF_tl all vis n (free - m) (by omega)]
      refine runL_congr (fun t _ s => ?_) s
      rw [List.append_assoc]; rfl
/-! ### what the visitors make of it -/
/-- counting, up to some -/
def visC (most : Nat) (_ : List Nat) (n : Nat) : Nat × Bool := (n + 1, decide (n + 1 < most))
theorem run_count {most : Nat} : ∀ (T : List (List Nat)) (l : List Nat) (n : Nat), n < most → (runL (fun t s => visC most (l ++ t) s) T n).1 = min (n + T.length) most
  | [], l, n, h => by simp [runL]; omega
  | t :: T, l, n, h => by
    by_cases h2 : n + 1 < most
    · rw [runL_go (by simp [visC, h2])]
      have := run_count (most := most) T l (n + 1) h2
      rw [show (visC most (l ++ t) n).1 = n + 1 from rfl, this]; simp; omega
    · rw [runL_stop (by simp [visC, h2])]
      simp [visC]; omega
/-- the one behind n others -/
structure Odr where
  n : Nat
  out : List Nat
  found : Bool
def visO (l : List Nat) (s : Odr) : Odr × Bool := if 0 < s.n then (⟨s.n - 1, s.out, s.found⟩, true) else (⟨0, l, true⟩, false)
theorem run_ord : ∀ (T : List (List Nat)) (n : Nat), (runL (fun t s => visO ([] ++ t) s) T ⟨n, [], false⟩).1 = match T[n]? with | some t => ⟨0, t, true⟩ | none => ⟨n - T.length, [], false⟩
  | [], n => by simp [runL]
  | t :: T, 0 => by rw [runL_stop (by simp [visO])]; simp [visO]
  | t :: T, n + 1 => by
    have := run_ord T n
    rw [runL_go (by simp [visO]), show (visO ([] ++ t) ⟨n + 1, [], false⟩).1 = ⟨n, [], false⟩ by simp [visO], this, List.getElem?_cons_succ, List.length_cons, show n + 1 - (T.length + 1) = n - T.length by omega]
/-! ### the reference's search, by its own loops -/
def specS (all : List Nat) : Nat → Nat → Nat → List (List Nat)
  | 0, free, _ => if free = 0 then [[]] else []
  | n + 1, free, most => if free = 0 then [[]] else
      all.foldl (fun out m => if out.length < most ∧ m.testBit (lowN free) = true ∧ subB m free = true then out ++ (specS all n (free - m) (most - out.length)).map (m :: ·) else out) []
theorem take_fold {all : List Nat} {free most : Nat} {g : Nat → Nat → List (List Nat)} {h : Nat → List (List Nat)} (hg : ∀ m ∈ all, m.testBit (lowN free) = true → subB m free = true → ∀ q, 0 < q → g m q = (h m).take q) :
    ∀ out : List (List Nat), (all.foldl (fun out m => if out.length < most ∧ m.testBit (lowN free) = true ∧ subB m free = true then out ++ (g m (most - out.length)).map (m :: ·) else out) out) =
      if out.length < most then (out ++ (cand all free).flatMap fun m => (h m).map (m :: ·)).take most else out := by
  have hc : ∀ all' : List Nat, cand all' free = all'.filter fun m => m.testBit (lowN free) && subB m free := fun all' => by
    rw [cand, atL, List.filter_filter]
    congr 1; funext m; exact Bool.and_comm _ _
  rw [hc]
  clear hc
  induction all with
  | nil => intro out; simp only [List.foldl_nil, List.filter_nil, List.flatMap_nil, List.append_nil]; split <;> first | rfl | rw [List.take_of_length_le (by omega)]
  | cons m all ih =>
    intro out
    have ih := ih fun m hm => hg m (List.mem_cons_of_mem _ hm)
    by_cases h1 : out.length < most
    · by_cases h2 : m.testBit (lowN free) = true ∧ subB m free = true
      · have e : (if out.length < most ∧ m.testBit (lowN free) = true ∧ subB m free = true then out ++ (g m (most - out.length)).map (m :: ·) else out) = out ++ ((h m).take (most - out.length)).map (m :: ·) := by
          rw [if_pos ⟨h1, h2⟩, hg m List.mem_cons_self h2.1 h2.2 _ (by omega)]
        rw [List.foldl_cons, e, ih, if_pos h1, List.filter_cons_of_pos (by rw [h2.1, h2.2]; rfl), List.flatMap_cons, ← List.append_assoc]
        have e1 : (((h m).take (most - out.length)).map (m :: ·)) = (((h m).map (m :: ·)).take (most - out.length)) := List.map_take ..
        by_cases h3 : (h m).length < most - out.length
        · rw [List.take_of_length_le (by omega), if_pos (by rw [List.length_append, List.length_map]; omega)]
        · have e2 : ((out ++ ((h m).map (m :: ·))) ++ ((all.filter fun m => m.testBit (lowN free) && subB m free).flatMap fun m => (h m).map (m :: ·))).take most = out ++ ((h m).map (m :: ·)).take (most - out.length) := by
            rw [List.take_append_of_le_length (by rw [List.length_append, List.length_map]; omega), List.take_append, List.take_of_length_le (by omega)]
          rw [if_neg (by rw [List.length_append, List.length_map, List.length_take]; omega), e1, e2]
      · have e : (if out.length < most ∧ m.testBit (lowN free) = true ∧ subB m free = true then out ++ (g m (most - out.length)).map (m :: ·) else out) = out := if_neg fun h => h2 h.2
        rw [List.foldl_cons, e, ih, List.filter_cons_of_neg (by simpa using h2)]
    · have e : (if out.length < most ∧ m.testBit (lowN free) = true ∧ subB m free = true then out ++ (g m (most - out.length)).map (m :: ·) else out) = out := if_neg fun h => h1 h.1
      rw [List.foldl_cons, e, ih, if_neg h1, if_neg h1]
theorem specS_tl (all : List Nat) : ∀ n free most, free ≤ n → 0 < most → specS all n free most = (tl all free).take most
  | 0, free, most, h, hm => by
    have : free = 0 := by omega
    subst this
    rw [tl_zero, List.take_of_length_le (by simp; omega)]; rfl
  | n + 1, free, most, h, hm => by
    rcases Nat.eq_zero_or_pos free with e | e
    · subst e
      rw [tl_zero, List.take_of_length_le (by simp; omega)]; rfl
    · simp only [specS, if_neg (show ¬ free = 0 by omega)]
      rw [take_fold (h := fun m => tl all (free - m)) (fun m _ h1 h2 q hq => ?_), if_pos (by simpa using hm), List.nil_append, ← tl_pos all e]
      have h3 : 0 < m := by
        rcases Nat.eq_zero_or_pos m with e | e
        · subst e; simp at h1
        · exact e
      exact specS_tl all n (free - m) q (by have := sub_le h2; omega) hq
def specC (all : List Nat) : Nat → Nat → Nat → Nat
  | 0, free, _ => if free = 0 then 1 else 0
  | n + 1, free, most => if free = 0 then 1 else
      all.foldl (fun c m => if c < most ∧ m.testBit (lowN free) = true ∧ subB m free = true then c + specC all n (free - m) (most - c) else c) 0
theorem count_fold {all : List Nat} {free most : Nat} {g : Nat → Nat → Nat} {h : Nat → Nat} (hg : ∀ m ∈ all, m.testBit (lowN free) = true → subB m free = true → ∀ q, 0 < q → g m q = min (h m) q) :
    ∀ c : Nat, c ≤ most → (all.foldl (fun c m => if c < most ∧ m.testBit (lowN free) = true ∧ subB m free = true then c + g m (most - c) else c) c) = min (c + ((cand all free).map h).sum) most := by
  have hc : ∀ all' : List Nat, cand all' free = all'.filter fun m => m.testBit (lowN free) && subB m free := fun all' => by
    rw [cand, atL, List.filter_filter]
    congr 1; funext m; exact Bool.and_comm _ _
  rw [hc]
  clear hc
  induction all with
  | nil => intro c h; simp; omega
  | cons m all ih =>
    intro c hcm
    have ih := ih fun m hm => hg m (List.mem_cons_of_mem _ hm)
    by_cases h1 : c < most
    · by_cases h2 : m.testBit (lowN free) = true ∧ subB m free = true
      · have e : (if c < most ∧ m.testBit (lowN free) = true ∧ subB m free = true then c + g m (most - c) else c) = c + min (h m) (most - c) := by
          rw [if_pos ⟨h1, h2⟩, hg m List.mem_cons_self h2.1 h2.2 _ (by omega)]
        rw [List.foldl_cons, e, ih _ (by omega), List.filter_cons_of_pos (by rw [h2.1, h2.2]; rfl), List.map_cons, List.sum_cons]
        omega
      · have e : (if c < most ∧ m.testBit (lowN free) = true ∧ subB m free = true then c + g m (most - c) else c) = c := if_neg fun h => h2 h.2
        rw [List.foldl_cons, e, List.filter_cons_of_neg (by simpa using h2), ih _ hcm]
    · have e : (if c < most ∧ m.testBit (lowN free) = true ∧ subB m free = true then c + g m (most - c) else c) = c := if_neg fun h => h1 h.1
      rw [List.foldl_cons, e, ih _ hcm]
      omega
theorem len_flatMap (l : List Nat) (f : Nat → List (List Nat)) : (l.flatMap fun m => (f m).map (m :: ·)).length = (l.map fun m => (f m).length).sum := by
  induction l with
  | nil => rfl
  | cons m l ih => simp [List.flatMap_cons, ih]
theorem specC_tl (all : List Nat) : ∀ n free most, free ≤ n → 0 < most → specC all n free most = min (tl all free).length most
  | 0, free, most, h, hm => by
    have : free = 0 := by omega
    subst this
    rw [tl_zero]; simp [specC]; omega
  | n + 1, free, most, h, hm => by
    rcases Nat.eq_zero_or_pos free with e | e
    · subst e
      rw [tl_zero]; simp [specC]; omega
    · simp only [specC, if_neg (show ¬ free = 0 by omega)]
      rw [count_fold (h := fun m => (tl all (free - m)).length) (fun m _ h1 h2 q hq => ?_) 0 (by omega), tl_pos all e, len_flatMap, Nat.zero_add]
      have h3 : 0 < m := by
        rcases Nat.eq_zero_or_pos m with e | e
        · subst e; simp at h1
        · exact e
      exact specC_tl all n (free - m) q (by have := sub_le h2; omega) hq
end
section
open Go.ChangeShapes Go.WideShapes Go.ChangeAt Go.RowKit

end
end Go.Proofs.YtmehmpammjcnkabGreat
