/- Part 2 of a proof: bitops, region, mask, has, l6inb, fmtregion, parseq, parser, addor, gridf, fmtimpl, prsimpl, prsspec. -/
import Derived.Test.YtchcepihmphdmaaDoorRows
import Derived.WalkKit
import Derived.ProofKit
import Derived.OpenShut
import Derived.BigQuiet
import Derived.Lib.Hide
import Derived.Deep.QuietTactic
import Derived.Outline
import Derived.StillTailTactics
import Derived.Test.YtchcepihmphdmaaDoorMg1
namespace Go.Proofs.YtchcepihmphdmaaDoor
set_option linter.unusedVariables false
section
open Go.ChangeShapes Go.WideShapes Go.ChangeAt Go.RowKit
def shlN (a k : Nat) : Nat := a * 2 ^ k
def shrN (a k : Nat) : Nat := a / 2 ^ k
def orN (a b : Nat) : Nat := a ||| b
def andN (a b : Nat) : Nat := a &&& b
def butN (a b : Nat) : Nat := a ^^^ (a &&& b)
theorem wrap_nat (a : Nat) (h : a < 9223372036854775808) : IntKind.i64.wrap (a : Int) = a := IntWalk.i64_in _ (by omega)
theorem op_shl (a k : Nat) (yk : IntKind) (hk : k ≤ 64) (h : shlN a k < 9223372036854775808) : Op.shift .shl .i64 (a : Int) yk (k : Int) = pure (.int .i64 (shlN a k : Nat)) := by
  have e : ((a : Int) * 2 ^ (k : Int).toNat) = ((shlN a k : Nat) : Int) := by simp [shlN]
  have h1 : ¬ ((k : Int) < 0) := by omega
  have h2 : min (k : Int).toNat IntKind.i64.bits = (k : Int).toNat := by simp [IntKind.bits]; omega
  unfold Op.shift
  rw [if_neg h1, h2]
  show pure (Value.int IntKind.i64 (IntKind.i64.wrap ((a : Int) * 2 ^ (k : Int).toNat))) = _
  rw [e, wrap_nat _ h]
theorem op_shr (a k : Nat) (yk : IntKind) (hk : k ≤ 64) : Op.shift .shr .i64 (a : Int) yk (k : Int) = pure (.int .i64 (shrN a k : Nat)) := by
  have h1 : ¬ ((k : Int) < 0) := by omega
  have h2 : min (k : Int).toNat IntKind.i64.bits = k := by simp [IntKind.bits]; omega
  unfold Op.shift
  rw [if_neg h1, h2]
  show pure (Value.int IntKind.i64 ((a : Int).fdiv (2 ^ k))) = _
  have e : (a : Int).fdiv (2 ^ k) = ((shrN a k : Nat) : Int) := by
    rw [Int.fdiv_eq_ediv_of_nonneg _ (by exact_mod_cast Nat.zero_le _)]
    simp [shrN]
  rw [e]
theorem ofNat_bits (a : Nat) (h : a < 9223372036854775808) : (BitVec.ofInt IntKind.i64.bits (a : Int)).toNat = a := by
  show (BitVec.ofInt 64 (a : Int)).toNat = a
  rw [BitVec.ofInt_natCast, BitVec.toNat_ofNat, Nat.mod_eq_of_lt (by omega)]
theorem and_lt (a b : Nat) (h : a < 9223372036854775808) : andN a b < 9223372036854775808 := Nat.lt_of_le_of_lt Nat.and_le_left h
theorem or_lt (a b : Nat) (h : a < 9223372036854775808) (h' : b < 9223372036854775808) : orN a b < 9223372036854775808 := Nat.or_lt_two_pow (n := 63) h h'
theorem but_lt (a b : Nat) (h : a < 9223372036854775808) : butN a b < 9223372036854775808 := Nat.xor_lt_two_pow (n := 63) h (and_lt a b h)
theorem op_or (a b : Nat) (h : a < 9223372036854775808) (h' : b < 9223372036854775808) : Op.intBits .or .i64 (a : Int) (b : Int) = pure (.int .i64 (orN a b : Nat)) := by
  unfold Op.intBits
  simp only [BitVec.toNat_or, ofNat_bits a h, ofNat_bits b h']
  show pure (Value.int IntKind.i64 (IntKind.i64.wrap ((orN a b : Nat) : Int))) = _
  rw [wrap_nat _ (or_lt a b h h')]
theorem op_and (a b : Nat) (h : a < 9223372036854775808) (h' : b < 9223372036854775808) : Op.intBits .and .i64 (a : Int) (b : Int) = pure (.int .i64 (andN a b : Nat)) := by
  unfold Op.intBits
  simp only [BitVec.toNat_and, ofNat_bits a h, ofNat_bits b h']
  show pure (Value.int IntKind.i64 (IntKind.i64.wrap ((andN a b : Nat) : Int))) = _
  rw [wrap_nat _ (and_lt a b h)]
theorem but_bits (a b : Nat) (h : a < 9223372036854775808) (h' : b < 9223372036854775808) : (BitVec.ofInt IntKind.i64.bits (a : Int) &&& ~~~ BitVec.ofInt IntKind.i64.bits (b : Int)).toNat = butN a b := by
  apply Nat.eq_of_testBit_eq
  intro i
  show (BitVec.ofInt 64 (a : Int) &&& ~~~ BitVec.ofInt 64 (b : Int)).getLsbD i = _
  have ha : (BitVec.ofInt 64 (a : Int)).getLsbD i = a.testBit i := congrArg (fun n => Nat.testBit n i) (ofNat_bits a h)
  have hb : (BitVec.ofInt 64 (b : Int)).getLsbD i = b.testBit i := congrArg (fun n => Nat.testBit n i) (ofNat_bits b h')
  rw [BitVec.getLsbD_and, BitVec.getLsbD_not, ha, hb, butN, Nat.testBit_xor, Nat.testBit_and]
  by_cases hi : i < 64
  · cases a.testBit i <;> cases b.testBit i <;> simp [hi]
  · have : a.testBit i = false := Nat.testBit_lt_two_pow (Nat.lt_of_lt_of_le h (by exact Nat.pow_le_pow_right (n := 2) (by omega) (show 63 ≤ i by omega)))
    simp [this]
theorem op_but (a b : Nat) (h : a < 9223372036854775808) (h' : b < 9223372036854775808) : Op.intBits .andNot .i64 (a : Int) (b : Int) = pure (.int .i64 (butN a b : Nat)) := by
  unfold Op.intBits
  simp only [but_bits a b h h', wrap_nat _ (but_lt a b h)]
theorem bit_of (m k : Nat) : andN (shrN m k) 1 = if m.testBit k then 1 else 0 := by
  rw [andN, shrN, Nat.and_one_is_mod, ← Nat.shiftRight_eq_div_pow, Nat.testBit_eq_decide_div_mod_eq, Nat.shiftRight_eq_div_pow]
  have := Nat.mod_two_eq_zero_or_one (m / 2 ^ k)
  rcases this with e | e <;> simp [e]
theorem bit_test (m k : Nat) : (((andN (shrN m k) 1 : Nat) : Int) == 1) = m.testBit k := by
  rw [bit_of]
  cases m.testBit k <;> rfl
theorem bit_test0 (m k : Nat) : (((andN (shrN m k) 1 : Nat) : Int) == 0) = !m.testBit k := by
  rw [bit_of]
  cases m.testBit k <;> rfl
theorem shr_zero (m k : Nat) : (((shrN m k : Nat) : Int) != 0) = !decide (m < 2 ^ k) := by
  have : shrN m k = 0 ↔ m < 2 ^ k := Nat.div_eq_zero_iff_lt (Nat.two_pow_pos k)
  by_cases h : m < 2 ^ k
  · have h2 := this.2 h
    simp [h2, h]
  · have h2 : ¬ shrN m k = 0 := fun e => h (this.1 e)
    simp [h2, h]
/-! the walk's own rules, ahead of the kit's -/
class Lt63 (a : Nat) : Prop where
  lt : a < 9223372036854775808
class ShlOK (a k : Nat) : Prop where
  le : k ≤ 64
  lt : shlN a k < 9223372036854775808
class Le64 (k : Nat) : Prop where
  le : k ≤ 64
class Le6 (k : Nat) : Prop where
  le : k ≤ 6
instance lt63_one : Lt63 1 := ⟨by omega⟩
instance lt63_zero : Lt63 0 := ⟨by omega⟩
instance lt63_and (a b : Nat) [h : Lt63 a] : Lt63 (andN a b) := ⟨and_lt a b h.lt⟩
instance lt63_but (a b : Nat) [h : Lt63 a] : Lt63 (butN a b) := ⟨but_lt a b h.lt⟩
instance lt63_or (a b : Nat) [h : Lt63 a] [h' : Lt63 b] : Lt63 (orN a b) := ⟨or_lt a b h.lt h'.lt⟩
instance lt63_shr (a k : Nat) [h : Lt63 a] : Lt63 (shrN a k) := ⟨Nat.lt_of_le_of_lt (Nat.div_le_self _ _) h.lt⟩
instance lt63_shl (a k : Nat) [h : ShlOK a k] : Lt63 (shlN a k) := ⟨h.lt⟩
@[go_sem ↓ 20000] theorem w_shl (a k : Nat) (yk : IntKind) [h : ShlOK a k] : Op.shift .shl .i64 (a : Int) yk (k : Int) = pure (.int .i64 (shlN a k : Nat)) := op_shl a k yk h.le h.lt
@[go_sem ↓ 20000] theorem w_shl1 (k : Nat) (yk : IntKind) [h : ShlOK 1 k] : Op.shift .shl .i64 (1 : Int) yk (k : Int) = pure (.int .i64 (shlN 1 k : Nat)) := op_shl 1 k yk h.le h.lt
@[go_sem ↓ 20000] theorem w_shr (a k : Nat) (yk : IntKind) [h : Le64 k] : Op.shift .shr .i64 (a : Int) yk (k : Int) = pure (.int .i64 (shrN a k : Nat)) := op_shr a k yk h.le
@[go_sem 20000] theorem w_or (a b : Nat) [h : Lt63 a] [h' : Lt63 b] : Op.intBits .or .i64 (a : Int) (b : Int) = pure (.int .i64 (orN a b : Nat)) := op_or a b h.lt h'.lt
@[go_sem 20000] theorem w_and (a b : Nat) [h : Lt63 a] [h' : Lt63 b] : Op.intBits .and .i64 (a : Int) (b : Int) = pure (.int .i64 (andN a b : Nat)) := op_and a b h.lt h'.lt
@[go_sem 20000] theorem w_and1 (a : Nat) [h : Lt63 a] : Op.intBits .and .i64 (a : Int) (1 : Int) = pure (.int .i64 (andN a 1 : Nat)) := op_and a 1 h.lt (by omega)
@[go_sem 20000] theorem w_but (a b : Nat) [h : Lt63 a] [h' : Lt63 b] : Op.intBits .andNot .i64 (a : Int) (b : Int) = pure (.int .i64 (butN a b : Nat)) := op_but a b h.lt h'.lt
@[go_sem 20000] theorem w_bit (m k : Nat) : (((andN (shrN m k) 1 : Nat) : Int) == 1) = m.testBit k := bit_test m k
@[go_sem 20000] theorem w_bit0 (m k : Nat) : (((andN (shrN m k) 1 : Nat) : Int) == 0) = !m.testBit k := bit_test0 m k
instance shlOK_one6 (W : Nat) [h : Le6 W] : ShlOK 1 W := ⟨by have := h.le; omega, by
  have : shlN 1 W ≤ 2 ^ 6 := by rw [shlN, Nat.one_mul]; exact Nat.pow_le_pow_right (by omega) h.le
  omega⟩
def mulN (a b : Nat) : Nat := a * b
def addN (a b : Nat) : Nat := a + b
class MulOK (a b : Nat) : Prop where
  lt : a * b < 9223372036854775808
class AddOK (a b : Nat) : Prop where
  lt : a + b < 9223372036854775808
@[go_sem ↓ 20000] theorem w_mul (a b : Nat) [h : MulOK a b] : Op.intArith .mul .i64 (a : Int) (b : Int) = pure (.int .i64 (mulN a b : Nat)) := by
  show pure (Value.int IntKind.i64 (IntKind.i64.wrap ((a : Int) * (b : Int)))) = _
  rw [← Int.natCast_mul, wrap_nat _ h.lt]; rfl
@[go_sem ↓ 20000] theorem w_add (a b : Nat) [h : AddOK a b] : Op.intArith .add .i64 (a : Int) (b : Int) = pure (.int .i64 (addN a b : Nat)) := by
  show pure (Value.int IntKind.i64 (IntKind.i64.wrap ((a : Int) + (b : Int)))) = _
  rw [← Int.natCast_add, wrap_nat _ h.lt]; rfl
instance mulOK6 (a b : Nat) [h : Le6 a] [h' : Le6 b] : MulOK a b := ⟨Nat.lt_of_le_of_lt (Nat.mul_le_mul h.le h'.le) (by omega)⟩
end
section
open Go.ChangeShapes Go.WideShapes Go.ChangeAt Go.RowKit
def rowB (wd x : Int) : Bool := decide (0 ≤ x) && decide (x < (shlN 1 wd.toNat : Nat))
def regB (wd : Int) (rows : List Int) : Bool := btw wd 1 6 && btw rows.length 1 6 && allTo (fun k => rowB wd (nth rows k)) rows.length
theorem regB_w {wd : Int} {rows : List Int} (h : btw wd 1 6 = false) : regB wd rows = false := by simp [regB, h]
theorem regB_h {wd : Int} {rows : List Int} (h : btw rows.length 1 6 = false) : regB wd rows = false := by simp [regB, h]
theorem regB_row {wd : Int} {rows : List Int} {k : Nat} (h : k < rows.length) (hk : rowB wd (nth rows k) = false) : regB wd rows = false := by
  simp [regB, allTo_false (p := fun k => rowB wd (nth rows k)) h hk]
theorem isSide_any (n : Int) (w : World) : Calls Tryd.prog 65 #[.int .i64 n] w fun e w' => e = .returned (.bool (btw n 1 6)) ∧ ∃ x, w' = ext w x := by
  go_enter Tryd.func65, Tryd.ntmps65
  go_wp2_with (first | (go_at_call 40; refine (between_any _ _ _ _).mono ?_; rintro e w' ⟨rfl, xe, rfl⟩))
  go_ret
  exact ⟨rfl, (by repeat (first | exact ext_refl _ | (with_reducible assumption) | refine ext_ext' ?_ _ | refine ext_alloc' ?_ _ | refine ext_drew' ?_))⟩
theorem isSide_b (n : Int) (b : Bool) (h : btw n 1 6 = b) (w : World) : Calls Tryd.prog 65 #[.int .i64 n] w fun e w' => e = .returned (.bool b) ∧ ∃ x, w' = ext w x := h ▸ isSide_any n w
theorem isRegion_any (wd : Int) (rows : List Int) (v : Value) (w : World) (h : IntsAt w v rows) :
    Calls Tryd.prog 33 #[.agg #[.int .i64 wd, v]] w fun e w' => e = .returned (.bool (regB wd rows)) ∧ ∃ x, w' = ext w x := by
  obtain ⟨a, b, o, cap, rfl, hc1, hc2, hc3, hcell⟩ := h.opn
  cases h1 : btw wd 1 6
  · clear hcell
    go_enter Tryd.func33, Tryd.ntmps33
    go_wp2_with (first | (go_at_call 65; refine (isSide_b _ _ (by assumption) _).mono ?_; rintro e w' ⟨rfl, xe, rfl⟩))
    go_ret
    exact ⟨ret_bool (regB_w h1).symm, (by repeat (first | exact ext_refl _ | (with_reducible assumption) | refine ext_ext' ?_ _ | refine ext_alloc' ?_ _ | refine ext_drew' ?_))⟩
  obtain ⟨b1, b2⟩ := btw_iff.1 h1
  cases h2 : btw rows.length 1 6
  · clear hcell
    go_enter Tryd.func33, Tryd.ntmps33
    go_wp2_with (first | (go_at_call 65; refine (isSide_b _ _ (by assumption) _).mono ?_; rintro e w' ⟨rfl, xe, rfl⟩))
    go_ret
    exact ⟨ret_bool (regB_h h2).symm, (by repeat (first | exact ext_refl _ | (with_reducible assumption) | refine ext_ext' ?_ _ | refine ext_alloc' ?_ _ | refine ext_drew' ?_))⟩
  obtain ⟨W, rfl⟩ : ∃ W : Nat, wd = W := ⟨wd.toNat, by omega⟩
  have h6 : Le6 W := ⟨by omega⟩
  have HF := Lib.hid (show regB W rows = (btw W 1 6 && btw rows.length 1 6 && allTo (fun k => rowB W (nth rows k)) rows.length) from rfl)
  go_enter Tryd.func33, Tryd.ntmps33
  go_wp2_with (first | (go_at_call 65; refine (isSide_b _ _ (by assumption) _).mono ?_; rintro e w' ⟨rfl, xe, rfl⟩))
  go_loopw [19] (fun i wr => ∃ k : Nat, k ≤ rows.length ∧ i = .int .i64 k ∧ allTo (fun k => rowB W (nth rows k)) k = true ∧ ∃ x, wr = ext (w.alloc (.cells #[.int .i64 W, .slice a rows.length cap] 24)) x) (fun i _ => rows.length - (intOf i).toNat)
  case atStart => exact ⟨0, Nat.zero_le _, rfl, rfl, (by repeat (first | exact ext_refl _ | (with_reducible assumption) | refine ext_ext' ?_ _ | refine ext_alloc' ?_ _ | refine ext_drew' ?_))⟩
  case round =>
    obtain ⟨k, hk, rfl, hall, x, rfl⟩ := hrel
    have HA := Lib.hid hall
    clear hall
    by_cases hlt : k < rows.length
    · obtain ⟨hb, hi, hck⟩ := hcell k hlt
      clear hcell
      by_cases hneg : nth rows k < 0
      · go_wp2_with fail
        go_ret
        exact ⟨ret_bool (regB_row hlt (by simp [rowB]; omega)).symm, (by repeat (first | exact ext_refl _ | (with_reducible assumption) | refine ext_ext' ?_ _ | refine ext_alloc' ?_ _ | refine ext_drew' ?_))⟩
      by_cases hbig : ((shlN 1 W : Nat) : Int) ≤ nth rows k
      · go_wp2_with fail
        go_ret
        exact ⟨ret_bool (regB_row hlt (by simp [rowB]; omega)).symm, (by repeat (first | exact ext_refl _ | (with_reducible assumption) | refine ext_ext' ?_ _ | refine ext_alloc' ?_ _ | refine ext_drew' ?_))⟩
      · go_wp2_with fail
        go_roundw
        case rel => exact ⟨k + 1, hlt, int_succ k, allTo_succ HA.out (by simp [rowB]; omega), (by repeat (first | exact ext_refl _ | (with_reducible assumption) | refine ext_ext' ?_ _ | refine ext_alloc' ?_ _ | refine ext_drew' ?_))⟩
        case measure => simp [intOf]; omega
    · have hks := Lib.hid (show k = rows.length by omega)
      go_wp2_with fail
      go_ret
      exact ⟨ret_bool (by rw [HF.out, h1, h2, ← hks.out, HA.out]; rfl), (by repeat (first | exact ext_refl _ | (with_reducible assumption) | refine ext_ext' ?_ _ | refine ext_alloc' ?_ _ | refine ext_drew' ?_))⟩
theorem specIsRegion_any (wd : Int) (rows : List Int) (v : Value) (w : World) (h : IntsAt w v rows) :
    Calls Tryd.prog 62 #[.agg #[.int .i64 wd, v]] w fun e w' => e = .returned (.bool (regB wd rows)) ∧ ∃ x, w' = ext w x := by
  obtain ⟨a, b, o, cap, rfl, hc1, hc2, hc3, hcell⟩ := h.opn
  cases h1 : btw wd 1 6
  · clear hcell
    go_enter Tryd.func62, Tryd.ntmps62
    go_wp2_with (first | (go_at_call 46; refine (l1In_b _ _ _ _ (by assumption) _).mono ?_; rintro e w' ⟨rfl, xe, rfl⟩))
    go_ret
    exact ⟨ret_bool (regB_w h1).symm, (by repeat (first | exact ext_refl _ | (with_reducible assumption) | refine ext_ext' ?_ _ | refine ext_alloc' ?_ _ | refine ext_drew' ?_))⟩
  obtain ⟨b1, b2⟩ := btw_iff.1 h1
  cases h2 : btw rows.length 1 6
  · clear hcell
    go_enter Tryd.func62, Tryd.ntmps62
    go_wp2_with (first | (go_at_call 46; refine (l1In_b _ _ _ _ (by assumption) _).mono ?_; rintro e w' ⟨rfl, xe, rfl⟩))
    go_ret
    exact ⟨ret_bool (regB_h h2).symm, (by repeat (first | exact ext_refl _ | (with_reducible assumption) | refine ext_ext' ?_ _ | refine ext_alloc' ?_ _ | refine ext_drew' ?_))⟩
  obtain ⟨W, rfl⟩ : ∃ W : Nat, wd = W := ⟨wd.toNat, by omega⟩
  have h6 : Le6 W := ⟨by omega⟩
  have HF := Lib.hid (show regB W rows = (btw W 1 6 && btw rows.length 1 6 && allTo (fun k => rowB W (nth rows k)) rows.length) from rfl)
  go_enter Tryd.func62, Tryd.ntmps62
  go_wp2_with (first | (go_at_call 46; refine (l1In_b _ _ _ _ (by assumption) _).mono ?_; rintro e w' ⟨rfl, xe, rfl⟩))
  go_loopw [3] (fun i wr => ∃ k : Nat, k ≤ rows.length ∧ i = .int .i64 k ∧ allTo (fun k => rowB W (nth rows k)) k = true ∧ ∃ x, wr = ext (w.alloc (.cells #[.int .i64 W, .slice a rows.length cap] 24)) x) (fun i _ => rows.length - (intOf i).toNat)
  case atStart => exact ⟨0, Nat.zero_le _, rfl, rfl, (by repeat (first | exact ext_refl _ | (with_reducible assumption) | refine ext_ext' ?_ _ | refine ext_alloc' ?_ _ | refine ext_drew' ?_))⟩
  case round =>
    obtain ⟨k, hk, rfl, hall, x, rfl⟩ := hrel
    have HA := Lib.hid hall
    clear hall
    by_cases hlt : k < rows.length
    · obtain ⟨hb, hi, hck⟩ := hcell k hlt
      clear hcell
      by_cases hneg : nth rows k < 0
      · go_wp2_with fail
        refine wp_region_ext_lit (by kernel_rfl) (by kernel_rfl) ?_
        repeat (go_big_quiet_step (fail))
        refine wpQuiet_nil ?_
        intro _ hwq
        obtain ⟨xq, hwq⟩ := hwq
        subst hwq
        go_wp2_with fail
        go_ret
        exact ⟨ret_bool (regB_row hlt (by simp [rowB]; omega)).symm, (by repeat (first | exact ext_refl _ | (with_reducible assumption) | refine ext_ext' ?_ _ | refine ext_alloc' ?_ _ | refine ext_drew' ?_))⟩
      have hneg' : decide (nth rows k < 0) = false := decide_eq_false hneg
      by_cases hbig : ((shlN 1 W : Nat) : Int) ≤ nth rows k
      · go_wp2_with fail
        refine wp_region_ext_lit (by kernel_rfl) (by kernel_rfl) ?_
        repeat (go_big_quiet_step (fail))
        refine wpQuiet_nil ?_
        intro _ hwq
        obtain ⟨xq, hwq⟩ := hwq
        subst hwq
        go_wp2_with fail
        go_ret
        exact ⟨ret_bool (regB_row hlt (by simp [rowB]; omega)).symm, (by repeat (first | exact ext_refl _ | (with_reducible assumption) | refine ext_ext' ?_ _ | refine ext_alloc' ?_ _ | refine ext_drew' ?_))⟩
      · have hbig' : decide (((shlN 1 W : Nat) : Int) ≤ nth rows k) = false := decide_eq_false hbig
        go_wp2_with fail
        refine wp_region_ext_lit (by kernel_rfl) (by kernel_rfl) ?_
        repeat (go_big_quiet_step (fail))
        refine wpQuiet_nil ?_
        intro _ hwq
        obtain ⟨xq, hwq⟩ := hwq
        subst hwq
        go_wp2_with fail
        go_roundw
        case rel => exact ⟨k + 1, hlt, int_succ k, allTo_succ HA.out (by simp [rowB]; omega), (by repeat (first | exact ext_refl _ | (with_reducible assumption) | refine ext_ext' ?_ _ | refine ext_alloc' ?_ _ | refine ext_drew' ?_))⟩
        case measure => simp [intOf]; omega
    · have hks := Lib.hid (show k = rows.length by omega)
      go_wp2_with fail
      go_ret
      exact ⟨ret_bool (by rw [HF.out, h1, h2, ← hks.out, HA.out]; rfl), (by repeat (first | exact ext_refl _ | (with_reducible assumption) | refine ext_ext' ?_ _ | refine ext_alloc' ?_ _ | refine ext_drew' ?_))⟩
end
section
open Go.ChangeShapes Go.WideShapes Go.ChangeAt Go.RowKit
def rowN (rows : List Int) (k : Nat) : Nat := (nth rows k).toNat
/-- the mask of the first k rows -/
def maskTo (W : Nat) (rows : List Int) : Nat → Nat := iter (fun k m => m + shlN (rowN rows k) (mulN k W)) 0
theorem maskTo_succ (W : Nat) (rows : List Int) (k : Nat) : maskTo W rows (k + 1) = maskTo W rows k + shlN (rowN rows k) (mulN k W) := rfl
def maskR (wd : Int) (rows : List Int) : Nat := maskTo wd.toNat rows rows.length
def maskV (wd : Int) (rows : List Int) : Nat := if regB wd rows then maskR wd rows else 0
theorem regB_bd {wd : Int} {rows : List Int} (h : regB wd rows = true) : ∃ W : Nat, wd = W ∧ 1 ≤ W ∧ W ≤ 6 ∧ 1 ≤ rows.length ∧ rows.length ≤ 6 ∧ ∀ k, k < rows.length → nth rows k = (rowN rows k : Nat) ∧ rowN rows k < 2 ^ W := by
  simp only [regB, Bool.and_eq_true, btw_iff] at h
  refine ⟨wd.toNat, by omega, by omega, by omega, by omega, by omega, fun k hk => ?_⟩
  have := allTo_true.1 h.2 k hk
  simp [rowB, shlN] at this
  have h2 : ((2 ^ wd.toNat : Nat) : Int) = 2 ^ wd.toNat := by simp
  refine ⟨by unfold rowN; omega, ?_⟩
  unfold rowN
  omega
theorem maskTo_lt {W : Nat} {rows : List Int} (h : ∀ k, k < rows.length → rowN rows k < 2 ^ W) : ∀ k, k ≤ rows.length → maskTo W rows k < 2 ^ (k * W) := by
  intro k
  induction k with
  | zero => intro _; simp [maskTo, iter]
  | succ k ih =>
    intro hk
    have h1 := ih (by omega)
    have h2 := h k (by omega)
    rw [maskTo_succ, shlN, mulN]
    have e : 2 ^ ((k + 1) * W) = 2 ^ W * 2 ^ (k * W) := by rw [Nat.add_mul, Nat.one_mul, Nat.pow_add, Nat.mul_comm]
    rw [e]
    have h3 : (rowN rows k + 1) * 2 ^ (k * W) ≤ 2 ^ W * 2 ^ (k * W) := Nat.mul_le_mul_right _ h2
    rw [Nat.add_mul, Nat.one_mul] at h3
    omega
theorem maskTo_or {W : Nat} {rows : List Int} (h : ∀ k, k < rows.length → rowN rows k < 2 ^ W) {k : Nat} (hk : k < rows.length) : orN (maskTo W rows k) (shlN (rowN rows k) (mulN k W)) = maskTo W rows (k + 1) := by
  have h1 := maskTo_lt h k (by omega)
  rw [maskTo_succ, orN, shlN, mulN, Nat.mul_comm (rowN rows k), Nat.or_comm, ← Nat.two_pow_add_eq_or_of_lt h1, Nat.add_comm]
theorem pow36 {k W : Nat} (hk : k ≤ 6) (hW : W ≤ 6) : 2 ^ (k * W) ≤ 68719476736 := by
  have : k * W ≤ 36 := Nat.mul_le_mul hk hW
  calc 2 ^ (k * W) ≤ 2 ^ 36 := Nat.pow_le_pow_right (by omega) this
    _ = 68719476736 := by decide
theorem shl_row_lt {r k W : Nat} (hr : r < 2 ^ W) (hk : k < 6) (hW : W ≤ 6) : shlN r (mulN k W) < 68719476736 := by
  have e : 2 ^ ((k + 1) * W) = 2 ^ W * 2 ^ (k * W) := by rw [Nat.add_mul, Nat.one_mul, Nat.pow_add, Nat.mul_comm]
  have h3 : (r + 1) * 2 ^ (k * W) ≤ 2 ^ W * 2 ^ (k * W) := Nat.mul_le_mul_right _ hr
  have h4 := pow36 (k := k + 1) (by omega) hW
  have h5 := Nat.two_pow_pos (k * W)
  rw [Nat.add_mul, Nat.one_mul, ← e] at h3
  unfold shlN mulN
  omega
theorem shlOK_row {r k W : Nat} (hr : r < 2 ^ W) (hk : k < 6) (hW : W ≤ 6) : ShlOK r (mulN k W) :=
  ⟨by have : k * W ≤ 6 * 6 := Nat.mul_le_mul (by omega) hW
      unfold mulN; omega, by have := shl_row_lt hr hk hW; omega⟩
end
section
open Go.ChangeShapes Go.WideShapes Go.ChangeAt Go.RowKit
def hasB (W : Nat) (rows : List Int) (x y : Int) : Bool := btw x 0 ((W : Int) - 1) && (btw y 0 ((rows.length : Int) - 1) && (rowN rows y.toNat).testBit x.toNat)
theorem hasB_x {W : Nat} {rows : List Int} {x y : Int} (h : btw x 0 ((W : Int) - 1) = false) : hasB W rows x y = false := by simp [hasB, h]
theorem hasB_y {W : Nat} {rows : List Int} {x y : Int} (h : btw y 0 ((rows.length : Int) - 1) = false) : hasB W rows x y = false := by simp [hasB, h]
theorem hasB_in {W : Nat} {rows : List Int} {x y : Nat} (h : btw x 0 ((W : Int) - 1) = true) (h2 : btw y 0 ((rows.length : Int) - 1) = true) : hasB W rows x y = (rowN rows y).testBit x := by simp [hasB, h, h2]
theorem hasB_at {W : Nat} {rows : List Int} {x y : Nat} (h : x < W) (h2 : y < rows.length) : hasB W rows x y = (rowN rows y).testBit x := hasB_in (btw_iff.2 ⟨by omega, by omega⟩) (btw_iff.2 ⟨by omega, by omega⟩)
theorem row_lt63 {W : Nat} {rows : List Int} {y : Nat} (hW : W ≤ 6) (h : rowN rows y < 2 ^ W) : Lt63 (rowN rows y) := ⟨by have := Nat.pow_le_pow_right (n := 2) (by omega) hW; omega⟩
set_option maxHeartbeats 1000000 in
theorem has_any (W : Nat) (rows : List Int) (x y : Int) (v : Value) (w : World) (h : IntsAt w v rows) (hr : regB W rows = true) :
    Calls Tryd.prog 66 #[.agg #[.int .i64 W, v], .int .i64 x, .int .i64 y] w fun e w' => e = .returned (.bool (hasB W rows x y)) ∧ ∃ x, w' = ext w x := by
  obtain ⟨a, b, o, cap, rfl, hc1, hc2, hc3, hcell⟩ := h.opn
  obtain ⟨W', hWW, hW1, hW2, hl1, hl2, hrow⟩ := regB_bd hr
  obtain rfl : W = W' := by omega
  cases h1 : btw x 0 ((W : Int) - 1)
  · have HF := Lib.hid (hasB_x (rows := rows) (y := y) h1)
    clear hcell hrow hr hWW
    go_enter Tryd.func66, Tryd.ntmps66
    go_wp2_with (first | (go_at_call 40; refine (between_b _ _ _ _ h1 _).mono ?_; rintro e w' ⟨rfl, xe, rfl⟩))
    go_ret
    exact ⟨ret_bool HF.out.symm, (by repeat (first | exact ext_refl _ | (with_reducible assumption) | refine ext_ext' ?_ _ | refine ext_alloc' ?_ _ | refine ext_drew' ?_))⟩
  cases h2 : btw y 0 ((rows.length : Int) - 1)
  · have HF := Lib.hid (hasB_y (W := W) (x := x) h2)
    clear hcell hrow hr hWW
    go_enter Tryd.func66, Tryd.ntmps66
    go_wp2_with (first | (go_at_call 40; refine (between_any _ _ _ _).mono ?_; rintro e w' ⟨rfl, xe, rfl⟩))
    go_ret
    exact ⟨ret_bool HF.out.symm, (by repeat (first | exact ext_refl _ | (with_reducible assumption) | refine ext_ext' ?_ _ | refine ext_alloc' ?_ _ | refine ext_drew' ?_))⟩
  obtain ⟨x1, x2⟩ := btw_iff.1 h1
  obtain ⟨y1, y2⟩ := btw_iff.1 h2
  obtain ⟨X, rfl⟩ : ∃ X : Nat, x = X := ⟨x.toNat, by omega⟩
  obtain ⟨Y, rfl⟩ : ∃ Y : Nat, y = Y := ⟨y.toNat, by omega⟩
  have HF := Lib.hid (hasB_in h1 h2)
  have hY : Y < rows.length := by omega
  obtain ⟨hb, hi, hck⟩ := hcell Y hY
  obtain ⟨e1, e2⟩ := hrow Y hY
  rw [e1] at hck
  haveI := row_lt63 hW2 e2
  haveI : Le64 X := ⟨by omega⟩
  clear hcell hrow hr hWW e1
  go_enter Tryd.func66, Tryd.ntmps66
  go_wp2_with (first | (go_at_call 40; refine (between_any _ _ _ _).mono ?_; rintro e w' ⟨rfl, xe, rfl⟩))
  go_ret
  exact ⟨ret_bool HF.out.symm, (by repeat (first | exact ext_refl _ | (with_reducible assumption) | refine ext_ext' ?_ _ | refine ext_alloc' ?_ _ | refine ext_drew' ?_))⟩
set_option maxHeartbeats 1000000 in
theorem l6In_any (W : Nat) (rows : List Int) (x y : Int) (v : Value) (w : World) (h : IntsAt w v rows) (hr : regB W rows = true) :
    Calls Tryd.prog 63 #[.agg #[.int .i64 W, v], .int .i64 x, .int .i64 y] w fun e w' => e = .returned (.bool (hasB W rows x y)) ∧ ∃ x, w' = ext w x := by
  obtain ⟨a, b, o, cap, rfl, hc1, hc2, hc3, hcell⟩ := h.opn
  obtain ⟨W', hWW, hW1, hW2, hl1, hl2, hrow⟩ := regB_bd hr
  obtain rfl : W = W' := by omega
  by_cases x1 : 0 ≤ x
  case neg =>
    have HF := Lib.hid (hasB_x (W := W) (rows := rows) (x := x) (y := y) (by simp [btw]; omega))
    have x1' : decide (0 ≤ x) = false := decide_eq_false x1
    clear hcell hrow hr hWW
    go_enter Tryd.func63, Tryd.ntmps63
    go_wp2_with fail
    go_ret
    exact ⟨ret_bool HF.out.symm, (by repeat (first | exact ext_refl _ | (with_reducible assumption) | refine ext_ext' ?_ _ | refine ext_alloc' ?_ _ | refine ext_drew' ?_))⟩
  by_cases y1 : 0 ≤ y
  case neg =>
    have HF := Lib.hid (hasB_y (W := W) (rows := rows) (x := x) (y := y) (by simp [btw]; omega))
    have y1' : decide (0 ≤ y) = false := decide_eq_false y1
    clear hcell hrow hr hWW
    go_enter Tryd.func63, Tryd.ntmps63
    go_wp2_with fail
    go_ret
    exact ⟨ret_bool HF.out.symm, (by repeat (first | exact ext_refl _ | (with_reducible assumption) | refine ext_ext' ?_ _ | refine ext_alloc' ?_ _ | refine ext_drew' ?_))⟩
  obtain ⟨X, rfl⟩ : ∃ X : Nat, x = X := ⟨x.toNat, by omega⟩
  obtain ⟨Y, rfl⟩ : ∃ Y : Nat, y = Y := ⟨y.toNat, by omega⟩
  by_cases x2 : X < W
  case neg =>
    have HF := Lib.hid (hasB_x (W := W) (rows := rows) (x := X) (y := Y) (by simp [btw]; omega))
    have x2' : W ≤ X := by omega
    clear hcell hrow hr hWW
    go_enter Tryd.func63, Tryd.ntmps63
    go_wp2_with fail
    go_ret
    exact ⟨ret_bool HF.out.symm, (by repeat (first | exact ext_refl _ | (with_reducible assumption) | refine ext_ext' ?_ _ | refine ext_alloc' ?_ _ | refine ext_drew' ?_))⟩
  by_cases y2 : Y < rows.length
  case neg =>
    have HF := Lib.hid (hasB_y (W := W) (rows := rows) (x := X) (y := Y) (by simp [btw]; omega))
    have y2' : rows.length ≤ Y := by omega
    clear hcell hrow hr hWW
    go_enter Tryd.func63, Tryd.ntmps63
    go_wp2_with fail
    go_ret
    exact ⟨ret_bool HF.out.symm, (by repeat (first | exact ext_refl _ | (with_reducible assumption) | refine ext_ext' ?_ _ | refine ext_alloc' ?_ _ | refine ext_drew' ?_))⟩
  have HF := Lib.hid (hasB_at x2 y2)
  obtain ⟨hb, hi, hck⟩ := hcell Y y2
  obtain ⟨e1, e2⟩ := hrow Y y2
  rw [e1] at hck
  haveI := row_lt63 hW2 e2
  haveI : Le64 X := ⟨by omega⟩
  clear hcell hrow hr hWW e1
  go_enter Tryd.func63, Tryd.ntmps63
  go_wp2_with fail
  go_ret
  exact ⟨ret_bool HF.out.symm, (by repeat (first | exact ext_refl _ | (with_reducible assumption) | refine ext_ext' ?_ _ | refine ext_alloc' ?_ _ | refine ext_drew' ?_))⟩
end
section
open Go.ChangeShapes Go.WideShapes Go.ChangeAt Go.RowKit
theorem l6In_b2 (W : Nat) (rows : List Int) (x y : Nat) (b : Bool) (v : Value) (w : World) (h : IntsAt w v rows) (hr : regB W rows = true) (hx : x < W) (hy : y < rows.length) (hb : (rowN rows y).testBit x = b) :
    Calls Tryd.prog 63 #[.agg #[.int .i64 W, v], .int .i64 x, .int .i64 y] w fun e w' => e = .returned (.bool b) ∧ ∃ x, w' = ext w x := by
  have := l6In_any W rows x y v w h hr
  rwa [hasB_at hx hy, hb] at this
theorem has_b2 (W : Nat) (rows : List Int) (x y : Nat) (b : Bool) (v : Value) (w : World) (h : IntsAt w v rows) (hr : regB W rows = true) (hx : x < W) (hy : y < rows.length) (hb : (rowN rows y).testBit x = b) :
    Calls Tryd.prog 66 #[.agg #[.int .i64 W, v], .int .i64 x, .int .i64 y] w fun e w' => e = .returned (.bool b) ∧ ∃ x, w' = ext w x := by
  have := has_any W rows x y v w h hr
  rwa [hasB_at hx hy, hb] at this
end
section
open Go.ChangeShapes Go.WideShapes Go.ChangeAt Go.RowKit
def ch (b : Bool) : UInt8 := if b then 35 else 46
def txTo (rows : List Int) (y x : Nat) : List UInt8 := (List.range x).map fun i => ch ((rowN rows y).testBit i)
theorem txTo_len (rows : List Int) (y x : Nat) : (txTo rows y x).length = x := by simp [txTo]
theorem txTo_t {rows : List Int} {y x : Nat} (h : (rowN rows y).testBit x = true) : txTo rows y (x + 1) = txTo rows y x ++ [35] := by simp [txTo, List.range_succ, h, ch]
theorem txTo_f {rows : List Int} {y x : Nat} (h : (rowN rows y).testBit x = false) : txTo rows y (x + 1) = txTo rows y x ++ [46] := by simp [txTo, List.range_succ, h, ch]
def lsTo (W : Nat) (rows : List Int) (k : Nat) : List (List UInt8) := (List.range k).map fun y => txTo rows y W
theorem lsTo_len (W : Nat) (rows : List Int) (k : Nat) : (lsTo W rows k).length = k := by simp [lsTo]
theorem lsTo_succ (W : Nat) (rows : List Int) (k : Nat) : lsTo W rows (k + 1) = lsTo W rows k ++ [txTo rows k W] := by simp [lsTo, List.range_succ]
def ftTo (W : Nat) (rows : List Int) (k : Nat) : List UInt8 := Lib.join (lsTo W rows k) [47]
/-- what stands ahead of row k -/
def ftHd (W : Nat) (rows : List Int) (k : Nat) : List UInt8 := if k = 0 then [] else ftTo W rows k ++ [47]
theorem ftTo_succ (W : Nat) (rows : List Int) (k : Nat) : ftTo W rows (k + 1) = ftHd W rows k ++ txTo rows k W := by
  unfold ftHd ftTo
  rw [lsTo_succ]
  by_cases h : k = 0
  · subst h; simp [lsTo, Lib.join_one]
  · rw [if_neg h, join_snoc _ _ _ (by intro e; have := lsTo_len W rows k; rw [e] at this; exact h this.symm)]
theorem ftTo_len (W : Nat) (rows : List Int) (k : Nat) : (ftTo W rows k).length ≤ k * (W + 1) := by
  induction k with
  | zero => simp [ftTo, lsTo, Lib.join_nil]
  | succ k ih =>
    rw [ftTo_succ, List.length_append, txTo_len, Nat.succ_mul]
    unfold ftHd
    split
    · simp; omega
    · simp; omega
theorem ftHd_len {W : Nat} {rows : List Int} {k : Nat} (hW : W ≤ 6) (hk : k ≤ 6) : (ftHd W rows k).length ≤ 43 ∧ (ftTo W rows k).length ≤ 42 := by
  have h1 := ftTo_len W rows k
  have h2 : k * (W + 1) ≤ 6 * 7 := Nat.mul_le_mul hk (by omega)
  unfold ftHd
  split
  · simp; omega
  · simp; omega
def fmtV (wd : Int) (rows : List Int) : List UInt8 := if regB wd rows then ftTo wd.toNat rows rows.length else []
theorem fmtV_no {wd : Int} {rows : List Int} (h : regB wd rows = false) : fmtV wd rows = [] := by simp [fmtV, h]
theorem fmtV_yes {W : Nat} {rows : List Int} (h : regB W rows = true) : fmtV W rows = ftTo W rows rows.length := by simp [fmtV, h]
theorem ret_str {a b : List UInt8} (h : a = b) : Ending.returned (.string (bsOf a)) = .returned (.string (bsOf b)) := by rw [h]
set_option maxHeartbeats 2000000 in
theorem specFmt_any (wd : Int) (rows : List Int) (v : Value) (w : World) (h : IntsAt w v rows) :
    Calls Tryd.prog 31 #[.agg #[.int .i64 wd, v]] w fun e w' => e = .returned (.string (bsOf (fmtV wd rows))) ∧ ∃ x, w' = ext w x := by
  have h0 := h
  obtain ⟨a, b, o, cap, rfl, hc1, hc2, hc3, hcell⟩ := h.opn
  have h1 := h0.alloc (.cells #[.int .i64 wd, .slice a rows.length cap] 24)
  clear hcell h h0
  cases hr : regB wd rows
  · have HF := Lib.hid (fmtV_no hr)
    go_enter Tryd.func31, Tryd.ntmps31
    go_wp2_with fail
    go_loopw [3, 4] (fun u i wr => u = .string ⟨#[]⟩ ∧ i = .int .i64 0 ∧ ∃ x, wr = ext (w.alloc (.cells #[.int .i64 wd, .slice a rows.length cap] 24)) x) (fun _ _ _ => 0)
    case atStart => exact ⟨rfl, rfl, (by repeat (first | exact ext_refl _ | (with_reducible assumption) | refine ext_ext' ?_ _ | refine ext_alloc' ?_ _ | refine ext_drew' ?_))⟩
    case round =>
      obtain ⟨rfl, rfl, x, rfl⟩ := hrel
      by_cases hp : 0 < rows.length
      · go_wp2_with (first | (go_at_call 62; refine (specIsRegion_any _ _ _ _ (by first | (with_reducible assumption) | (with_reducible exact IntsAt.mono (by assumption) (bel_of_ext (by repeat (first | exact ext_refl _ | (with_reducible assumption) | refine ext_ext' ?_ _ | refine ext_alloc' ?_ _ | refine ext_drew' ?_)))) | (with_reducible exact RegionAt.mono (by assumption) (bel_of_ext (by repeat (first | exact ext_refl _ | (with_reducible assumption) | refine ext_ext' ?_ _ | refine ext_alloc' ?_ _ | refine ext_drew' ?_)))) | (with_reducible exact TextsAt.mono (by assumption) (bel_of_ext (by repeat (first | exact ext_refl _ | (with_reducible assumption) | refine ext_ext' ?_ _ | refine ext_alloc' ?_ _ | refine ext_drew' ?_)))))).mono ?_; rintro e w' ⟨rfl, xe, rfl⟩))
        go_ret
        exact ⟨by rw [HF.out]; rfl, (by repeat (first | exact ext_refl _ | (with_reducible assumption) | refine ext_ext' ?_ _ | refine ext_alloc' ?_ _ | refine ext_drew' ?_))⟩
      · have hz : rows.length ≤ 0 := by omega
        go_wp2_with fail
        go_ret
        exact ⟨by rw [HF.out]; rfl, (by repeat (first | exact ext_refl _ | (with_reducible assumption) | refine ext_ext' ?_ _ | refine ext_alloc' ?_ _ | refine ext_drew' ?_))⟩
  obtain ⟨W, rfl, hW1, hW2, hl1, hl2, hrow⟩ := regB_bd hr
  have HF := Lib.hid (fmtV_yes hr)
  have HR := Lib.hid hr
  clear hrow
  go_enter Tryd.func31, Tryd.ntmps31
  go_wp2_with fail
  go_loopw [3, 4] (fun u i wr => ∃ k : Nat, k ≤ rows.length ∧ u = .string (bsOf (ftTo W rows k)) ∧ i = .int .i64 k ∧ ∃ x, wr = ext (w.alloc (.cells #[.int .i64 W, .slice a rows.length cap] 24)) x) (fun _ i _ => rows.length - (intOf i).toNat)
  case atStart => exact ⟨0, Nat.zero_le _, rfl, rfl, (by repeat (first | exact ext_refl _ | (with_reducible assumption) | refine ext_ext' ?_ _ | refine ext_alloc' ?_ _ | refine ext_drew' ?_))⟩
  case round =>
    obtain ⟨y, hy, rfl, rfl, x, rfl⟩ := hrel
    obtain ⟨l1, l2⟩ := ftHd_len (W := W) (rows := rows) (k := y) hW2 (by omega)
    haveI : LenOK (ftTo W rows y) := ⟨by omega⟩
    by_cases hlt : y < rows.length
    · by_cases hy0 : y = 0
      · subst hy0
        have HH := Lib.hid (show ftHd W rows 0 = [] from rfl)
        have HS := Lib.hid (ftTo_succ W rows 0)
        go_wp2_with (first | (go_at_call 62; refine (specIsRegion_any _ _ _ _ (by first | (with_reducible assumption) | (with_reducible exact IntsAt.mono (by assumption) (bel_of_ext (by repeat (first | exact ext_refl _ | (with_reducible assumption) | refine ext_ext' ?_ _ | refine ext_alloc' ?_ _ | refine ext_drew' ?_)))) | (with_reducible exact RegionAt.mono (by assumption) (bel_of_ext (by repeat (first | exact ext_refl _ | (with_reducible assumption) | refine ext_ext' ?_ _ | refine ext_alloc' ?_ _ | refine ext_drew' ?_)))) | (with_reducible exact TextsAt.mono (by assumption) (bel_of_ext (by repeat (first | exact ext_refl _ | (with_reducible assumption) | refine ext_ext' ?_ _ | refine ext_alloc' ?_ _ | refine ext_drew' ?_)))))).mono ?_; rintro e w' ⟨rfl, xe, rfl⟩))
        go_loopw [3, 5] (fun u i wr2 => ∃ q : Nat, q ≤ W ∧ u = .string (bsOf (ftHd W rows 0 ++ txTo rows 0 q)) ∧ i = .int .i64 q ∧ ∃ x, wr2 = ext (w.alloc (.cells #[.int .i64 W, .slice a rows.length cap] 24)) x) (fun _ i _ => W - (intOf i).toNat)
        case atStart => exact ⟨0, Nat.zero_le _, rfl, rfl, (by repeat (first | exact ext_refl _ | (with_reducible assumption) | refine ext_ext' ?_ _ | refine ext_alloc' ?_ _ | refine ext_drew' ?_))⟩
        case round =>
          obtain ⟨q, hq, rfl, rfl, x2, rfl⟩ := hrel
          haveI : LenOK (ftHd W rows 0 ++ txTo rows 0 q) := ⟨by rw [List.length_append, txTo_len]; omega⟩
          by_cases hlt2 : q < W
          · cases hb : (rowN rows 0).testBit q
            all_goals
              have HB := Lib.hid hb
              clear hb
              go_wp2_with (first | (go_at_call 63; refine (l6In_b2 W rows _ _ _ _ _ (by first | (with_reducible assumption) | (with_reducible exact IntsAt.mono (by assumption) (bel_of_ext (by repeat (first | exact ext_refl _ | (with_reducible assumption) | refine ext_ext' ?_ _ | refine ext_alloc' ?_ _ | refine ext_drew' ?_)))) | (with_reducible exact RegionAt.mono (by assumption) (bel_of_ext (by repeat (first | exact ext_refl _ | (with_reducible assumption) | refine ext_ext' ?_ _ | refine ext_alloc' ?_ _ | refine ext_drew' ?_)))) | (with_reducible exact TextsAt.mono (by assumption) (bel_of_ext (by repeat (first | exact ext_refl _ | (with_reducible assumption) | refine ext_ext' ?_ _ | refine ext_alloc' ?_ _ | refine ext_drew' ?_))))) HR.out hlt2 hlt HB.out).mono ?_; rintro e w' ⟨rfl, xe, rfl⟩))
              go_roundw
              case rel => exact ⟨q + 1, hlt2, by first | rw [txTo_f HB.out, ← List.append_assoc] | rw [txTo_t HB.out, ← List.append_assoc], int_succ q, (by repeat (first | exact ext_refl _ | (with_reducible assumption) | refine ext_ext' ?_ _ | refine ext_alloc' ?_ _ | refine ext_drew' ?_))⟩
              case measure => simp [intOf]; omega
          · have HQ := Lib.hid (show q = W by omega)
            go_wp2_with fail
            go_roundw
            case rel => exact ⟨0 + 1, hlt, by rw [HS.out, HQ.out], int_succ 0, (by repeat (first | exact ext_refl _ | (with_reducible assumption) | refine ext_ext' ?_ _ | refine ext_alloc' ?_ _ | refine ext_drew' ?_))⟩
            case measure => simp [intOf]; omega
      · have hy1 : 0 < y := by omega
        have HH := Lib.hid (show ftHd W rows y = ftTo W rows y ++ [47] by unfold ftHd; rw [if_neg hy0])
        have HS := Lib.hid (ftTo_succ W rows y)
        go_wp2_with (first | (go_at_call 62; refine (specIsRegion_any _ _ _ _ (by first | (with_reducible assumption) | (with_reducible exact IntsAt.mono (by assumption) (bel_of_ext (by repeat (first | exact ext_refl _ | (with_reducible assumption) | refine ext_ext' ?_ _ | refine ext_alloc' ?_ _ | refine ext_drew' ?_)))) | (with_reducible exact RegionAt.mono (by assumption) (bel_of_ext (by repeat (first | exact ext_refl _ | (with_reducible assumption) | refine ext_ext' ?_ _ | refine ext_alloc' ?_ _ | refine ext_drew' ?_)))) | (with_reducible exact TextsAt.mono (by assumption) (bel_of_ext (by repeat (first | exact ext_refl _ | (with_reducible assumption) | refine ext_ext' ?_ _ | refine ext_alloc' ?_ _ | refine ext_drew' ?_)))))).mono ?_; rintro e w' ⟨rfl, xe, rfl⟩))
        go_loopw [3, 5] (fun u i wr2 => ∃ q : Nat, q ≤ W ∧ u = .string (bsOf (ftHd W rows y ++ txTo rows y q)) ∧ i = .int .i64 q ∧ ∃ x, wr2 = ext (w.alloc (.cells #[.int .i64 W, .slice a rows.length cap] 24)) x) (fun _ i _ => W - (intOf i).toNat)
        case atStart => exact ⟨0, Nat.zero_le _, by rw [HH.out]; simp [txTo], rfl, (by repeat (first | exact ext_refl _ | (with_reducible assumption) | refine ext_ext' ?_ _ | refine ext_alloc' ?_ _ | refine ext_drew' ?_))⟩
        case round =>
          obtain ⟨q, hq, rfl, rfl, x2, rfl⟩ := hrel
          haveI : LenOK (ftHd W rows y ++ txTo rows y q) := ⟨by rw [List.length_append, txTo_len]; omega⟩
          by_cases hlt2 : q < W
          · cases hb : (rowN rows y).testBit q
            all_goals
              have HB := Lib.hid hb
              clear hb
              go_wp2_with (first | (go_at_call 63; refine (l6In_b2 W rows _ _ _ _ _ (by first | (with_reducible assumption) | (with_reducible exact IntsAt.mono (by assumption) (bel_of_ext (by repeat (first | exact ext_refl _ | (with_reducible assumption) | refine ext_ext' ?_ _ | refine ext_alloc' ?_ _ | refine ext_drew' ?_)))) | (with_reducible exact RegionAt.mono (by assumption) (bel_of_ext (by repeat (first | exact ext_refl _ | (with_reducible assumption) | refine ext_ext' ?_ _ | refine ext_alloc' ?_ _ | refine ext_drew' ?_)))) | (with_reducible exact TextsAt.mono (by assumption) (bel_of_ext (by repeat (first | exact ext_refl _ | (with_reducible assumption) | refine ext_ext' ?_ _ | refine ext_alloc' ?_ _ | refine ext_drew' ?_))))) HR.out hlt2 hlt HB.out).mono ?_; rintro e w' ⟨rfl, xe, rfl⟩))
              go_roundw
              case rel => exact ⟨q + 1, hlt2, by first | rw [txTo_f HB.out, ← List.append_assoc] | rw [txTo_t HB.out, ← List.append_assoc], int_succ q, (by repeat (first | exact ext_refl _ | (with_reducible assumption) | refine ext_ext' ?_ _ | refine ext_alloc' ?_ _ | refine ext_drew' ?_))⟩
              case measure => simp [intOf]; omega
          · have HQ := Lib.hid (show q = W by omega)
            go_wp2_with fail
            go_roundw
            case rel => exact ⟨y + 1, hlt, by rw [HS.out, HQ.out], int_succ y, (by repeat (first | exact ext_refl _ | (with_reducible assumption) | refine ext_ext' ?_ _ | refine ext_alloc' ?_ _ | refine ext_drew' ?_))⟩
            case measure => simp [intOf]; omega
    · have HY := Lib.hid (show y = rows.length by omega)
      go_wp2_with fail
      go_ret
      exact ⟨ret_str (by rw [HF.out, HY.out]), (by repeat (first | exact ext_refl _ | (with_reducible assumption) | refine ext_ext' ?_ _ | refine ext_alloc' ?_ _ | refine ext_drew' ?_))⟩
end
section
open Go.ChangeShapes Go.WideShapes Go.ChangeAt Go.RowKit
theorem tx_get {rows : List Int} {y W i : Nat} (h : i < W) : (txTo rows y W).getD i 0 = ch ((rowN rows y).testBit i) := by
  simp [txTo, List.getD, h]
theorem ch_35 (b : Bool) : decide (ch b = 35) = b := by cases b <;> decide
theorem rv_tx {rows : List Int} {y W : Nat} (hW : W ≤ 6) (h : rowN rows y < 2 ^ W) : rv (txTo rows y W) = rowN rows y := by
  apply Nat.eq_of_testBit_eq
  intro i
  rw [rv, txTo_len, rvTo_bit, show min W 6 = W by omega]
  by_cases hi : i < W
  · rw [tx_get hi, ch_35]; simp [hi]
  · rw [Nat.testBit_lt_two_pow (Nat.lt_of_lt_of_le h (Nat.pow_le_pow_right (by omega) (by omega)))]
    simp [hi]
theorem ch_47 (b : Bool) : ch b ≠ 47 := by cases b <;> decide
theorem tx_47 (rows : List Int) (y W : Nat) : (47 : UInt8) ∉ txTo rows y W := by
  intro h
  simp only [txTo, List.mem_map] at h
  obtain ⟨i, _, e⟩ := h
  exact ch_47 _ e
theorem prI_fmt {W : Nat} {rows : List Int} (h : regB W rows = true) : prI (ftTo W rows rows.length) = (W, rows) := by
  obtain ⟨W', e, h1, h2, h3, h4, hk⟩ := regB_bd h
  obtain rfl : W = W' := by omega
  have hs : Lib.split (ftTo W rows rows.length) [47] = lsTo W rows rows.length := by
    refine split_join 47 (fun e => ?_) fun q hq => ?_
    · have := lsTo_len W rows rows.length
      rw [e] at this; simp at this; omega
    · simp only [lsTo, List.mem_map] at hq
      obtain ⟨y, _, e⟩ := hq
      rw [← e]; exact tx_47 rows y W
  have hl : (lsTo W rows rows.length).map (fun r => ((rv r : Nat) : Int)) = rows := by
    apply List.ext_getElem
    · simp [lsTo_len]
    · intro i g1 g2
      have hi := hk i g2
      simp only [lsTo, List.getElem_map, List.getElem_range]
      rw [rv_tx h2 hi.2, nth_get g2, hi.1]
  have hd : ((lsTo W rows rows.length).getLastD []).length = W := by
    obtain ⟨n, hn⟩ : ∃ n, rows.length = n + 1 := ⟨rows.length - 1, by omega⟩
    rw [hn, lsTo_succ]
    simp [txTo_len]
  simp only [prI, hs, hl, hd]
end
section
open Go.ChangeShapes Go.WideShapes Go.ChangeAt Go.RowKit
/-- the rows that are done, the row at hand, the place in it, the width -/
structure PS where
  rs : List Int
  cur : Nat
  x : Nat
  W : Nat
def PS.all (s : PS) : List Int := s.rs ++ [(s.cur : Int)]
def psStep (c : UInt8) (s : PS) : Option PS :=
  if c = 47 then some ⟨s.all, 0, 0, s.W⟩ else if c = 35 then some ⟨s.rs, orN s.cur (shlN 1 s.x), s.x + 1, max s.W (s.x + 1)⟩ else if c = 46 then some ⟨s.rs, s.cur, s.x + 1, max s.W (s.x + 1)⟩ else none
def psRun : List UInt8 → PS → Option PS
  | [], s => some s
  | c :: l, s => (psStep c s).bind (psRun l)
theorem psRun_app : ∀ (l m : List UInt8) (s : PS), psRun (l ++ m) s = (psRun l s).bind (psRun m)
  | [], m, s => rfl
  | c :: l, m, s => by
    rw [List.cons_append, psRun, psRun]
    cases psStep c s with
    | none => rfl
    | some t => exact psRun_app l m t
def ps0 : PS := ⟨[], 0, 0, 0⟩
theorem mod_bit {n q : Nat} : n % 2 ^ (q + 1) = if n.testBit q then orN (n % 2 ^ q) (shlN 1 q) else n % 2 ^ q := by
  apply Nat.eq_of_testBit_eq
  intro i
  rw [Nat.testBit_mod_two_pow]
  by_cases hb : n.testBit q = true
  · rw [if_pos hb, orN, shlN, Nat.one_mul, Nat.testBit_or, Nat.testBit_mod_two_pow, Nat.testBit_two_pow]
    by_cases e : q = i
    · subst e; simp [hb]
    · have e2 : decide (i < q + 1) = decide (i < q) := by simp; omega
      rw [e2]; simp [e]
  · rw [if_neg hb, Nat.testBit_mod_two_pow]
    by_cases e : i = q
    · subst e; simp at hb; simp [hb]
    · have e2 : decide (i < q + 1) = decide (i < q) := by simp; omega
      rw [e2]
theorem psRun_tx (rows : List Int) (y : Nat) (rs : List Int) (W0 : Nat) : ∀ q, psRun (txTo rows y q) ⟨rs, 0, 0, W0⟩ = some ⟨rs, rowN rows y % 2 ^ q, q, max W0 q⟩
  | 0 => by simp [txTo, psRun, Nat.mod_one]
  | q + 1 => by
    have ih := psRun_tx rows y rs W0 q
    rw [mod_bit]
    cases hb : (rowN rows y).testBit q
    · rw [txTo_f hb, psRun_app, ih]
      simp [psRun, psStep]
    · rw [txTo_t hb, psRun_app, ih]
      simp [psRun, psStep]
theorem psRun_ft {W : Nat} {rows : List Int} (h : regB W rows = true) : ∀ k, k < rows.length → psRun (ftTo W rows (k + 1)) ps0 = some ⟨rows.take k, rowN rows k, W, W⟩ := by
  obtain ⟨W', e, h1, h2, h3, h4, hk⟩ := regB_bd h
  obtain rfl : W = W' := by omega
  intro k
  induction k with
  | zero =>
    intro h0
    have := psRun_tx rows 0 [] 0 W
    rw [ftTo_succ]
    show psRun (txTo rows 0 W) ⟨[], 0, 0, 0⟩ = _
    rw [this, Nat.mod_eq_of_lt (hk 0 h0).2]
    simp
  | succ k ih =>
    intro hlt
    have ih := ih (by omega)
    have e1 : ftHd W rows (k + 1) = ftTo W rows (k + 1) ++ [47] := by unfold ftHd; rw [if_neg (by omega)]
    have e2 : rows.take (k + 1) = rows.take k ++ [((rowN rows k : Nat) : Int)] := by
      rw [List.take_add_one, List.getElem?_eq_getElem (by omega), nth_get (by omega), (hk k (by omega)).1]; rfl
    have := psRun_tx rows (k + 1) (rows.take (k + 1)) W W
    rw [ftTo_succ, e1, psRun_app, psRun_app, ih]
    simp only [Option.bind_some]
    rw [psRun, psStep, if_pos rfl]
    simp only [Option.bind_some, psRun, PS.all]
    rw [← e2, this, Nat.mod_eq_of_lt (hk (k + 1) hlt).2]
    simp
/-- both readings in one: the region whose text this is -/
def pB (s : List UInt8) : Bool := regB (prI s).1 (prI s).2 && decide (fmtV (prI s).1 (prI s).2 = s)
def pW (s : List UInt8) : Int := if pB s then ((prI s).1 : Int) else 0
def pR (s : List UInt8) : List Int := if pB s then (prI s).2 else []
theorem pB_no1 {s : List UInt8} (h : regB (prI s).1 (prI s).2 = false) : pB s = false := by simp [pB, h]
theorem pB_no2 {s : List UInt8} (h : fmtV (prI s).1 (prI s).2 ≠ s) : pB s = false := by simp [pB, h]
theorem pB_yes {s : List UInt8} (h : regB (prI s).1 (prI s).2 = true) (h2 : fmtV (prI s).1 (prI s).2 = s) : pB s = true := by simp [pB, h, h2]
/-- a text that is read is a region's text -/
theorem pB_fmt {s : List UInt8} (h : pB s = true) : ∃ (W : Nat) (rows : List Int), regB W rows = true ∧ s = ftTo W rows rows.length ∧ prI s = (W, rows) := by
  simp only [pB, Bool.and_eq_true, decide_eq_true_eq] at h
  refine ⟨(prI s).1, (prI s).2, h.1, ?_, rfl⟩
  have := h.2
  rw [fmtV_yes h.1] at this
  exact this.symm
theorem pB_run {s : List UInt8} (h : pB s = true) : ∃ t, psRun s ps0 = some t ∧ ((t.W : Int), t.all) = (((prI s).1 : Int), (prI s).2) ∧ regB t.W t.all = true := by
  obtain ⟨W, rows, hr, hs, hp⟩ := pB_fmt h
  obtain ⟨W', e, h1, h2, h3, h4, hk⟩ := regB_bd hr
  obtain ⟨n, hn⟩ : ∃ n, rows.length = n + 1 := ⟨rows.length - 1, by omega⟩
  have hrun := psRun_ft hr n (by omega)
  rw [← hn, ← hs] at hrun
  have e2 : rows.take n ++ [((rowN rows n : Nat) : Int)] = rows := by
    have : rows.take (n + 1) = rows.take n ++ [((rowN rows n : Nat) : Int)] := by
      rw [List.take_add_one, List.getElem?_eq_getElem (by omega), nth_get (by omega), (hk n (by omega)).1]; rfl
    rw [← this, List.take_of_length_le (by omega)]
  refine ⟨_, hrun, ?_, ?_⟩
  · rw [hp]; simp only [PS.all, e2]
  · simp only [PS.all, e2]; exact hr
theorem ft_hd (W : Nat) (rows : List Int) : ∀ k, (ftHd W rows k).length ≤ k * (W + 1)
  | 0 => by simp [ftHd]
  | k + 1 => by
    have ih := ft_hd W rows k
    unfold ftHd
    rw [if_neg (by omega), ftTo_succ, Nat.succ_mul]
    simp only [List.length_append, txTo_len, List.length_cons, List.length_nil]
    omega
theorem ft_len_le {W : Nat} {rows : List Int} (h : regB W rows = true) : (ftTo W rows rows.length).length ≤ 41 := by
  obtain ⟨W', e, h1, h2, h3, h4, hk⟩ := regB_bd h
  obtain ⟨n, hn⟩ : ∃ n, rows.length = n + 1 := ⟨rows.length - 1, by omega⟩
  rw [hn, ftTo_succ, List.length_append, txTo_len]
  have h5 := ft_hd W rows n
  have h6 : n * (W + 1) ≤ 5 * 7 := Nat.mul_le_mul (by omega) (by omega)
  omega
theorem pB_len {s : List UInt8} (h : pB s = true) : s.length ≤ 41 := by
  obtain ⟨W, rows, hr, hs, _⟩ := pB_fmt h
  rw [hs]; exact ft_len_le hr
/-- what the reference says at the end of its reading -/
theorem pB_end {s : List UInt8} {t : PS} (h : psRun s ps0 = some t) (hf : fmtV t.W t.all = s) (hn : s ≠ []) : pB s = true ∧ pW s = t.W ∧ pR s = t.all := by
  have hr : regB t.W t.all = true := by
    cases hr : regB t.W t.all
    · rw [fmtV_no hr] at hf; exact absurd hf.symm hn
    · rfl
  have hp : prI s = (t.W, t.all) := by rw [← hf, fmtV_yes hr]; exact prI_fmt hr
  have hb : pB s = true := pB_yes (by rw [hp]; exact hr) (by rw [hp]; exact hf)
  exact ⟨hb, by rw [pW, if_pos hb, hp], by rw [pR, if_pos hb, hp]⟩
theorem pB_end_no {s : List UInt8} {t : PS} (h : psRun s ps0 = some t) (hf : fmtV t.W t.all ≠ s) : pB s = false := by
  cases hb : pB s
  · rfl
  · obtain ⟨t', h1, h2, h3⟩ := pB_run hb
    rw [h] at h1
    cases h1
    have h4 := hb
    simp only [pB, Bool.and_eq_true, decide_eq_true_eq] at h4
    simp only [Prod.mk.injEq] at h2
    rw [← h2.1, ← h2.2] at h4
    exact absurd h4.2 hf
theorem pB_bad {s : List UInt8} {k : Nat} (h : psRun (s.take k) ps0 = none) : pB s = false := by
  cases hb : pB s
  · rfl
  · obtain ⟨t, h1, _⟩ := pB_run hb
    rw [← List.take_append_drop k s, psRun_app, h] at h1
    cases h1
theorem pB_nil : pB [] = false := by
  cases hb : pB []
  · rfl
  · obtain ⟨t, h1, _, h3⟩ := pB_run hb
    cases h1
    cases h3
theorem ps_take {s : List UInt8} {k : Nat} (h : k < s.length) {t : PS} (ht : psRun (s.take k) ps0 = some t) : psRun (s.take (k + 1)) ps0 = psStep (s.getD k 0) t := by
  have e : s.take (k + 1) = s.take k ++ [s.getD k 0] := by rw [List.take_add_one, List.getElem?_eq_getElem h, List.getD, List.getElem?_eq_getElem h]; rfl
  rw [e, psRun_app, ht]
  simp only [Option.bind_some, psRun]
  cases psStep (s.getD k 0) t <;> rfl
end
section
open Go.ChangeShapes Go.WideShapes Go.ChangeAt Go.RowKit
theorem add_or {n k : Nat} (h : n.testBit k = false) : n + 2 ^ k = n ||| 2 ^ k := by
  have hr : n % 2 ^ (k + 1) < 2 ^ k := by
    rw [Nat.testBit_eq_decide_div_mod_eq, decide_eq_false_iff_not] at h
    have h1 : n / 2 ^ k % 2 = 0 := by omega
    rw [Nat.pow_succ, Nat.mod_mul, h1]
    have := Nat.mod_lt n (Nat.two_pow_pos k)
    omega
  have e0 := Nat.div_add_mod n (2 ^ (k + 1))
  have h1 := Nat.two_pow_add_eq_or_of_lt (i := k) hr 1
  have h2 := Nat.two_pow_add_eq_or_of_lt (i := k + 1) (Nat.mod_lt n (Nat.two_pow_pos _)) (n / 2 ^ (k + 1))
  have hlt : 2 ^ k * 1 + n % 2 ^ (k + 1) < 2 ^ (k + 1) := by rw [Nat.pow_succ]; rw [Nat.pow_succ] at hr; omega
  have h3 := Nat.two_pow_add_eq_or_of_lt (i := k + 1) hlt (n / 2 ^ (k + 1))
  rw [Nat.mul_one] at h1 h3
  generalize 2 ^ (k + 1) * (n / 2 ^ (k + 1)) = q at e0 h2 h3
  generalize n % 2 ^ (k + 1) = r at e0 h1 h2 h3
  have e1 : n + 2 ^ k = q + (2 ^ k + r) := by omega
  rw [e1, h3, h1, Nat.or_comm (2 ^ k), ← Nat.or_assoc, ← h2, e0]
theorem addN_or {n k : Nat} (h : n.testBit k = false) : addN n (shlN 1 k) = orN n (shlN 1 k) := by
  unfold addN orN shlN; rw [Nat.one_mul]; exact add_or h
theorem or_bit_lt {down x : Nat} (h : down < 2 ^ (x + 1)) : orN down (shlN 1 x) < 2 ^ (x + 1) := by
  unfold orN shlN
  exact Nat.or_lt_two_pow h (by rw [Nat.one_mul]; exact Nat.pow_lt_pow_right (by omega) (by omega))
end
section
open Go.ChangeShapes Go.WideShapes Go.ChangeAt Go.RowKit
def updN (f : Nat → Nat) (k x : Nat) : Nat → Nat := fun i => if i = k then x else f i
def intF (f : Nat → Nat) : Nat → Int := fun y => ((f y : Nat) : Int)
theorem intF_upd (f : Nat → Nat) (k x : Nat) : upd (intF f) k ((x : Nat) : Int) = intF (updN f k x) := by
  funext i; unfold upd intF updN; split <;> rfl
/-- a fresh region and a truth value -/
def RosPost (w : World) (wd : Int) (rows : List Int) (b : Bool) (e : Ending) (w' : World) : Prop := ∃ v', e = .returned (.tuple #[.agg #[.int .i64 wd, v'], .bool b]) ∧ Held w w' [rowI v' rows]
end
section
open Go.ChangeShapes Go.WideShapes Go.ChangeAt Go.RowKit
theorem join_any (g c : Nat) (ls : List (List UInt8)) (w : World) (hcells : ∀ (j : Nat) x, (ls.map bsOf)[j]? = some x → w.cell? ⟨g, 0 + j, none⟩ = some (.string x)) (hg : g < w.heap.size) (hl : ls.length ≤ 1000) (hc : ls.length ≤ c) (hs : (Lib.join ls [47]).length ≤ 1000000) :
    Calls Tryd.prog 67 #[.slice (some ⟨g, 0, none⟩) ls.length c, .string ⟨#[47]⟩] w fun e w' => e = .returned (.string (bsOf (Lib.join ls [47]))) ∧ ∃ x, w' = ext w x := by
  have em : (ls.map bsOf).map (fun x => x.data.toList) = ls := by simp [bsOf, Function.comp_def]
  have h := laid_strings_Join g 0 c (ls.map bsOf) ⟨#[47]⟩ w hcells hg (by simp; omega) (by simpa using hc) (by rw [em]; show (Lib.join ls [47]).length ≤ _; omega)
  rw [List.length_map, em] at h
  exact h.mono fun e w' ⟨he, hb⟩ => ⟨he, ext_of hb⟩
set_option maxHeartbeats 2000000 in
theorem implFmt_any (wd : Int) (rows : List Int) (v : Value) (w : World) (h : IntsAt w v rows) :
    Calls Tryd.prog 34 #[.agg #[.int .i64 wd, v]] w fun e w' => e = .returned (.string (bsOf (fmtV wd rows))) ∧ ∃ x, w' = ext w x := by
  have h0 := h
  obtain ⟨a, b, o, cap, rfl, hc1, hc2, hc3, hcell⟩ := h.opn
  have h1 := h0.alloc (.cells #[.int .i64 wd, .slice a rows.length cap] 24)
  clear hcell h h0
  cases hr : regB wd rows
  · have HF := Lib.hid (fmtV_no hr)
    go_enter Tryd.func34, Tryd.ntmps34
    go_wp2_with (first | (go_at_call 33; refine (isRegion_any _ _ _ _ h1).mono ?_; rintro e w' ⟨rfl, xe, rfl⟩))
    go_ret
    exact ⟨by rw [HF.out]; rfl, (by repeat (first | exact ext_refl _ | (with_reducible assumption) | refine ext_ext' ?_ _ | refine ext_alloc' ?_ _ | refine ext_drew' ?_))⟩
  obtain ⟨W, rfl, hW1, hW2, hl1, hl2, hrow⟩ := regB_bd hr
  have HF := Lib.hid (fmtV_yes hr)
  have HR := Lib.hid hr
  clear hrow
  go_enter Tryd.func34, Tryd.ntmps34
  go_wp2_with (first | (go_at_call 33; refine (isRegion_any _ _ _ _ h1).mono ?_; rintro e w' ⟨rfl, xe, rfl⟩; have H0 := (Held.start (w.alloc (.cells #[.int .i64 W, .slice a rows.length cap] 24))).ext xe))
  go_loopw [3, 13] (fun u i wr => ∃ (r : Value) (k : Nat), r = u ∧ k ≤ rows.length ∧ i = .int .i64 k ∧ Held (w.alloc (.cells #[.int .i64 W, .slice a rows.length cap] 24)) wr [rowS r (lsTo W rows k)]) (fun _ i _ => rows.length - (intOf i).toNat)
  case atStart => exact ⟨_, 0, rfl, Nat.zero_le _, rfl, H0.nilS⟩
  case round =>
    clear H0
    obtain ⟨r, y, rfl, hy, rfl, H⟩ := hrel
    obtain ⟨kb0, kb1⟩ := H.box2
    by_cases hlt : y < rows.length
    · have H2 := Lib.hid H
      clear H
      go_wp2_with fail
      go_loopw [5, 18] (fun u i wr2 => ∃ q : Nat, q ≤ W ∧ u = .string (bsOf (txTo rows y q)) ∧ i = .int .i64 q ∧ Held (w.alloc (.cells #[.int .i64 W, .slice a rows.length cap] 24)) wr2 [rowS r (lsTo W rows y)]) (fun _ i _ => W - (intOf i).toNat)
      case atStart => exact ⟨0, Nat.zero_le _, rfl, rfl, H2.out⟩
      case round =>
        clear H2 kb0 kb1
        obtain ⟨q, hq, rfl, rfl, H⟩ := hrel
        obtain ⟨kb0, kb1⟩ := H.box2
        haveI : LenOK (txTo rows y q) := ⟨by rw [txTo_len]; omega⟩
        by_cases hlt2 : q < W
        · cases hb : (rowN rows y).testBit q
          all_goals
            have HB := Lib.hid hb
            clear hb
            go_wp2_with (first | (go_at_call 66; refine (has_b2 W rows _ _ _ _ _ (h1.mono H.bel) HR.out hlt2 hlt HB.out).mono ?_; rintro e w' ⟨rfl, xe, rfl⟩))
            go_roundw
            case rel => exact ⟨q + 1, hlt2, by first | rw [txTo_f HB.out] | rw [txTo_t HB.out], int_succ q, H.to (by repeat (first | exact ext_refl _ | (with_reducible assumption) | refine ext_ext' ?_ _ | refine ext_alloc' ?_ _ | refine ext_drew' ?_))⟩
            case measure => simp [intOf]; omega
        · have HQ := Lib.hid (show q = W by omega)
          go_wp2_with (first | (at_builtin; refine wpList_append_held (m := 1) rfl _ _ _ rfl elemStr (H.to (by repeat (first | exact ext_refl _ | (with_reducible assumption) | refine ext_ext' ?_ _ | refine ext_alloc' ?_ _ | refine ext_drew' ?_))) rfl rfl (Sl_new1 _ _ _) (one_str _) (by rw [lsTo_len]; unfold maxLen; omega) (by rw [lsTo_len]; omega) ?_; intro v' w' H; have H := H.snocS))
          go_roundw
          case rel => exact ⟨v', y + 1, rfl, hlt, int_succ y, by rw [lsTo_succ]; rw [HQ.out] at H; exact H⟩
          case measure => simp [intOf]; omega
    · have hye : y = rows.length := by omega
      rw [hye] at H
      clear hye
      have hlen := lsTo_len W rows rows.length
      obtain ⟨g, c, rfl, hgc, hg, hcells⟩ := H.texts (by omega)
      obtain ⟨_, l2⟩ := ftHd_len (W := W) (rows := rows) (k := rows.length) hW2 hl2
      have HCL := Lib.hid hcells
      have HX := Lib.hid (ext_of H.unbox.bel)
      have HL := Lib.hid hlen
      clear hcells hlen
      go_wp2_with (first | (go_at_call 67; go_loud (refine (join_any g c (lsTo W rows rows.length) _ HCL.out hg (by rw [HL.out]; omega) hgc (by show (ftTo W rows rows.length).length ≤ _; omega)).mono ?_; rintro e w' ⟨rfl, xe, rfl⟩)))
      go_ret
      obtain ⟨x0, rfl⟩ := HX.out
      exact ⟨by rw [HF.out]; rfl, (by repeat (first | exact ext_refl _ | (with_reducible assumption) | refine ext_ext' ?_ _ | refine ext_alloc' ?_ _ | refine ext_drew' ?_))⟩
end
section
open Go.ChangeShapes Go.WideShapes Go.ChangeAt Go.RowKit
theorem rvTo_lt (row : List UInt8) (x : Nat) (h : x ≤ 6) : rvTo row x < 64 := by
  refine Nat.lt_of_not_le fun h2 => ?_
  obtain ⟨i, hi, hb⟩ := Nat.exists_ge_and_testBit_of_ge_two_pow (n := 6) h2
  rw [rvTo_bit] at hb
  simp at hb
  omega
theorem byt_at {row : List UInt8} {x : Nat} : byt (bsOf row) x = ((row.getD x 0).toNat : Int) := rfl
theorem byt_eq {row : List UInt8} {x : Nat} (c : UInt8) : (byt (bsOf row) x == (c.toNat : Int)) = decide (row.getD x 0 = c) := by
  rw [byt_at]
  by_cases h : row.getD x 0 = c
  · rw [h]; simp
  · have : ¬ (((row.getD x 0).toNat : Int) = (c.toNat : Int)) := fun e => h (UInt8.toNat_inj.1 (by omega))
    rw [decide_eq_false h]
    exact beq_eq_false_iff_ne.2 this
theorem rvTo_step (row : List UInt8) (x : Nat) : rvTo row (x + 1) = if row.getD x 0 = 35 then orN (rvTo row x) (shlN 1 x) else rvTo row x := by
  rw [rvTo_succ, orN, shlN, Nat.one_mul, Nat.one_shiftLeft]
def rvL (ls : List (List UInt8)) (k : Nat) : List Int := (ls.take k).map fun r => ((rv r : Nat) : Int)
def wlL (ls : List (List UInt8)) (k : Nat) : Nat := ((ls.take k).getLastD []).length
theorem rvL_len {ls : List (List UInt8)} {k : Nat} (h : k ≤ ls.length) : (rvL ls k).length = k := by simp [rvL]; omega
theorem rvL_succ {ls : List (List UInt8)} {k : Nat} (h : k < ls.length) : rvL ls (k + 1) = rvL ls k ++ [((rv ls[k] : Nat) : Int)] := by
  rw [rvL, rvL, List.take_add_one, List.getElem?_eq_getElem h, List.map_append]; rfl
theorem wlL_succ {ls : List (List UInt8)} {k : Nat} (h : k < ls.length) : wlL ls (k + 1) = ls[k].length := by
  rw [wlL, List.take_add_one, List.getElem?_eq_getElem h, Option.toList_some, List.getLastD_eq_getLast?, List.getLast?_append]; rfl
/-- what the library's Split hands back, as a row of the call's own -/
theorem split_held {W0 w : World} {L : List Row} (H : Held W0 w L) (s : ByteArray) (hs : s.size ≤ 1048576) :
    Held W0 (w.alloc (.cells ((Lib.splitB ⟨#[47]⟩ 0 (Lib.countB s ⟨#[47]⟩) s).map Value.string).toArray 9)) (rowS (.slice (some ⟨w.heap.size, 0, none⟩) (Lib.split s.data.toList [47]).length (Lib.split s.data.toList [47]).length) (Lib.split s.data.toList [47]) :: L) ∧ (Lib.split s.data.toList [47]).length = Lib.countB s ⟨#[47]⟩ + 1 := by
  have e : (Lib.splitB ⟨#[47]⟩ 0 (Lib.countB s ⟨#[47]⟩) s).map (fun x => x.data.toList) = Lib.split s.data.toList [47] := Lib.splitB_data _ _ _ _
  have e2 : (Lib.splitB ⟨#[47]⟩ 0 (Lib.countB s ⟨#[47]⟩) s).map Value.string = (Lib.split s.data.toList [47]).map fun l => Value.string (bsOf l) := by
    rw [← e, List.map_map]
    refine List.map_congr_left fun x _ => ?_
    simp [bsOf]
  have e3 : (Lib.split s.data.toList [47]).length = Lib.countB s ⟨#[47]⟩ + 1 := by
    rw [← e, List.length_map]
    exact Lib.splitB_all _ (by decide) _ _ _ rfl
  have hl : ((Lib.splitB ⟨#[47]⟩ 0 (Lib.countB s ⟨#[47]⟩) s).map Value.string).length = (Lib.split s.data.toList [47]).length := by rw [e2, List.length_map]
  have hcap : (Lib.split s.data.toList [47]).length ≤ maxLen := by
    rw [e3]
    have : Lib.countB s ⟨#[47]⟩ ≤ s.size := Lib.countB_le ⟨#[47]⟩ (by decide) s.size s (Nat.le_refl _)
    unfold maxLen
    omega
  refine ⟨H.push ((Below.refl _ _).alloc (Nat.le_refl _) _) ⟨by simp, .inr ⟨w.heap.size, _, _, rfl, Nat.le_refl _, heap_alloc_new w _, Nat.le_refl _, hcap, by rw [List.size_toArray, hl, Nat.mul_one], ?_⟩⟩, e3⟩
  rw [List.toList_toArray, Nat.mul_one, ← hl, List.take_length, e2]
theorem RosPost.no0 {s : List UInt8} {w w' : World} (h : pB s = false) (hx : ∃ x, w' = ext w x) : RosPost w (pW s) (pR s) (pB s) (.returned (.tuple #[.agg #[.int .i64 0, .slice none 0 0], .bool false])) w' := by
  rw [pW, pR, h]
  exact ⟨_, rfl, ((Held.start w).to hx).nilI⟩
theorem RosPost.yes0 {s : List UInt8} {w w' : World} {W : Nat} {rows : List Int} {v : Value} {L : List Row} (hb : pB s = true) (hW : pW s = W) (hR : pR s = rows) (K : Held w w' (rowI v rows :: L)) :
    RosPost w (pW s) (pR s) (pB s) (.returned (.tuple #[.agg #[.int .i64 W, v], .bool true])) w' := by
  rw [hW, hR, hb]
  exact ⟨_, rfl, K.first⟩
theorem prI_split (s : List UInt8) : prI s = (wlL (Lib.split s [47]) (Lib.split s [47]).length, rvL (Lib.split s [47]) (Lib.split s [47]).length) := by
  rw [prI, wlL, rvL, List.take_length]
theorem infoStr : (Tryd.prog.info? 9).map (fun i => i.size) = some 1 := by kernel_rfl
theorem rowS_at {W0 w : World} {L : List Row} {G c : Nat} {ls : List (List UInt8)} (H : Held W0 w (rowS (.slice (some ⟨G, 0, none⟩) ls.length c) ls :: L)) {k : Nat} (hk : k < ls.length) :
    Old w G ∧ (∀ w', (Instr.indexAt 51 (.slice (some ⟨G, 0, none⟩) ls.length c) (.int .i64 k)).run Tryd.prog w' = .ok (.pointer (some ⟨G, k, none⟩)) w') ∧ w.cell? ⟨G, k, none⟩ = some (.string (bsOf ls[k])) := by
  have ho := H.own _ List.mem_cons_self
  simp only at ho
  refine ⟨⟨(ho.lt G rfl).2⟩, fun w' => ?_, ?_⟩
  · have := idx_run (z := none) Tryd.underlying51 infoStr G 0 ls.length c k hk w'
    simpa using this
  · rw [ho.cellAt k (by omega)]
    simp [hk]
theorem str_size (l : List UInt8) : (bsOf l).size = l.length := rfl
theorem str_neq (l : List UInt8) (s : ByteArray) : ((bsOf l).toList == s.toList) = decide (l = s.data.toList) := by
  have e : ∀ s : ByteArray, s.toList = s.data.toList := fun s => ByteArray.toList_eq ..
  rw [e, e]
  by_cases h : l = s.data.toList
  · simp [h, bsOf]
  · simp [h, bsOf]
set_option maxRecDepth 100000 in
set_option maxHeartbeats 4000000 in
theorem implPr_any (s : ByteArray) (m : Int) (w : World) (hm : w.cell? ⟨0, 0, none⟩ = some (.int .i64 m)) (hs : s.size ≤ 1048576) :
    Calls Tryd.prog 6 #[.string s] w (RosPost w (pW s.data.toList) (pR s.data.toList) (pB s.data.toList)) := by
  have H0 := ((Held.start w).newBox2 24 (.int .i64 0) (.slice none 0 0)).newBox2 24 (.int .i64 0) (.slice none 0 0)
  rw [World.size_alloc] at H0
  haveI : Old w 0 := ⟨World.block_lt_of_cell? w ⟨0, 0, none⟩ hm⟩
  have hm2 : ((w.alloc (.cells #[.int .i64 0, .slice none 0 0] 24)).alloc (.cells #[.int .i64 0, .slice none 0 0] 24)).cell? ⟨0, 0, none⟩ = some (.int .i64 m) := by
    rw [cell?_old, cell?_old]; exact hm
  have hsp := laid_strings_Split s ⟨#[47]⟩ m _ (by omega) hm2 (by decide)
  obtain ⟨HH0, hlen⟩ := split_held H0 s hs
  have hprI := prI_split s.data.toList
  generalize Lib.split s.data.toList [47] = ls at HH0 hlen hprI
  have HSP : Calls Tryd.prog 32 #[.string s, .string ⟨#[47]⟩] ((w.alloc (.cells #[.int .i64 0, .slice none 0 0] 24)).alloc (.cells #[.int .i64 0, .slice none 0 0] 24)) fun e w' =>
      ∃ G, e = .returned (.slice (some ⟨G, 0, none⟩) ls.length ls.length) ∧ Held w w' (rowS (.slice (some ⟨G, 0, none⟩) ls.length ls.length) ls :: [boxR2 (w.heap.size + 1) 24 (.int .i64 0) (.slice none 0 0), boxR2 w.heap.size 24 (.int .i64 0) (.slice none 0 0)]) := by
    refine hsp.mono ?_
    rintro e w' ⟨rfl, rfl⟩
    exact ⟨_, by rw [hlen], HH0⟩
  have hl0 : 0 < ls.length := by omega
  have hlm : ls.length ≤ 1048577 := by
    rw [hlen]
    have : Lib.countB s ⟨#[47]⟩ ≤ s.size := Lib.countB_le ⟨#[47]⟩ (by decide) s.size s (Nat.le_refl _)
    omega
  have HSP := Lib.hid HSP
  have HPR := Lib.hid hprI
  clear hm hm2 H0 HH0 hlen hprI hsp
  go_enter Tryd.func6, Tryd.ntmps6
  go_wp2_with (first | (go_at_call 32; refine HSP.out.mono ?_; rintro e w' ⟨G, rfl, H0⟩))
  obtain ⟨B, hB⟩ : ∃ B, B = w.heap.size + 1 := ⟨_, rfl⟩
  rw [← hB] at H0 ⊢
  clear hB
  have H1 := Lib.hid H0
  clear H0
  go_loopw [12] (fun i wr => ∃ (k : Nat) (v : Value), k ≤ ls.length ∧ i = .int .i64 k ∧ Held w wr [rowI v (rvL ls k), rowS (.slice (some ⟨G, 0, none⟩) ls.length ls.length) ls, boxR2 B 24 (.int .i64 (wlL ls k)) v, boxR2 w.heap.size 24 (.int .i64 0) (.slice none 0 0)]) (fun i _ => ls.length - (intOf i).toNat)
  case atStart => exact ⟨0, _, Nat.zero_le _, rfl, H1.out.nilI⟩
  case round =>
    clear H1
    obtain ⟨k, v, hk, rfl, H⟩ := hrel
    obtain ⟨a1, c1, rfl⟩ := H.rowV
    have hrl := rvL_len hk
    rw [hrl] at H
    by_cases hlt : k < ls.length
    · obtain ⟨s1, s2, s3⟩ := rowS_at (H.pull 1 rfl) hlt
      obtain ⟨row, hrow⟩ : ∃ row, row = ls[k] := ⟨_, rfl⟩
      rw [← hrow] at s3
      have hrl : row.length ≤ 1048576 ∨ True := .inr trivial
      have HROW := Lib.hid hrow
      have HL := Lib.hid H
      clear hrow H hrl
      have hsz := str_size row
      go_wp2_with fail
      go_loopw [7, 8] (fun u i wr2 => ∃ x : Nat, x ≤ row.length ∧ x ≤ 6 ∧ u = .int .i64 (rvTo row x : Nat) ∧ i = .int .i64 x ∧ wr2 = wr) (fun _ i _ => 6 - (intOf i).toNat)
      case atStart => exact ⟨0, Nat.zero_le _, Nat.zero_le _, rfl, rfl, rfl⟩
      case round =>
        obtain ⟨x, hx1, hx2, rfl, rfl, rfl⟩ := hrel
        by_cases hlx : x < row.length
        · by_cases hl6 : x < 6
          · have hi := byt_run (P := Tryd.prog) Tryd.underlying9 (bsOf row) x (by rw [hsz]; exact hlx)
            have hbe : (byt (bsOf row) x == 35) = decide (row.getD x 0 = 35) := byt_eq (row := row) (x := x) 35
            have hlt64 := rvTo_lt row x hx2
            haveI : Lt63 (rvTo row x) := ⟨by omega⟩
            haveI : Le6 x := ⟨hx2⟩
            have HS := Lib.hid (rvTo_step row x)
            generalize byt (bsOf row) x = y at hi hbe
            by_cases hc : row.getD x 0 = 35
            · rw [decide_eq_true hc] at hbe
              have HC := Lib.hid hc
              clear hc hlt64
              go_wp2_with fail
              go_roundw
              case rel => exact ⟨x + 1, hlx, hl6, by rw [HS.out, if_pos HC.out], int_succ x, trivial⟩
              case measure => simp [intOf]; omega
            · rw [decide_eq_false hc] at hbe
              have HC := Lib.hid hc
              clear hc hlt64
              go_wp2_with fail
              go_roundw
              case rel => exact ⟨x + 1, hlx, hl6, by rw [HS.out, if_neg HC.out], int_succ x, trivial⟩
              case measure => simp [intOf]; omega
          · have hf6 : decide ((x : Int) < 6) = false := decide_eq_false (by omega)
            have HX := Lib.hid (show rvTo row x = rv row by unfold rv; rw [show min row.length 6 = x by omega])
            have hrv : rv row < 64 := by rw [← HX.out]; exact rvTo_lt row x hx2
            have K := (HL.out.pull 2 rfl).setB2a (.int .i64 row.length)
            have KK := Lib.hid (K.pull 1 rfl)
            obtain ⟨k0, k1, k2, k3, k4⟩ := (HL.out.pull 2 rfl).readB2 0 rfl
            clear K hrv
            go_wp2_with (first | (at_builtin; go_loud (refine wpList_append_held (m := 1) rfl _ _ _ rfl elemInt (KK.out.to (by repeat (first | exact ext_refl _ | (with_reducible assumption) | refine ext_ext' ?_ _ | refine ext_alloc' ?_ _ | refine ext_drew' ?_))) rfl rfl (Sl_newAt _ _ _ _ (by simp)) (one_lit _) (by unfold maxLen; omega) (by omega) ?_; intro v' w' H7; have H8 := Lib.hid H7; obtain ⟨n0, n1, n2, n3, n4⟩ := H7.readB2 1 rfl; have ho := H7.own _ List.mem_cons_self; simp only at ho; obtain ⟨a2, c2, rfl⟩ := own_slice ho; clear H7 ho k0 k1 k2 k3 k4)))
            go_roundw
            case rel =>
              have H9 := (((H8.out.pull 1 rfl).setB2b (.slice a2 (k + 1) c2)).pull 2 rfl).pull 2 rfl
              refine ⟨k + 1, .slice a2 (k + 1) c2, hlt, int_succ k, ?_⟩
              rw [rvL_succ hlt, wlL_succ hlt, ← HROW.out, ← HX.out]
              simp only [hrl] at H9
              refine Held.snoc (xs := rvL ls k) ?_
              rw [hrl]
              exact H9
            case measure => simp [intOf]; omega
        · have hfx : decide ((x : Int) < row.length) = false := decide_eq_false (by omega)
          have HX := Lib.hid (show rvTo row x = rv row by unfold rv; rw [show min row.length 6 = x by omega])
          have hrv : rv row < 64 := by rw [← HX.out]; exact rvTo_lt row x hx2
          have K := (HL.out.pull 2 rfl).setB2a (.int .i64 row.length)
          have KK := Lib.hid (K.pull 1 rfl)
          obtain ⟨k0, k1, k2, k3, k4⟩ := (HL.out.pull 2 rfl).readB2 0 rfl
          clear K hrv
          go_wp2_with (first | (at_builtin; go_loud (refine wpList_append_held (m := 1) rfl _ _ _ rfl elemInt (KK.out.to (by repeat (first | exact ext_refl _ | (with_reducible assumption) | refine ext_ext' ?_ _ | refine ext_alloc' ?_ _ | refine ext_drew' ?_))) rfl rfl (Sl_newAt _ _ _ _ (by simp)) (one_lit _) (by unfold maxLen; omega) (by omega) ?_; intro v' w' H7; have H8 := Lib.hid H7; obtain ⟨n0, n1, n2, n3, n4⟩ := H7.readB2 1 rfl; have ho := H7.own _ List.mem_cons_self; simp only at ho; obtain ⟨a2, c2, rfl⟩ := own_slice ho; clear H7 ho k0 k1 k2 k3 k4)))
          go_roundw
          case rel =>
            have H9 := (((H8.out.pull 1 rfl).setB2b (.slice a2 (k + 1) c2)).pull 2 rfl).pull 2 rfl
            refine ⟨k + 1, .slice a2 (k + 1) c2, hlt, int_succ k, ?_⟩
            rw [rvL_succ hlt, wlL_succ hlt, ← HROW.out, ← HX.out]
            simp only [hrl] at H9
            refine Held.snoc (xs := rvL ls k) ?_
            rw [hrl]
            exact H9
          case measure => simp [intOf]; omega
    · have HK := Lib.hid (show k = ls.length by omega)
      have hrl := rvL_len hk
      obtain ⟨k0, k1, k2, k3, k4⟩ := H.readB2 2 rfl
      obtain ⟨n0, n1, n2, n3, n4⟩ := H.readB2 3 rfl
      have HI := Lib.hid (show IntsAt wr (.slice a1 k c1) (rvL ls k) from H.sl List.mem_cons_self)
      have HPI := Lib.hid (show prI s.data.toList = (wlL ls k, rvL ls k) by rw [HPR.out, HK.out])
      have HL := Lib.hid H
      clear H
      cases hb1 : regB (wlL ls k) (rvL ls k)
      · have hpb : pB s.data.toList = false := pB_no1 (by rw [HPI.out]; exact hb1)
        have HPB := Lib.hid hpb
        have K := Lib.hid ((HL.out.pull 3 rfl).setBox2 (.int .i64 0) (.slice none 0 0))
        clear hpb
        go_wp2_with (first | (go_at_call 33; refine (isRegion_any _ _ _ _ HI.out).mono ?_; rintro e w' ⟨rfl, xe, rfl⟩))
        obtain ⟨m0, m1, m2, m3, m4⟩ := K.out.readB2 0 rfl
        refine bodyPost_ret (v := .tuple #[.agg #[.int .i64 0, .slice none 0 0], .bool false]) (by simp [results, Tryd.results6, go_sem, m0, m1]) rfl (RosPost.no0 HPB.out (ext_of (K.out.to (by repeat (first | exact ext_refl _ | (with_reducible assumption) | refine ext_ext' ?_ _ | refine ext_alloc' ?_ _ | refine ext_drew' ?_))).bel))
      · have hne := str_neq (fmtV (wlL ls k) (rvL ls k)) s
        by_cases hf : fmtV (wlL ls k) (rvL ls k) = s.data.toList
        · have hpb : pB s.data.toList = true := pB_yes (by rw [HPI.out]; exact hb1) (by rw [HPI.out]; exact hf)
          rw [decide_eq_true hf] at hne
          have HPB := Lib.hid hpb
          have HNE := Lib.hid hne
          have K := Lib.hid ((HL.out.pull 3 rfl).setBox2 (.int .i64 (wlL ls k)) (.slice a1 k c1))
          clear hpb hf HNE
          go_wp2_with (first | (go_at_call 33; refine (isRegion_any _ _ _ _ HI.out).mono ?_; rintro e w' ⟨rfl, xe, rfl⟩) | (go_at_call 34; refine (implFmt_any _ _ _ _ (HI.out.ext _)).mono ?_; rintro e w' ⟨rfl, xe, rfl⟩))
          obtain ⟨m0, m1, m2, m3, m4⟩ := K.out.readB2 0 rfl
          have hpw : pW s.data.toList = (wlL ls k : Nat) := by rw [pW, if_pos HPB.out, HPI.out]
          have hpr : pR s.data.toList = rvL ls k := by rw [pR, if_pos HPB.out, HPI.out]
          refine bodyPost_ret (v := .tuple #[.agg #[.int .i64 (wlL ls k), .slice a1 k c1], .bool true]) (by simp [results, Tryd.results6, go_sem, m0, m1]) rfl (RosPost.yes0 HPB.out hpw hpr ((K.out.pull 1 rfl).to (by repeat (first | exact ext_refl _ | (with_reducible assumption) | refine ext_ext' ?_ _ | refine ext_alloc' ?_ _ | refine ext_drew' ?_))))
        · have hpb : pB s.data.toList = false := pB_no2 (by rw [HPI.out]; exact hf)
          rw [decide_eq_false hf] at hne
          have HPB := Lib.hid hpb
          have K := Lib.hid ((HL.out.pull 3 rfl).setBox2 (.int .i64 0) (.slice none 0 0))
          clear hpb hf
          go_wp2_with (first | (go_at_call 33; refine (isRegion_any _ _ _ _ HI.out).mono ?_; rintro e w' ⟨rfl, xe, rfl⟩) | (go_at_call 34; refine (implFmt_any _ _ _ _ (HI.out.ext _)).mono ?_; rintro e w' ⟨rfl, xe, rfl⟩))
          obtain ⟨m0, m1, m2, m3, m4⟩ := K.out.readB2 0 rfl
          refine bodyPost_ret (v := .tuple #[.agg #[.int .i64 0, .slice none 0 0], .bool false]) (by simp [results, Tryd.results6, go_sem, m0, m1]) rfl (RosPost.no0 HPB.out (ext_of (K.out.to (by repeat (first | exact ext_refl _ | (with_reducible assumption) | refine ext_ext' ?_ _ | refine ext_alloc' ?_ _ | refine ext_drew' ?_))).bel))
end
section
open Go.ChangeShapes Go.WideShapes Go.ChangeAt Go.RowKit
theorem psStep_bd {c : UInt8} {s t : PS} (h : psStep c s = some t) (h1 : s.cur < 2 ^ s.x) {N : Nat} (h2 : s.x ≤ N) (h3 : s.W ≤ N) : t.cur < 2 ^ t.x ∧ t.x ≤ N + 1 ∧ t.W ≤ N + 1 := by
  unfold psStep at h
  split at h
  · cases h; exact ⟨by simp, by simp, by simp; omega⟩
  · split at h
    · cases h
      refine ⟨or_bit_lt (Nat.lt_of_lt_of_le h1 (Nat.pow_le_pow_right (by omega) (by omega))), by simp; omega, by simp; omega⟩
    · split at h
      · cases h
        exact ⟨Nat.lt_of_lt_of_le h1 (Nat.pow_le_pow_right (by omega) (by simp)), by simp; omega, by simp; omega⟩
      · cases h
theorem Held.lastI {W0 w : World} {L : List Row} {g q cap : Nat} {rs : List Int} {x : Int} (H : Held W0 w (rowI (.slice (some ⟨g, 0, none⟩) (q + 1) cap) (rs ++ [x]) :: L)) (hl : rs.length = q) :
    w.cell? ⟨g, q, none⟩ = some (.int .i64 x) ∧ w.frozen? ⟨g, q, none⟩ = false ∧ ∀ y, Held W0 (w.setCell ⟨g, q, none⟩ (.int .i64 y)) (rowI (.slice (some ⟨g, 0, none⟩) (q + 1) cap) (rs ++ [y]) :: L) := by
  have ho := H.own _ List.mem_cons_self
  have el : (rs ++ [x]).length = q + 1 := by simp [hl]
  simp only [el] at ho
  refine ⟨?_, ho.frozenAt q, fun y => ?_⟩
  · rw [ho.cellAt q (by simp [hl])]
    simp [← hl, iv]
  · have hst := ho.stored q (.int .i64 y)
    have h4 := Held.write H hst.2 (by simp only [el]; exact hst.1)
    have e : ((rs ++ [x]).map iv).set q (.int .i64 y) = (rs ++ [y]).map iv := by
      rw [← hl]; simp [iv]
    simp only at h4
    rw [e, el] at h4
    rw [rowI, List.length_append, List.length_singleton, hl]
    exact h4
theorem pB_take {s : List UInt8} {k : Nat} (h : k < s.length) {t : PS} (ht : psRun (s.take k) ps0 = some t) (hs : psStep (s.getD k 0) t = none) : pB s = false := pB_bad (k := k + 1) (by rw [ps_take h ht, hs])
theorem fmt_le (W : Nat) (rows : List Int) : (fmtV W rows).length ≤ 41 := by
  cases h : regB W rows
  · rw [fmtV_no h]; simp
  · rw [fmtV_yes h]; exact ft_len_le h
theorem fmt_zero : fmtV ((0 : Nat) : Int) [0] = [] := fmtV_no (by decide)
set_option maxRecDepth 100000 in
set_option maxHeartbeats 4000000 in
theorem specPr_any (s : ByteArray) (w : World) (hs : s.size ≤ 1048576) :
    Calls Tryd.prog 5 #[.string s] w (RosPost w (pW s.data.toList) (pR s.data.toList) (pB s.data.toList)) := by
  obtain ⟨l, hl⟩ : ∃ l, s = bsOf l := ⟨s.data.toList, by simp [bsOf]⟩
  subst hl
  rw [bsOf_list]
  have hsz := str_size l
  rw [hsz] at hs
  have H0 := (((Held.start w).newBox2 24 (.int .i64 0) (.slice none 0 0)))
  have H1 : Held w ((w.alloc (.cells #[.int .i64 0, .slice none 0 0] 24)).alloc (.cells #[.int .i64 0] 3)) (rowI (.slice (some ⟨w.heap.size + 1, 0, none⟩) 1 1) [0] :: [boxR2 w.heap.size 24 (.int .i64 0) (.slice none 0 0)]) := by
    have := H0.newBox 3 (.int .i64 0)
    rw [World.size_alloc] at this
    exact this
  have H2 := H1.newBox2 24 (.int .i64 0) (.slice (some ⟨w.heap.size + 1, 0, none⟩) 1 1)
  rw [World.size_alloc, World.size_alloc] at H2
  have HH := Lib.hid (H2.pull 1 rfl)
  clear H0 H1 H2
  go_enter Tryd.func5, Tryd.ntmps5
  go_wp2_with fail
  obtain ⟨B, hB⟩ : ∃ B, B = w.heap.size + 1 + 1 := ⟨_, rfl⟩
  rw [← hB] at HH ⊢
  generalize World.alloc _ _ = w2 at HH ⊢
  clear hB
  go_loopw [5, 6] (fun u i wr => ∃ (k : Nat) (st : PS) (v : Value), k ≤ l.length ∧ psRun (l.take k) ps0 = some st ∧ u = .int .i64 st.x ∧ i = .int .i64 k ∧ st.cur < 2 ^ st.x ∧ st.x ≤ k ∧ st.W ≤ k ∧ (l.length ≤ 41 ∨ k = 0) ∧ st.rs.length ≤ k ∧
    Held w wr [rowI v (st.rs ++ [(st.cur : Int)]), boxR2 B 24 (.int .i64 st.W) v, boxR2 w.heap.size 24 (.int .i64 0) (.slice none 0 0)]) (fun _ i _ => l.length - (intOf i).toNat)
  case atStart => exact ⟨0, ps0, _, Nat.zero_le _, rfl, rfl, rfl, by simp [ps0], Nat.zero_le _, Nat.zero_le _, .inr rfl, Nat.zero_le _, HH.out⟩
  case round =>
    clear HH
    obtain ⟨k, st, v, hk, hrun, rfl, rfl, hcur, hx, hW, h41, hrs, H⟩ := hrel
    obtain ⟨q, hq⟩ : ∃ q, st.rs.length = q := ⟨_, rfl⟩
    have ho := H.own _ List.mem_cons_self
    simp only [List.length_append, List.length_singleton] at ho
    rw [hq] at ho
    obtain ⟨g, cap, rfl⟩ : ∃ g cap, v = .slice (some ⟨g, 0, none⟩) (q + 1) cap := by
      rcases ho.2 with ⟨_, h0⟩ | ⟨g, cap, cur, hv, _⟩
      · omega
      · exact ⟨g, cap, hv⟩
    clear ho
    have HRUN := Lib.hid hrun
    obtain ⟨k0, k1, k2, k3, k4⟩ := H.readB2 1 rfl
    have HL := Lib.hid H
    clear hrun H
    by_cases hlt : k < l.length
    · by_cases hl41 : l.length ≤ 41
      · have hi := byt_run (P := Tryd.prog) Tryd.underlying9 (bsOf l) k (by rw [hsz]; exact hlt)
        have h47 : (byt (bsOf l) k == 47) = decide (l.getD k 0 = 47) := byt_eq (row := l) (x := k) 47
        have h35 : (byt (bsOf l) k == 35) = decide (l.getD k 0 = 35) := byt_eq (row := l) (x := k) 35
        have h46 : (byt (bsOf l) k == 46) = decide (l.getD k 0 = 46) := byt_eq (row := l) (x := k) 46
        have HT := Lib.hid (ps_take hlt HRUN.out)
        have HBD := Lib.hid fun t (h : psStep (l.getD k 0) st = some t) => psStep_bd h hcur hx hW
        generalize byt (bsOf l) k = y at hi h47 h35 h46
        by_cases c47 : l.getD k 0 = 47
        · rw [decide_eq_true c47] at h47
          have HST := Lib.hid (show psStep (l.getD k 0) st = some ⟨st.all, 0, 0, st.W⟩ by rw [c47]; rfl)
          clear h35 h46 c47
          go_wp2_with (first | (at_builtin; go_loud (refine wpList_append_held (m := 1) rfl _ _ _ rfl elemInt (HL.out.to (by repeat (first | exact ext_refl _ | (with_reducible assumption) | refine ext_ext' ?_ _ | refine ext_alloc' ?_ _ | refine ext_drew' ?_))) rfl rfl (Sl_newAt _ _ _ _ (by simp)) (one_lit _) (by simp; unfold maxLen; omega) (by simp; omega) ?_; intro v' w' H7; have H8 := Lib.hid H7; obtain ⟨n0, n1, n2, n3, n4⟩ := H7.readB2 1 rfl; have ho := H7.own _ List.mem_cons_self; simp only at ho; obtain ⟨a2, c2, rfl⟩ := own_slice ho; clear H7 ho k0 k1 k2 k3 k4)))
          go_roundw
          case rel =>
            have H9 := ((H8.out.pull 1 rfl).setB2b (.slice a2 (q + 1 + 1) c2)).pull 1 rfl
            have e : (st.rs ++ [(st.cur : Int)]).length = q + 1 := by simp [hq]
            refine ⟨k + 1, ⟨st.all, 0, 0, st.W⟩, .slice a2 (q + 1 + 1) c2, hlt, HT.out.trans HST.out, rfl, int_succ k, by simp, Nat.zero_le _, by simp only; omega, .inl hl41, by simp only [PS.all, e]; omega, ?_⟩
            simp only [e] at H9
            refine Held.snoc (xs := st.all) ?_
            rw [PS.all, e]
            exact H9
          case measure => simp [intOf]; omega
        rw [decide_eq_false c47] at h47
        by_cases c35 : l.getD k 0 = 35
        · rw [decide_eq_true c35] at h35
          have hst : psStep (l.getD k 0) st = some ⟨st.rs, orN st.cur (shlN 1 st.x), st.x + 1, max st.W (st.x + 1)⟩ := by rw [c35]; rfl
          obtain ⟨b1, b2, b3⟩ := HBD.out _ hst
          have HST := Lib.hid hst
          haveI : ShlOK 1 st.x := ⟨by omega, by
            have : shlN 1 st.x ≤ 2 ^ 41 := by rw [shlN, Nat.one_mul]; exact Nat.pow_le_pow_right (by omega) (by omega)
            omega⟩
          haveI : Lt63 st.cur := ⟨by
            have : 2 ^ st.x ≤ 2 ^ 41 := Nat.pow_le_pow_right (by omega) (by omega)
            omega⟩
          obtain ⟨z1, z2, z3⟩ := HL.out.lastI hq
          have hog := HL.out.oldRow
          have hix : ∀ w', (Instr.indexAt 22 (.slice (some ⟨g, 0, none⟩) (q + 1) cap) (.int .i64 q)).run Tryd.prog w' = .ok (.pointer (some ⟨g, q, none⟩)) w' := fun w' => by
            have := idx_run (z := none) Tryd.underlying22 infoInt g 0 (q + 1) cap q (by omega) w'
            simpa using this
          have hwq : IntKind.i64.wrap (q : Int) = q := wrap_nat q (by omega)
          clear h46 c35 c47 hst z3
          go_wp2_with fail
          go_still_tail 18, (by kernel_rfl)
          change wpList _ _ _ _ _ wr.drew
          have H := HL.out.to (w' := wr.drew) (by repeat (first | exact ext_refl _ | (with_reducible assumption) | refine ext_ext' ?_ _ | refine ext_alloc' ?_ _ | refine ext_drew' ?_))
          clear k0 k1 k2 k3 k4 z1 z2 hog
          generalize wr.drew = w3 at H ⊢
          obtain ⟨z1, z2, z3⟩ := H.lastI hq
          have H5 := z3 ((orN st.cur (shlN 1 st.x) : Nat) : Int)
          have K := (H5.pull 1 rfl).setB2a (.int .i64 ((max st.W (st.x + 1) : Nat) : Int))
          obtain ⟨k0, k1, k2, k3, k4⟩ := H5.readB2 1 rfl
          have KK := Lib.hid (K.pull 1 rfl)
          clear z3 H H5 K
          go_wp2_with fail
          go_roundw
          case rel =>
            have hm : ((max st.W (st.x + 1) : Nat) : Int) = max (st.W : Int) ((st.x : Int) + 1) := by omega
            refine ⟨k + 1, ⟨st.rs, orN st.cur (shlN 1 st.x), st.x + 1, max st.W (st.x + 1)⟩, .slice (some ⟨g, 0, none⟩) (q + 1) cap, hlt, HT.out.trans HST.out, int_succ _, int_succ k, b1, b2, b3, .inl hl41, by simp only; omega, ?_⟩
            rw [← hm]
            exact KK.out
          case measure => simp [intOf]; omega
        rw [decide_eq_false c35] at h35
        by_cases c46 : l.getD k 0 = 46
        · rw [decide_eq_true c46] at h46
          have hst : psStep (l.getD k 0) st = some ⟨st.rs, st.cur, st.x + 1, max st.W (st.x + 1)⟩ := by rw [c46]; rfl
          obtain ⟨b1, b2, b3⟩ := HBD.out _ hst
          have HST := Lib.hid hst
          have K := (HL.out.pull 1 rfl).setB2a (.int .i64 ((max st.W (st.x + 1) : Nat) : Int))
          have KK := Lib.hid (K.pull 1 rfl)
          clear c35 c47 c46 hst K
          go_wp2_with fail
          go_roundw
          case rel =>
            have hm : ((max st.W (st.x + 1) : Nat) : Int) = max (st.W : Int) ((st.x : Int) + 1) := by omega
            refine ⟨k + 1, ⟨st.rs, st.cur, st.x + 1, max st.W (st.x + 1)⟩, .slice (some ⟨g, 0, none⟩) (q + 1) cap, hlt, HT.out.trans HST.out, int_succ _, int_succ k, b1, b2, b3, .inl hl41, by simp only; omega, ?_⟩
            rw [← hm]
            exact KK.out
          case measure => simp [intOf]; omega
        · rw [decide_eq_false c46] at h46
          have hpb : pB l = false := pB_take hlt HRUN.out (by unfold psStep; rw [if_neg c47, if_neg c35, if_neg c46])
          have HPB := Lib.hid hpb
          obtain ⟨n0, n1, n2, n3, n4⟩ := HL.out.readB2 2 rfl
          have K := Lib.hid ((HL.out.pull 2 rfl).setBox2 (.int .i64 0) (.slice none 0 0))
          clear c35 c47 c46 hpb
          go_wp2_with fail
          obtain ⟨m0, m1, m2, m3, m4⟩ := K.out.readB2 0 rfl
          refine bodyPost_ret (v := .tuple #[.agg #[.int .i64 0, .slice none 0 0], .bool false]) (by simp [results, Tryd.results5, go_sem, m0, m1]) rfl (RosPost.no0 HPB.out (ext_of (K.out.to (by repeat (first | exact ext_refl _ | (with_reducible assumption) | refine ext_ext' ?_ _ | refine ext_alloc' ?_ _ | refine ext_drew' ?_))).bel))
      · have hf41 : decide ((l.length : Int) ≤ 41) = false := decide_eq_false (by omega)
        have hyes : fmtV st.W (st.rs ++ [(st.cur : Int)]) = l → l ≠ [] → pB l = true ∧ pW l = st.W ∧ pR l = st.rs ++ [(st.cur : Int)] := fun h _ => absurd (fmt_le st.W (st.rs ++ [(st.cur : Int)])) (by rw [h]; exact hl41)
        have hno : fmtV st.W (st.rs ++ [(st.cur : Int)]) ≠ l → pB l = false := fun _ => by
          cases h : pB l
          · rfl
          · exact absurd (pB_len h) hl41
        have HI := Lib.hid (show IntsAt wr (.slice (some ⟨g, 0, none⟩) (q + 1) cap) (st.rs ++ [(st.cur : Int)]) from HL.out.sl List.mem_cons_self)
        obtain ⟨n0, n1, n2, n3, n4⟩ := HL.out.readB2 2 rfl
        have hel : (bsOf l).toList = l := ByteArray.toList_eq ..
        have hne := str_neq (fmtV st.W (st.rs ++ [(st.cur : Int)])) (bsOf l)
        rw [bsOf_list] at hne
        by_cases hl0 : l = []
        · have HPB := Lib.hid (show pB l = false by rw [hl0]; exact pB_nil)
          have hem : (bsOf l).toList = [] := hel.trans hl0
          have K := Lib.hid ((HL.out.pull 2 rfl).setBox2 (.int .i64 0) (.slice none 0 0))
          clear hyes hno hl0 hne hel
          go_wp2_with fail
          obtain ⟨m0, m1, m2, m3, m4⟩ := K.out.readB2 0 rfl
          refine bodyPost_ret (v := .tuple #[.agg #[.int .i64 0, .slice none 0 0], .bool false]) (by simp [results, Tryd.results5, go_sem, m0, m1]) rfl (RosPost.no0 HPB.out (ext_of (K.out.to (by repeat (first | exact ext_refl _ | (with_reducible assumption) | refine ext_ext' ?_ _ | refine ext_alloc' ?_ _ | refine ext_drew' ?_))).bel))
        · have hem : ¬ (bsOf l).toList = [] := by rw [hel]; exact hl0
          have hem3 : (bsOf l).toList.isEmpty = false := by simp [hem]
          by_cases hf : fmtV st.W (st.rs ++ [(st.cur : Int)]) = l
          · obtain ⟨hpb, hpw, hpr⟩ := hyes hf hl0
            rw [decide_eq_true hf] at hne
            have HPB := Lib.hid hpb
            have HPW := Lib.hid hpw
            have HPR := Lib.hid hpr
            have K := Lib.hid ((HL.out.pull 2 rfl).setBox2 (.int .i64 st.W) (.slice (some ⟨g, 0, none⟩) (q + 1) cap))
            clear hyes hno hl0 hf hpb hpw hpr hel
            go_wp2_with (first | (go_at_call 31; refine (specFmt_any _ _ _ _ HI.out).mono ?_; rintro e w' ⟨rfl, xe, rfl⟩))
            obtain ⟨m0, m1, m2, m3, m4⟩ := K.out.readB2 0 rfl
            refine bodyPost_ret (v := .tuple #[.agg #[.int .i64 st.W, .slice (some ⟨g, 0, none⟩) (q + 1) cap], .bool true]) (by simp [results, Tryd.results5, go_sem, m0, m1]) rfl (RosPost.yes0 HPB.out HPW.out HPR.out ((K.out.pull 1 rfl).to (by repeat (first | exact ext_refl _ | (with_reducible assumption) | refine ext_ext' ?_ _ | refine ext_alloc' ?_ _ | refine ext_drew' ?_))))
          · have HPB := Lib.hid (hno hf)
            rw [decide_eq_false hf] at hne
            have K := Lib.hid ((HL.out.pull 2 rfl).setBox2 (.int .i64 0) (.slice none 0 0))
            clear hyes hno hl0 hf hel
            go_wp2_with (first | (go_at_call 31; refine (specFmt_any _ _ _ _ HI.out).mono ?_; rintro e w' ⟨rfl, xe, rfl⟩))
            obtain ⟨m0, m1, m2, m3, m4⟩ := K.out.readB2 0 rfl
            refine bodyPost_ret (v := .tuple #[.agg #[.int .i64 0, .slice none 0 0], .bool false]) (by simp [results, Tryd.results5, go_sem, m0, m1]) rfl (RosPost.no0 HPB.out (ext_of (K.out.to (by repeat (first | exact ext_refl _ | (with_reducible assumption) | refine ext_ext' ?_ _ | refine ext_alloc' ?_ _ | refine ext_drew' ?_))).bel))
    · have hrun : psRun l ps0 = some st := by have := HRUN.out; rwa [List.take_of_length_le (by omega)] at this
      have hyes : fmtV st.W (st.rs ++ [(st.cur : Int)]) = l → l ≠ [] → pB l = true ∧ pW l = st.W ∧ pR l = st.rs ++ [(st.cur : Int)] := fun h h0 => pB_end hrun h h0
      have hno : fmtV st.W (st.rs ++ [(st.cur : Int)]) ≠ l → pB l = false := fun h => pB_end_no hrun h
      have HI := Lib.hid (show IntsAt wr (.slice (some ⟨g, 0, none⟩) (q + 1) cap) (st.rs ++ [(st.cur : Int)]) from HL.out.sl List.mem_cons_self)
      obtain ⟨n0, n1, n2, n3, n4⟩ := HL.out.readB2 2 rfl
      have hel : (bsOf l).toList = l := ByteArray.toList_eq ..
      have hne := str_neq (fmtV st.W (st.rs ++ [(st.cur : Int)])) (bsOf l)
      rw [bsOf_list] at hne
      by_cases hl0 : l = []
      · have HPB := Lib.hid (show pB l = false by rw [hl0]; exact pB_nil)
        have hem : (bsOf l).toList = [] := hel.trans hl0
        have K := Lib.hid ((HL.out.pull 2 rfl).setBox2 (.int .i64 0) (.slice none 0 0))
        clear hyes hno hl0 hne hrun hel
        go_wp2_with fail
        obtain ⟨m0, m1, m2, m3, m4⟩ := K.out.readB2 0 rfl
        refine bodyPost_ret (v := .tuple #[.agg #[.int .i64 0, .slice none 0 0], .bool false]) (by simp [results, Tryd.results5, go_sem, m0, m1]) rfl (RosPost.no0 HPB.out (ext_of (K.out.to (by repeat (first | exact ext_refl _ | (with_reducible assumption) | refine ext_ext' ?_ _ | refine ext_alloc' ?_ _ | refine ext_drew' ?_))).bel))
      · have hem : ¬ (bsOf l).toList = [] := by rw [hel]; exact hl0
        have hem3 : (bsOf l).toList.isEmpty = false := by simp [hem]
        by_cases hf : fmtV st.W (st.rs ++ [(st.cur : Int)]) = l
        · obtain ⟨hpb, hpw, hpr⟩ := hyes hf hl0
          rw [decide_eq_true hf] at hne
          have HPB := Lib.hid hpb
          have HPW := Lib.hid hpw
          have HPR := Lib.hid hpr
          have K := Lib.hid ((HL.out.pull 2 rfl).setBox2 (.int .i64 st.W) (.slice (some ⟨g, 0, none⟩) (q + 1) cap))
          clear hrun hyes hno hl0 hf hpb hpw hpr hel
          go_wp2_with (first | (go_at_call 31; refine (specFmt_any _ _ _ _ HI.out).mono ?_; rintro e w' ⟨rfl, xe, rfl⟩))
          obtain ⟨m0, m1, m2, m3, m4⟩ := K.out.readB2 0 rfl
          refine bodyPost_ret (v := .tuple #[.agg #[.int .i64 st.W, .slice (some ⟨g, 0, none⟩) (q + 1) cap], .bool true]) (by simp [results, Tryd.results5, go_sem, m0, m1]) rfl (RosPost.yes0 HPB.out HPW.out HPR.out ((K.out.pull 1 rfl).to (by repeat (first | exact ext_refl _ | (with_reducible assumption) | refine ext_ext' ?_ _ | refine ext_alloc' ?_ _ | refine ext_drew' ?_))))
        · have HPB := Lib.hid (hno hf)
          rw [decide_eq_false hf] at hne
          have K := Lib.hid ((HL.out.pull 2 rfl).setBox2 (.int .i64 0) (.slice none 0 0))
          clear hrun hyes hno hl0 hf hel
          go_wp2_with (first | (go_at_call 31; refine (specFmt_any _ _ _ _ HI.out).mono ?_; rintro e w' ⟨rfl, xe, rfl⟩))
          obtain ⟨m0, m1, m2, m3, m4⟩ := K.out.readB2 0 rfl
          refine bodyPost_ret (v := .tuple #[.agg #[.int .i64 0, .slice none 0 0], .bool false]) (by simp [results, Tryd.results5, go_sem, m0, m1]) rfl (RosPost.no0 HPB.out (ext_of (K.out.to (by repeat (first | exact ext_refl _ | (with_reducible assumption) | refine ext_ext' ?_ _ | refine ext_alloc' ?_ _ | refine ext_drew' ?_))).bel))
end
end Go.Proofs.YtchcepihmphdmaaDoor
