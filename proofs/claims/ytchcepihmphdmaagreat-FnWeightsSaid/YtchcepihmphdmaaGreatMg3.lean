/- Part 3 of a proof: bitops, addor, region, mask, gridf, has, grid, parts, near, dcells, search, srch, zeros, srch2. -/
import Derived.Test.YtchcepihmphdmaaGreatRows
import Derived.WalkKit
import Derived.ProofKit
import Derived.OpenShut
import Derived.BigQuiet
import Derived.Lib.Hide
import Derived.Deep.QuietTactic
import Derived.Outline
import Derived.StillTailTactics
import Derived.Shelf.Spec.TrailingZeros
import Derived.Test.YtchcepihmphdmaaGreatMg1
import Derived.Test.YtchcepihmphdmaaGreatMg2
namespace Go.Proofs.YtchcepihmphdmaaGreat
set_option linter.unusedVariables false
section
open Go.ChangeShapes Go.WideShapes Go.ChangeAt Go.RowKit
def shlN (a k : Nat) : Nat := a * 2 ^ k
def shrN (a k : Nat) : Nat := a / 2 ^ k
def orN (a b : Nat) : Nat := a ||| b
def andN (a b : Nat) : Nat := a &&& b
def butN (a b : Nat) : Nat := a ^^^ (a &&& b)
theorem wrap_nat (a : Nat) (h : a < 9223372036854775808) : IntKind.i64.wrap (a : Int) = a := IntWalk.i64_in _ (by omega)
theorem op_shl (a k : Nat) (yk : IntKind) (hk : k ≤ 64) (h : shlN a k < 9223372036854775808) : Op.shift .shl .i64 (a : Int) yk (k : Int) = pure (.int .i64 (shlN a k : Nat)) := by
  have e : ((a : Int) * 2 ^ (k : Int).toNat) = ((shlN a k : Nat) : Int) := by simp [shlN]
  have h1 : ¬ ((k : Int) < 0) := by omega
  have h2 : min (k : Int).toNat IntKind.i64.bits = (k : Int).toNat := by simp [IntKind.bits]; omega
  unfold Op.shift
  rw [if_neg h1, h2]
  show pure (Value.int IntKind.i64 (IntKind.i64.wrap ((a : Int) * 2 ^ (k : Int).toNat))) = _
  rw [e, wrap_nat _ h]
theorem op_shr (a k : Nat) (yk : IntKind) (hk : k ≤ 64) : Op.shift .shr .i64 (a : Int) yk (k : Int) = pure (.int .i64 (shrN a k : Nat)) := by
  have h1 : ¬ ((k : Int) < 0) := by omega
  have h2 : min (k : Int).toNat IntKind.i64.bits = k := by simp [IntKind.bits]; omega
  unfold Op.shift
  rw [if_neg h1, h2]
  show pure (Value.int IntKind.i64 ((a : Int).fdiv (2 ^ k))) = _
  have e : (a : Int).fdiv (2 ^ k) = ((shrN a k : Nat) : Int) := by
    rw [Int.fdiv_eq_ediv_of_nonneg _ (by exact_mod_cast Nat.zero_le _)]
    simp [shrN]
  rw [e]
theorem ofNat_bits (a : Nat) (h : a < 9223372036854775808) : (BitVec.ofInt IntKind.i64.bits (a : Int)).toNat = a := by
  show (BitVec.ofInt 64 (a : Int)).toNat = a
  rw [BitVec.ofInt_natCast, BitVec.toNat_ofNat, Nat.mod_eq_of_lt (by omega)]
theorem and_lt (a b : Nat) (h : a < 9223372036854775808) : andN a b < 9223372036854775808 := Nat.lt_of_le_of_lt Nat.and_le_left h
theorem or_lt (a b : Nat) (h : a < 9223372036854775808) (h' : b < 9223372036854775808) : orN a b < 9223372036854775808 := Nat.or_lt_two_pow (n := 63) h h'
theorem but_lt (a b : Nat) (h : a < 9223372036854775808) : butN a b < 9223372036854775808 := Nat.xor_lt_two_pow (n := 63) h (and_lt a b h)
theorem op_or (a b : Nat) (h : a < 9223372036854775808) (h' : b < 9223372036854775808) : Op.intBits .or .i64 (a : Int) (b : Int) = pure (.int .i64 (orN a b : Nat)) := by
  unfold Op.intBits
  simp only [BitVec.toNat_or, ofNat_bits a h, ofNat_bits b h']
  show pure (Value.int IntKind.i64 (IntKind.i64.wrap ((orN a b : Nat) : Int))) = _
  rw [wrap_nat _ (or_lt a b h h')]
theorem op_and (a b : Nat) (h : a < 9223372036854775808) (h' : b < 9223372036854775808) : Op.intBits .and .i64 (a : Int) (b : Int) = pure (.int .i64 (andN a b : Nat)) := by
  unfold Op.intBits
  simp only [BitVec.toNat_and, ofNat_bits a h, ofNat_bits b h']
  show pure (Value.int IntKind.i64 (IntKind.i64.wrap ((andN a b : Nat) : Int))) = _
  rw [wrap_nat _ (and_lt a b h)]
theorem but_bits (a b : Nat) (h : a < 9223372036854775808) (h' : b < 9223372036854775808) : (BitVec.ofInt IntKind.i64.bits (a : Int) &&& ~~~ BitVec.ofInt IntKind.i64.bits (b : Int)).toNat = butN a b := by
  apply Nat.eq_of_testBit_eq
  intro i
  show (BitVec.ofInt 64 (a : Int) &&& ~~~ BitVec.ofInt 64 (b : Int)).getLsbD i = _
  have ha : (BitVec.ofInt 64 (a : Int)).getLsbD i = a.testBit i := congrArg (fun n => Nat.testBit n i) (ofNat_bits a h)
  have hb : (BitVec.ofInt 64 (b : Int)).getLsbD i = b.testBit i := congrArg (fun n => Nat.testBit n i) (ofNat_bits b h')
  rw [BitVec.getLsbD_and, BitVec.getLsbD_not, ha, hb, butN, Nat.testBit_xor, Nat.testBit_and]
  by_cases hi : i < 64
  · cases a.testBit i <;> cases b.testBit i <;> simp [hi]
  · have : a.testBit i = false := Nat.testBit_lt_two_pow (Nat.lt_of_lt_of_le h (by exact Nat.pow_le_pow_right (n := 2) (by omega) (show 63 ≤ i by omega)))
    simp [this]
theorem op_but (a b : Nat) (h : a < 9223372036854775808) (h' : b < 9223372036854775808) : Op.intBits .andNot .i64 (a : Int) (b : Int) = pure (.int .i64 (butN a b : Nat)) := by
  unfold Op.intBits
  simp only [but_bits a b h h', wrap_nat _ (but_lt a b h)]
theorem bit_of (m k : Nat) : andN (shrN m k) 1 = if m.testBit k then 1 else 0 := by
  rw [andN, shrN, Nat.and_one_is_mod, ← Nat.shiftRight_eq_div_pow, Nat.testBit_eq_decide_div_mod_eq, Nat.shiftRight_eq_div_pow]
  have := Nat.mod_two_eq_zero_or_one (m / 2 ^ k)
  rcases this with e | e <;> simp [e]
theorem bit_test (m k : Nat) : (((andN (shrN m k) 1 : Nat) : Int) == 1) = m.testBit k := by
  rw [bit_of]
  cases m.testBit k <;> rfl
theorem bit_test0 (m k : Nat) : (((andN (shrN m k) 1 : Nat) : Int) == 0) = !m.testBit k := by
  rw [bit_of]
  cases m.testBit k <;> rfl
/-! the walk's own rules, ahead of the kit's -/
class Lt63 (a : Nat) : Prop where
  lt : a < 9223372036854775808
class ShlOK (a k : Nat) : Prop where
  le : k ≤ 64
  lt : shlN a k < 9223372036854775808
class Le64 (k : Nat) : Prop where
  le : k ≤ 64
class Le6 (k : Nat) : Prop where
  le : k ≤ 6
instance lt63_one : Lt63 1 := ⟨by omega⟩
instance lt63_zero : Lt63 0 := ⟨by omega⟩
instance lt63_and (a b : Nat) [h : Lt63 a] : Lt63 (andN a b) := ⟨and_lt a b h.lt⟩
instance lt63_but (a b : Nat) [h : Lt63 a] : Lt63 (butN a b) := ⟨but_lt a b h.lt⟩
instance lt63_or (a b : Nat) [h : Lt63 a] [h' : Lt63 b] : Lt63 (orN a b) := ⟨or_lt a b h.lt h'.lt⟩
instance lt63_shr (a k : Nat) [h : Lt63 a] : Lt63 (shrN a k) := ⟨Nat.lt_of_le_of_lt (Nat.div_le_self _ _) h.lt⟩
instance lt63_shl (a k : Nat) [h : ShlOK a k] : Lt63 (shlN a k) := ⟨h.lt⟩
@[go_sem ↓ 20000] theorem w_shl (a k : Nat) (yk : IntKind) [h : ShlOK a k] : Op.shift .shl .i64 (a : Int) yk (k : Int) = pure (.int .i64 (shlN a k : Nat)) := op_shl a k yk h.le h.lt
@[go_sem ↓ 20000] theorem w_shl1 (k : Nat) (yk : IntKind) [h : ShlOK 1 k] : Op.shift .shl .i64 (1 : Int) yk (k : Int) = pure (.int .i64 (shlN 1 k : Nat)) := op_shl 1 k yk h.le h.lt
@[go_sem ↓ 20000] theorem w_shr (a k : Nat) (yk : IntKind) [h : Le64 k] : Op.shift .shr .i64 (a : Int) yk (k : Int) = pure (.int .i64 (shrN a k : Nat)) := op_shr a k yk h.le
@[go_sem 20000] theorem w_or (a b : Nat) [h : Lt63 a] [h' : Lt63 b] : Op.intBits .or .i64 (a : Int) (b : Int) = pure (.int .i64 (orN a b : Nat)) := op_or a b h.lt h'.lt
@[go_sem 20000] theorem w_and (a b : Nat) [h : Lt63 a] [h' : Lt63 b] : Op.intBits .and .i64 (a : Int) (b : Int) = pure (.int .i64 (andN a b : Nat)) := op_and a b h.lt h'.lt
@[go_sem 20000] theorem w_and1 (a : Nat) [h : Lt63 a] : Op.intBits .and .i64 (a : Int) (1 : Int) = pure (.int .i64 (andN a 1 : Nat)) := op_and a 1 h.lt (by omega)
@[go_sem 20000] theorem w_but (a b : Nat) [h : Lt63 a] [h' : Lt63 b] : Op.intBits .andNot .i64 (a : Int) (b : Int) = pure (.int .i64 (butN a b : Nat)) := op_but a b h.lt h'.lt
@[go_sem 20000] theorem w_bit (m k : Nat) : (((andN (shrN m k) 1 : Nat) : Int) == 1) = m.testBit k := bit_test m k
@[go_sem 20000] theorem w_bit0 (m k : Nat) : (((andN (shrN m k) 1 : Nat) : Int) == 0) = !m.testBit k := bit_test0 m k
instance shlOK_one6 (W : Nat) [h : Le6 W] : ShlOK 1 W := ⟨by have := h.le; omega, by
  have : shlN 1 W ≤ 2 ^ 6 := by rw [shlN, Nat.one_mul]; exact Nat.pow_le_pow_right (by omega) h.le
  omega⟩
def mulN (a b : Nat) : Nat := a * b
def addN (a b : Nat) : Nat := a + b
class MulOK (a b : Nat) : Prop where
  lt : a * b < 9223372036854775808
class AddOK (a b : Nat) : Prop where
  lt : a + b < 9223372036854775808
@[go_sem ↓ 20000] theorem w_mul (a b : Nat) [h : MulOK a b] : Op.intArith .mul .i64 (a : Int) (b : Int) = pure (.int .i64 (mulN a b : Nat)) := by
  show pure (Value.int IntKind.i64 (IntKind.i64.wrap ((a : Int) * (b : Int)))) = _
  rw [← Int.natCast_mul, wrap_nat _ h.lt]; rfl
@[go_sem ↓ 20000] theorem w_add (a b : Nat) [h : AddOK a b] : Op.intArith .add .i64 (a : Int) (b : Int) = pure (.int .i64 (addN a b : Nat)) := by
  show pure (Value.int IntKind.i64 (IntKind.i64.wrap ((a : Int) + (b : Int)))) = _
  rw [← Int.natCast_add, wrap_nat _ h.lt]; rfl
instance mulOK6 (a b : Nat) [h : Le6 a] [h' : Le6 b] : MulOK a b := ⟨Nat.lt_of_le_of_lt (Nat.mul_le_mul h.le h'.le) (by omega)⟩
end
section
open Go.ChangeShapes Go.WideShapes Go.ChangeAt Go.RowKit
theorem add_or {n k : Nat} (h : n.testBit k = false) : n + 2 ^ k = n ||| 2 ^ k := by
  have hr : n % 2 ^ (k + 1) < 2 ^ k := by
    rw [Nat.testBit_eq_decide_div_mod_eq, decide_eq_false_iff_not] at h
    have h1 : n / 2 ^ k % 2 = 0 := by omega
    rw [Nat.pow_succ, Nat.mod_mul, h1]
    have := Nat.mod_lt n (Nat.two_pow_pos k)
    omega
  have e0 := Nat.div_add_mod n (2 ^ (k + 1))
  have h1 := Nat.two_pow_add_eq_or_of_lt (i := k) hr 1
  have h2 := Nat.two_pow_add_eq_or_of_lt (i := k + 1) (Nat.mod_lt n (Nat.two_pow_pos _)) (n / 2 ^ (k + 1))
  have hlt : 2 ^ k * 1 + n % 2 ^ (k + 1) < 2 ^ (k + 1) := by rw [Nat.pow_succ]; rw [Nat.pow_succ] at hr; omega
  have h3 := Nat.two_pow_add_eq_or_of_lt (i := k + 1) hlt (n / 2 ^ (k + 1))
  rw [Nat.mul_one] at h1 h3
  generalize 2 ^ (k + 1) * (n / 2 ^ (k + 1)) = q at e0 h2 h3
  generalize n % 2 ^ (k + 1) = r at e0 h1 h2 h3
  have e1 : n + 2 ^ k = q + (2 ^ k + r) := by omega
  rw [e1, h3, h1, Nat.or_comm (2 ^ k), ← Nat.or_assoc, ← h2, e0]
theorem addN_or {n k : Nat} (h : n.testBit k = false) : addN n (shlN 1 k) = orN n (shlN 1 k) := by
  unfold addN orN shlN; rw [Nat.one_mul]; exact add_or h
end
section
open Go.ChangeShapes Go.WideShapes Go.ChangeAt Go.RowKit
def rowB (wd x : Int) : Bool := decide (0 ≤ x) && decide (x < (shlN 1 wd.toNat : Nat))
def regB (wd : Int) (rows : List Int) : Bool := btw wd 1 6 && btw rows.length 1 6 && allTo (fun k => rowB wd (nth rows k)) rows.length
theorem regB_w {wd : Int} {rows : List Int} (h : btw wd 1 6 = false) : regB wd rows = false := by simp [regB, h]
theorem regB_h {wd : Int} {rows : List Int} (h : btw rows.length 1 6 = false) : regB wd rows = false := by simp [regB, h]
theorem regB_row {wd : Int} {rows : List Int} {k : Nat} (h : k < rows.length) (hk : rowB wd (nth rows k) = false) : regB wd rows = false := by
  simp [regB, allTo_false (p := fun k => rowB wd (nth rows k)) h hk]
theorem isSide_any (n : Int) (w : World) : Calls Tryz.prog 84 #[.int .i64 n] w fun e w' => e = .returned (.bool (btw n 1 6)) ∧ ∃ x, w' = ext w x := by
  go_enter Tryz.func84, Tryz.ntmps84
  go_wp2_with (first | (go_at_call 70; refine (between_any _ _ _ _).mono ?_; rintro e w' ⟨rfl, xe, rfl⟩))
  go_ret
  exact ⟨rfl, (by repeat first | apply wxr | with_reducible assumption | apply wxe | apply wxa | apply wxd)⟩
theorem isSide_b (n : Int) (b : Bool) (h : btw n 1 6 = b) (w : World) : Calls Tryz.prog 84 #[.int .i64 n] w fun e w' => e = .returned (.bool b) ∧ ∃ x, w' = ext w x := h ▸ isSide_any n w
theorem isRegion_any (wd : Int) (rows : List Int) (v : Value) (w : World) (h : IntsAt w v rows) :
    Calls Tryz.prog 48 #[.agg #[.int .i64 wd, v]] w fun e w' => e = .returned (.bool (regB wd rows)) ∧ ∃ x, w' = ext w x := by
  obtain ⟨a, b, o, cap, rfl, hc1, hc2, hc3, hcell⟩ := h.opn
  cases h1 : btw wd 1 6
  · clear hcell
    go_enter Tryz.func48, Tryz.ntmps48
    go_wp2_with (first | (go_at_call 84; refine (isSide_b _ _ (by assumption) _).mono ?_; rintro e w' ⟨rfl, xe, rfl⟩))
    go_ret
    exact ⟨ret_bool (regB_w h1).symm, (by repeat first | apply wxr | with_reducible assumption | apply wxe | apply wxa | apply wxd)⟩
  obtain ⟨b1, b2⟩ := btw_iff.1 h1
  cases h2 : btw rows.length 1 6
  · clear hcell
    go_enter Tryz.func48, Tryz.ntmps48
    go_wp2_with (first | (go_at_call 84; refine (isSide_b _ _ (by assumption) _).mono ?_; rintro e w' ⟨rfl, xe, rfl⟩))
    go_ret
    exact ⟨ret_bool (regB_h h2).symm, (by repeat first | apply wxr | with_reducible assumption | apply wxe | apply wxa | apply wxd)⟩
  obtain ⟨W, rfl⟩ : ∃ W : Nat, wd = W := ⟨wd.toNat, by omega⟩
  have h6 : Le6 W := ⟨by omega⟩
  have HF := Lib.hid (show regB W rows = (btw W 1 6 && btw rows.length 1 6 && allTo (fun k => rowB W (nth rows k)) rows.length) from rfl)
  go_enter Tryz.func48, Tryz.ntmps48
  go_wp2_with (first | (go_at_call 84; refine (isSide_b _ _ (by assumption) _).mono ?_; rintro e w' ⟨rfl, xe, rfl⟩))
  go_loopw [19] (fun i wr => ∃ k : Nat, k ≤ rows.length ∧ i = .int .i64 k ∧ allTo (fun k => rowB W (nth rows k)) k = true ∧ ∃ x, wr = ext (w.alloc (.cells #[.int .i64 W, .slice a rows.length cap] 26)) x) (fun i _ => rows.length - (intOf i).toNat)
  case atStart => exact ⟨0, Nat.zero_le _, rfl, rfl, (by repeat first | apply wxr | with_reducible assumption | apply wxe | apply wxa | apply wxd)⟩
  case round =>
    obtain ⟨k, hk, rfl, hall, x, rfl⟩ := hrel
    have HA := Lib.hid hall
    clear hall
    by_cases hlt : k < rows.length
    · obtain ⟨hb, hi, hck⟩ := hcell k hlt
      clear hcell
      by_cases hneg : nth rows k < 0
      · go_wp2_with fail
        go_ret
        exact ⟨ret_bool (regB_row hlt (by simp [rowB]; omega)).symm, (by repeat first | apply wxr | with_reducible assumption | apply wxe | apply wxa | apply wxd)⟩
      by_cases hbig : ((shlN 1 W : Nat) : Int) ≤ nth rows k
      · go_wp2_with fail
        go_ret
        exact ⟨ret_bool (regB_row hlt (by simp [rowB]; omega)).symm, (by repeat first | apply wxr | with_reducible assumption | apply wxe | apply wxa | apply wxd)⟩
      · go_wp2_with fail
        go_roundw
        case rel => exact ⟨k + 1, hlt, int_succ k, allTo_succ HA.out (by simp [rowB]; omega), (by repeat first | apply wxr | with_reducible assumption | apply wxe | apply wxa | apply wxd)⟩
        case measure => simp [intOf]; omega
    · have hks := Lib.hid (show k = rows.length by omega)
      go_wp2_with fail
      go_ret
      exact ⟨ret_bool (by rw [HF.out, h1, h2, ← hks.out, HA.out]; rfl), (by repeat first | apply wxr | with_reducible assumption | apply wxe | apply wxa | apply wxd)⟩
theorem specIsRegion_any (wd : Int) (rows : List Int) (v : Value) (w : World) (h : IntsAt w v rows) :
    Calls Tryz.prog 51 #[.agg #[.int .i64 wd, v]] w fun e w' => e = .returned (.bool (regB wd rows)) ∧ ∃ x, w' = ext w x := by
  obtain ⟨a, b, o, cap, rfl, hc1, hc2, hc3, hcell⟩ := h.opn
  cases h1 : btw wd 1 6
  · clear hcell
    go_enter Tryz.func51, Tryz.ntmps51
    go_wp2_with (first | (go_at_call 71; refine (l1In_b _ _ _ _ (by assumption) _).mono ?_; rintro e w' ⟨rfl, xe, rfl⟩))
    go_ret
    exact ⟨ret_bool (regB_w h1).symm, (by repeat first | apply wxr | with_reducible assumption | apply wxe | apply wxa | apply wxd)⟩
  obtain ⟨b1, b2⟩ := btw_iff.1 h1
  cases h2 : btw rows.length 1 6
  · clear hcell
    go_enter Tryz.func51, Tryz.ntmps51
    go_wp2_with (first | (go_at_call 71; refine (l1In_b _ _ _ _ (by assumption) _).mono ?_; rintro e w' ⟨rfl, xe, rfl⟩))
    go_ret
    exact ⟨ret_bool (regB_h h2).symm, (by repeat first | apply wxr | with_reducible assumption | apply wxe | apply wxa | apply wxd)⟩
  obtain ⟨W, rfl⟩ : ∃ W : Nat, wd = W := ⟨wd.toNat, by omega⟩
  have h6 : Le6 W := ⟨by omega⟩
  have HF := Lib.hid (show regB W rows = (btw W 1 6 && btw rows.length 1 6 && allTo (fun k => rowB W (nth rows k)) rows.length) from rfl)
  go_enter Tryz.func51, Tryz.ntmps51
  go_wp2_with (first | (go_at_call 71; refine (l1In_b _ _ _ _ (by assumption) _).mono ?_; rintro e w' ⟨rfl, xe, rfl⟩))
  go_loopw [3] (fun i wr => ∃ k : Nat, k ≤ rows.length ∧ i = .int .i64 k ∧ allTo (fun k => rowB W (nth rows k)) k = true ∧ ∃ x, wr = ext (w.alloc (.cells #[.int .i64 W, .slice a rows.length cap] 26)) x) (fun i _ => rows.length - (intOf i).toNat)
  case atStart => exact ⟨0, Nat.zero_le _, rfl, rfl, (by repeat first | apply wxr | with_reducible assumption | apply wxe | apply wxa | apply wxd)⟩
  case round =>
    obtain ⟨k, hk, rfl, hall, x, rfl⟩ := hrel
    have HA := Lib.hid hall
    clear hall
    by_cases hlt : k < rows.length
    · obtain ⟨hb, hi, hck⟩ := hcell k hlt
      clear hcell
      by_cases hneg : nth rows k < 0
      · go_wp2_with fail
        refine wp_region_ext_lit (by kernel_rfl) (by kernel_rfl) ?_
        repeat (go_big_quiet_step (fail))
        refine wpQuiet_nil ?_
        intro _ hwq
        obtain ⟨xq, hwq⟩ := hwq
        subst hwq
        go_wp2_with fail
        go_ret
        exact ⟨ret_bool (regB_row hlt (by simp [rowB]; omega)).symm, (by repeat first | apply wxr | with_reducible assumption | apply wxe | apply wxa | apply wxd)⟩
      have hneg' : decide (nth rows k < 0) = false := decide_eq_false hneg
      by_cases hbig : ((shlN 1 W : Nat) : Int) ≤ nth rows k
      · go_wp2_with fail
        refine wp_region_ext_lit (by kernel_rfl) (by kernel_rfl) ?_
        repeat (go_big_quiet_step (fail))
        refine wpQuiet_nil ?_
        intro _ hwq
        obtain ⟨xq, hwq⟩ := hwq
        subst hwq
        go_wp2_with fail
        go_ret
        exact ⟨ret_bool (regB_row hlt (by simp [rowB]; omega)).symm, (by repeat first | apply wxr | with_reducible assumption | apply wxe | apply wxa | apply wxd)⟩
      · have hbig' : decide (((shlN 1 W : Nat) : Int) ≤ nth rows k) = false := decide_eq_false hbig
        go_wp2_with fail
        refine wp_region_ext_lit (by kernel_rfl) (by kernel_rfl) ?_
        repeat (go_big_quiet_step (fail))
        refine wpQuiet_nil ?_
        intro _ hwq
        obtain ⟨xq, hwq⟩ := hwq
        subst hwq
        go_wp2_with fail
        go_roundw
        case rel => exact ⟨k + 1, hlt, int_succ k, allTo_succ HA.out (by simp [rowB]; omega), (by repeat first | apply wxr | with_reducible assumption | apply wxe | apply wxa | apply wxd)⟩
        case measure => simp [intOf]; omega
    · have hks := Lib.hid (show k = rows.length by omega)
      go_wp2_with fail
      go_ret
      exact ⟨ret_bool (by rw [HF.out, h1, h2, ← hks.out, HA.out]; rfl), (by repeat first | apply wxr | with_reducible assumption | apply wxe | apply wxa | apply wxd)⟩
end
section
open Go.ChangeShapes Go.WideShapes Go.ChangeAt Go.RowKit
def rowN (rows : List Int) (k : Nat) : Nat := (nth rows k).toNat
/-- the mask of the first k rows -/
def maskTo (W : Nat) (rows : List Int) : Nat → Nat := iter (fun k m => m + shlN (rowN rows k) (mulN k W)) 0
theorem maskTo_succ (W : Nat) (rows : List Int) (k : Nat) : maskTo W rows (k + 1) = maskTo W rows k + shlN (rowN rows k) (mulN k W) := rfl
def maskR (wd : Int) (rows : List Int) : Nat := maskTo wd.toNat rows rows.length
def maskV (wd : Int) (rows : List Int) : Nat := if regB wd rows then maskR wd rows else 0
theorem regB_bd {wd : Int} {rows : List Int} (h : regB wd rows = true) : ∃ W : Nat, wd = W ∧ 1 ≤ W ∧ W ≤ 6 ∧ 1 ≤ rows.length ∧ rows.length ≤ 6 ∧ ∀ k, k < rows.length → nth rows k = (rowN rows k : Nat) ∧ rowN rows k < 2 ^ W := by
  simp only [regB, Bool.and_eq_true, btw_iff] at h
  refine ⟨wd.toNat, by omega, by omega, by omega, by omega, by omega, fun k hk => ?_⟩
  have := allTo_true.1 h.2 k hk
  simp [rowB, shlN] at this
  have h2 : ((2 ^ wd.toNat : Nat) : Int) = 2 ^ wd.toNat := by simp
  refine ⟨by unfold rowN; omega, ?_⟩
  unfold rowN
  omega
theorem maskTo_lt {W : Nat} {rows : List Int} (h : ∀ k, k < rows.length → rowN rows k < 2 ^ W) : ∀ k, k ≤ rows.length → maskTo W rows k < 2 ^ (k * W) := by
  intro k
  induction k with
  | zero => intro _; simp [maskTo, iter]
  | succ k ih =>
    intro hk
    have h1 := ih (by omega)
    have h2 := h k (by omega)
    rw [maskTo_succ, shlN, mulN]
    have e : 2 ^ ((k + 1) * W) = 2 ^ W * 2 ^ (k * W) := by rw [Nat.add_mul, Nat.one_mul, Nat.pow_add, Nat.mul_comm]
    rw [e]
    have h3 : (rowN rows k + 1) * 2 ^ (k * W) ≤ 2 ^ W * 2 ^ (k * W) := Nat.mul_le_mul_right _ h2
    rw [Nat.add_mul, Nat.one_mul] at h3
    omega
theorem maskTo_or {W : Nat} {rows : List Int} (h : ∀ k, k < rows.length → rowN rows k < 2 ^ W) {k : Nat} (hk : k < rows.length) : orN (maskTo W rows k) (shlN (rowN rows k) (mulN k W)) = maskTo W rows (k + 1) := by
  have h1 := maskTo_lt h k (by omega)
  rw [maskTo_succ, orN, shlN, mulN, Nat.mul_comm (rowN rows k), Nat.or_comm, ← Nat.two_pow_add_eq_or_of_lt h1, Nat.add_comm]
theorem pow36 {k W : Nat} (hk : k ≤ 6) (hW : W ≤ 6) : 2 ^ (k * W) ≤ 68719476736 := by
  have : k * W ≤ 36 := Nat.mul_le_mul hk hW
  calc 2 ^ (k * W) ≤ 2 ^ 36 := Nat.pow_le_pow_right (by omega) this
    _ = 68719476736 := by decide
theorem shl_row_lt {r k W : Nat} (hr : r < 2 ^ W) (hk : k < 6) (hW : W ≤ 6) : shlN r (mulN k W) < 68719476736 := by
  have e : 2 ^ ((k + 1) * W) = 2 ^ W * 2 ^ (k * W) := by rw [Nat.add_mul, Nat.one_mul, Nat.pow_add, Nat.mul_comm]
  have h3 : (r + 1) * 2 ^ (k * W) ≤ 2 ^ W * 2 ^ (k * W) := Nat.mul_le_mul_right _ hr
  have h4 := pow36 (k := k + 1) (by omega) hW
  have h5 := Nat.two_pow_pos (k * W)
  rw [Nat.add_mul, Nat.one_mul, ← e] at h3
  unfold shlN mulN
  omega
theorem shlOK_row {r k W : Nat} (hr : r < 2 ^ W) (hk : k < 6) (hW : W ≤ 6) : ShlOK r (mulN k W) :=
  ⟨by have : k * W ≤ 6 * 6 := Nat.mul_le_mul (by omega) hW
      unfold mulN; omega, by have := shl_row_lt hr hk hW; omega⟩
theorem mask_any (wd : Int) (rows : List Int) (v : Value) (w : World) (h : IntsAt w v rows) (hr : regB wd rows = true) :
    Calls Tryz.prog 53 #[.agg #[.int .i64 wd, v]] w fun e w' => e = .returned (.int .i64 (maskR wd rows : Nat)) ∧ ∃ x, w' = ext w x := by
  obtain ⟨a, b, o, cap, rfl, hc1, hc2, hc3, hcell⟩ := h.opn
  obtain ⟨W, rfl, hW1, hW2, hl1, hl2, hrow⟩ := regB_bd hr
  have HF := Lib.hid (show maskR W rows = maskTo W rows rows.length from rfl)
  have HR := Lib.hid hrow
  have h6 : Le6 W := ⟨hW2⟩
  clear hrow hr
  go_enter Tryz.func53, Tryz.ntmps53
  go_wp2_with fail
  go_loopw [3, 9] (fun n i wr => ∃ k : Nat, k ≤ rows.length ∧ i = .int .i64 k ∧ n = .int .i64 (maskTo W rows k : Nat) ∧ ∃ x, wr = ext (w.alloc (.cells #[.int .i64 W, .slice a rows.length cap] 26)) x) (fun n i _ => rows.length - (intOf i).toNat)
  case atStart => exact ⟨0, Nat.zero_le _, rfl, rfl, (by repeat first | apply wxr | with_reducible assumption | apply wxe | apply wxa | apply wxd)⟩
  case round =>
    obtain ⟨k, hk, rfl, rfl, x, rfl⟩ := hrel
    by_cases hlt : k < rows.length
    · obtain ⟨hb, hi, hck⟩ := hcell k hlt
      obtain ⟨e1, e2⟩ := HR.out k hlt
      rw [e1] at hck
      have h6k : Le6 k := ⟨by omega⟩
      have hok : ShlOK (rowN rows k) (mulN k W) := shlOK_row e2 (by omega) hW2
      have hl3 : Lt63 (maskTo W rows k) := ⟨by
        have h1 := maskTo_lt (fun k hk => (HR.out k hk).2) k (by omega)
        have h2 := pow36 (k := k) (W := W) (by omega) hW2
        omega⟩
      have HO := Lib.hid (maskTo_or (fun k hk => (HR.out k hk).2) hlt)
      clear hcell e1
      go_wp2_with fail
      go_roundw
      case rel => exact ⟨k + 1, hlt, int_succ k, by rw [HO.out], (by repeat first | apply wxr | with_reducible assumption | apply wxe | apply wxa | apply wxd)⟩
      case measure => simp [intOf]; omega
    · have hks := Lib.hid (show k = rows.length by omega)
      go_wp2_with fail
      go_ret
      exact ⟨ret_int (by rw [HF.out, ← hks.out]), (by repeat first | apply wxr | with_reducible assumption | apply wxe | apply wxa | apply wxd)⟩
theorem specMaskOf_any (wd : Int) (rows : List Int) (v : Value) (w : World) (h : IntsAt w v rows) :
    Calls Tryz.prog 11 #[.agg #[.int .i64 wd, v]] w fun e w' => e = .returned (.int .i64 (maskV wd rows : Nat)) ∧ ∃ x, w' = ext w x := by
  have h0 := h
  obtain ⟨a, b, o, cap, rfl, hc1, hc2, hc3, hcell⟩ := h.opn
  have HF := Lib.hid (show maskV wd rows = if regB wd rows then maskR wd rows else 0 from rfl)
  cases hr : regB wd rows
  · clear hcell
    by_cases hpos : 0 < rows.length
    all_goals
      go_enter Tryz.func11, Tryz.ntmps11
      go_wp2_with fail
      go_loopw [3, 4] (fun n i wr => i = .int .i64 0 ∧ n = .int .i64 0 ∧ ∃ x, wr = ext (w.alloc (.cells #[.int .i64 wd, .slice a rows.length cap] 26)) x) (fun n i _ => 0)
      case atStart => exact ⟨rfl, rfl, (by repeat first | apply wxr | with_reducible assumption | apply wxe | apply wxa | apply wxd)⟩
      case round =>
        obtain ⟨rfl, rfl, x, rfl⟩ := hrel
        go_wp2_with (first | (go_at_call 51; refine (specIsRegion_any _ _ _ _ (by with_reducible first|assumption|((first|refine wmI ‹_› ?_);repeat first|apply wxr|assumption|apply wxe|apply wxa|apply wxd))).mono ?_; rintro e w' ⟨rfl, xe, rfl⟩))
        go_ret
        exact ⟨ret_int (by rw [HF.out, hr]; rfl), (by repeat first | apply wxr | with_reducible assumption | apply wxe | apply wxa | apply wxd)⟩
  obtain ⟨W, rfl, hW1, hW2, hl1, hl2, hrow⟩ := regB_bd hr
  have HF2 := Lib.hid (show maskR W rows = maskTo W rows rows.length from rfl)
  have HR := Lib.hid hrow
  have h6 : Le6 W := ⟨hW2⟩
  clear hrow
  go_enter Tryz.func11, Tryz.ntmps11
  go_wp2_with fail
  go_loopw [3, 4] (fun n i wr => ∃ k : Nat, k ≤ rows.length ∧ i = .int .i64 k ∧ n = .int .i64 (maskTo W rows k : Nat) ∧ ∃ x, wr = ext (w.alloc (.cells #[.int .i64 W, .slice a rows.length cap] 26)) x) (fun n i _ => rows.length - (intOf i).toNat)
  case atStart => exact ⟨0, Nat.zero_le _, rfl, rfl, (by repeat first | apply wxr | with_reducible assumption | apply wxe | apply wxa | apply wxd)⟩
  case round =>
    obtain ⟨k, hk, rfl, rfl, x, rfl⟩ := hrel
    by_cases hlt : k < rows.length
    · obtain ⟨hb, hi, hck⟩ := hcell k hlt
      obtain ⟨e1, e2⟩ := HR.out k hlt
      rw [e1] at hck
      have h6k : Le6 k := ⟨by omega⟩
      have hok : ShlOK (rowN rows k) (mulN k W) := shlOK_row e2 (by omega) hW2
      have hsl := shl_row_lt e2 (show k < 6 by omega) hW2
      have hml : maskTo W rows k < 68719476736 := by
        have h1 := maskTo_lt (fun k hk => (HR.out k hk).2) k (by omega)
        have h2 := pow36 (k := k) (W := W) (by omega) hW2
        omega
      have HO := Lib.hid (maskTo_succ W rows k)
      have hadd : AddOK (maskTo W rows k) (shlN (rowN rows k) (mulN k W)) := ⟨by omega⟩
      clear hcell e1
      go_wp2_with (first | (go_at_call 51; refine (specIsRegion_any _ _ _ _ (by with_reducible first|assumption|((first|refine wmI ‹_› ?_);repeat first|apply wxr|assumption|apply wxe|apply wxa|apply wxd))).mono ?_; rintro e w' ⟨rfl, xe, rfl⟩))
      refine wp_region_ext_lit (by kernel_rfl) (by kernel_rfl) ?_
      repeat (go_big_quiet_step (fail))
      refine wpQuiet_nil ?_
      intro _ hwq
      obtain ⟨xq, hwq⟩ := hwq
      subst hwq
      go_wp2_with fail
      go_roundw
      case rel => exact ⟨k + 1, hlt, int_succ k, by rw [HO.out]; rfl, (by repeat first | apply wxr | with_reducible assumption | apply wxe | apply wxa | apply wxd)⟩
      case measure => simp [intOf]; omega
    · have hks := Lib.hid (show k = rows.length by omega)
      go_wp2_with fail
      go_ret
      exact ⟨ret_int (by rw [HF.out, hr, if_pos rfl, HF2.out, ← hks.out]), (by repeat first | apply wxr | with_reducible assumption | apply wxe | apply wxa | apply wxd)⟩
end
section
open Go.ChangeShapes Go.WideShapes Go.ChangeAt Go.RowKit
def updN (f : Nat → Nat) (k x : Nat) : Nat → Nat := fun i => if i = k then x else f i
def intF (f : Nat → Nat) : Nat → Int := fun y => ((f y : Nat) : Int)
theorem intF_upd (f : Nat → Nat) (k x : Nat) : upd (intF f) k ((x : Nat) : Int) = intF (updN f k x) := by
  funext i; unfold upd intF updN; split <;> rfl
/-- a fresh region and a truth value -/
def RosPost (w : World) (wd : Int) (rows : List Int) (b : Bool) (e : Ending) (w' : World) : Prop := ∃ v', e = .returned (.tuple #[.agg #[.int .i64 wd, v'], .bool b]) ∧ Held w w' [rowI v' rows]
end
section
open Go.ChangeShapes Go.WideShapes Go.ChangeAt Go.RowKit
def hasB (W : Nat) (rows : List Int) (x y : Int) : Bool := btw x 0 ((W : Int) - 1) && (btw y 0 ((rows.length : Int) - 1) && (rowN rows y.toNat).testBit x.toNat)
theorem hasB_x {W : Nat} {rows : List Int} {x y : Int} (h : btw x 0 ((W : Int) - 1) = false) : hasB W rows x y = false := by simp [hasB, h]
theorem hasB_y {W : Nat} {rows : List Int} {x y : Int} (h : btw y 0 ((rows.length : Int) - 1) = false) : hasB W rows x y = false := by simp [hasB, h]
theorem hasB_in {W : Nat} {rows : List Int} {x y : Nat} (h : btw x 0 ((W : Int) - 1) = true) (h2 : btw y 0 ((rows.length : Int) - 1) = true) : hasB W rows x y = (rowN rows y).testBit x := by simp [hasB, h, h2]
theorem hasB_at {W : Nat} {rows : List Int} {x y : Nat} (h : x < W) (h2 : y < rows.length) : hasB W rows x y = (rowN rows y).testBit x := hasB_in (btw_iff.2 ⟨by omega, by omega⟩) (btw_iff.2 ⟨by omega, by omega⟩)
theorem row_lt63 {W : Nat} {rows : List Int} {y : Nat} (hW : W ≤ 6) (h : rowN rows y < 2 ^ W) : Lt63 (rowN rows y) := ⟨by have := Nat.pow_le_pow_right (n := 2) (by omega) hW; omega⟩
set_option maxHeartbeats 1000000 in
theorem has_any (W : Nat) (rows : List Int) (x y : Int) (v : Value) (w : World) (h : IntsAt w v rows) (hr : regB W rows = true) :
    Calls Tryz.prog 56 #[.agg #[.int .i64 W, v], .int .i64 x, .int .i64 y] w fun e w' => e = .returned (.bool (hasB W rows x y)) ∧ ∃ x, w' = ext w x := by
  obtain ⟨a, b, o, cap, rfl, hc1, hc2, hc3, hcell⟩ := h.opn
  obtain ⟨W', hWW, hW1, hW2, hl1, hl2, hrow⟩ := regB_bd hr
  obtain rfl : W = W' := by omega
  cases h1 : btw x 0 ((W : Int) - 1)
  · have HF := Lib.hid (hasB_x (rows := rows) (y := y) h1)
    clear hcell hrow hr hWW
    go_enter Tryz.func56, Tryz.ntmps56
    go_wp2_with (first | (go_at_call 70; refine (between_b _ _ _ _ h1 _).mono ?_; rintro e w' ⟨rfl, xe, rfl⟩))
    go_ret
    exact ⟨ret_bool HF.out.symm, (by repeat first | apply wxr | with_reducible assumption | apply wxe | apply wxa | apply wxd)⟩
  cases h2 : btw y 0 ((rows.length : Int) - 1)
  · have HF := Lib.hid (hasB_y (W := W) (x := x) h2)
    clear hcell hrow hr hWW
    go_enter Tryz.func56, Tryz.ntmps56
    go_wp2_with (first | (go_at_call 70; refine (between_any _ _ _ _).mono ?_; rintro e w' ⟨rfl, xe, rfl⟩))
    go_ret
    exact ⟨ret_bool HF.out.symm, (by repeat first | apply wxr | with_reducible assumption | apply wxe | apply wxa | apply wxd)⟩
  obtain ⟨x1, x2⟩ := btw_iff.1 h1
  obtain ⟨y1, y2⟩ := btw_iff.1 h2
  obtain ⟨X, rfl⟩ : ∃ X : Nat, x = X := ⟨x.toNat, by omega⟩
  obtain ⟨Y, rfl⟩ : ∃ Y : Nat, y = Y := ⟨y.toNat, by omega⟩
  have HF := Lib.hid (hasB_in h1 h2)
  have hY : Y < rows.length := by omega
  obtain ⟨hb, hi, hck⟩ := hcell Y hY
  obtain ⟨e1, e2⟩ := hrow Y hY
  rw [e1] at hck
  haveI := row_lt63 hW2 e2
  haveI : Le64 X := ⟨by omega⟩
  clear hcell hrow hr hWW e1
  go_enter Tryz.func56, Tryz.ntmps56
  go_wp2_with (first | (go_at_call 70; refine (between_any _ _ _ _).mono ?_; rintro e w' ⟨rfl, xe, rfl⟩))
  go_ret
  exact ⟨ret_bool HF.out.symm, (by repeat first | apply wxr | with_reducible assumption | apply wxe | apply wxa | apply wxd)⟩
set_option maxHeartbeats 1000000 in
theorem l6In_any (W : Nat) (rows : List Int) (x y : Int) (v : Value) (w : World) (h : IntsAt w v rows) (hr : regB W rows = true) :
    Calls Tryz.prog 96 #[.agg #[.int .i64 W, v], .int .i64 x, .int .i64 y] w fun e w' => e = .returned (.bool (hasB W rows x y)) ∧ ∃ x, w' = ext w x := by
  obtain ⟨a, b, o, cap, rfl, hc1, hc2, hc3, hcell⟩ := h.opn
  obtain ⟨W', hWW, hW1, hW2, hl1, hl2, hrow⟩ := regB_bd hr
  obtain rfl : W = W' := by omega
  by_cases x1 : 0 ≤ x
  case neg =>
    have HF := Lib.hid (hasB_x (W := W) (rows := rows) (x := x) (y := y) (by simp [btw]; omega))
    have x1' : decide (0 ≤ x) = false := decide_eq_false x1
    clear hcell hrow hr hWW
    go_enter Tryz.func96, Tryz.ntmps96
    go_wp2_with fail
    go_ret
    exact ⟨ret_bool HF.out.symm, (by repeat first | apply wxr | with_reducible assumption | apply wxe | apply wxa | apply wxd)⟩
  by_cases y1 : 0 ≤ y
  case neg =>
    have HF := Lib.hid (hasB_y (W := W) (rows := rows) (x := x) (y := y) (by simp [btw]; omega))
    have y1' : decide (0 ≤ y) = false := decide_eq_false y1
    clear hcell hrow hr hWW
    go_enter Tryz.func96, Tryz.ntmps96
    go_wp2_with fail
    go_ret
    exact ⟨ret_bool HF.out.symm, (by repeat first | apply wxr | with_reducible assumption | apply wxe | apply wxa | apply wxd)⟩
  obtain ⟨X, rfl⟩ : ∃ X : Nat, x = X := ⟨x.toNat, by omega⟩
  obtain ⟨Y, rfl⟩ : ∃ Y : Nat, y = Y := ⟨y.toNat, by omega⟩
  by_cases x2 : X < W
  case neg =>
    have HF := Lib.hid (hasB_x (W := W) (rows := rows) (x := X) (y := Y) (by simp [btw]; omega))
    have x2' : W ≤ X := by omega
    clear hcell hrow hr hWW
    go_enter Tryz.func96, Tryz.ntmps96
    go_wp2_with fail
    go_ret
    exact ⟨ret_bool HF.out.symm, (by repeat first | apply wxr | with_reducible assumption | apply wxe | apply wxa | apply wxd)⟩
  by_cases y2 : Y < rows.length
  case neg =>
    have HF := Lib.hid (hasB_y (W := W) (rows := rows) (x := X) (y := Y) (by simp [btw]; omega))
    have y2' : rows.length ≤ Y := by omega
    clear hcell hrow hr hWW
    go_enter Tryz.func96, Tryz.ntmps96
    go_wp2_with fail
    go_ret
    exact ⟨ret_bool HF.out.symm, (by repeat first | apply wxr | with_reducible assumption | apply wxe | apply wxa | apply wxd)⟩
  have HF := Lib.hid (hasB_at x2 y2)
  obtain ⟨hb, hi, hck⟩ := hcell Y y2
  obtain ⟨e1, e2⟩ := hrow Y y2
  rw [e1] at hck
  haveI := row_lt63 hW2 e2
  haveI : Le64 X := ⟨by omega⟩
  clear hcell hrow hr hWW e1
  go_enter Tryz.func96, Tryz.ntmps96
  go_wp2_with fail
  go_ret
  exact ⟨ret_bool HF.out.symm, (by repeat first | apply wxr | with_reducible assumption | apply wxe | apply wxa | apply wxd)⟩
end
section
open Go.ChangeShapes Go.WideShapes Go.ChangeAt Go.RowKit
def cRow (rows : List Int) (y : Nat) (cs : List (Int × Int)) : Nat → List (Int × Int) := iter (fun x cs => if (rowN rows y).testBit x then cs ++ [((x : Int), (y : Int))] else cs) cs
def cTo (W : Nat) (rows : List Int) : Nat → List (Int × Int) := iter (fun y cs => cRow rows y cs W) []
def cellsR (W : Nat) (rows : List Int) : List (Int × Int) := cTo W rows rows.length
def cellsV (wd : Int) (rows : List Int) : List (Int × Int) := if regB wd rows then cellsR wd.toNat rows else []
end
section
open Go.ChangeShapes Go.WideShapes Go.ChangeAt Go.RowKit
/-- two places with a side in common -/
def nearP (x y x' y' : Nat) : Prop := (x = x' ∧ (y + 1 = y' ∨ y' + 1 = y)) ∨ (y = y' ∧ (x + 1 = x' ∨ x' + 1 = x))
/-- what can be reached from a place within S -/
def Rch (S : Nat → Nat → Prop) (a b x y : Nat) : Prop := ∀ T : Nat → Nat → Prop, T a b → (∀ x y x' y', T x y → nearP x y x' y' → S x' y' → T x' y') → T x y
theorem Rch.base (S : Nat → Nat → Prop) (a b : Nat) : Rch S a b a b := fun _ h _ => h
theorem Rch.step {S : Nat → Nat → Prop} {a b x y x' y' : Nat} (h : Rch S a b x y) (hn : nearP x y x' y') (hs : S x' y') : Rch S a b x' y' := fun T h1 h2 => h2 x y x' y' (h T h1 h2) hn hs
theorem Rch.sub {S : Nat → Nat → Prop} {a b x y : Nat} (h : Rch S a b x y) (h0 : S a b) : S x y := h S h0 fun _ _ _ _ _ _ hs => hs
/-- a closed set of reached places is all that can be reached -/
theorem Rch_of {S T : Nat → Nat → Prop} {a b : Nat} (h0 : T a b) (h1 : ∀ x y, T x y → Rch S a b x y) (h2 : ∀ x y x' y', T x y → nearP x y x' y' → S x' y' → T x' y') (x y : Nat) : T x y ↔ Rch S a b x y :=
  ⟨h1 x y, fun h => h T h0 h2⟩
def First (S : Nat → Nat → Prop) (a b : Nat) : Prop := S a b ∧ ∀ x y, S x y → b < y ∨ (b = y ∧ a ≤ x)
theorem First.one {S : Nat → Nat → Prop} {a b a' b' : Nat} (h : First S a b) (h' : First S a' b') : a = a' ∧ b = b' := by
  have h1 := h.2 a' b' h'.1
  have h2 := h'.2 a b h.1
  omega
/-- the rows p hold the set T -/
def RowsOf (W H : Nat) (p : List Int) (T : Nat → Nat → Prop) : Prop :=
  p.length = H ∧ ∀ y, y < H → nth p y = ((rowN p y : Nat) : Int) ∧ rowN p y < 2 ^ W ∧ ∀ x, x < W → ((rowN p y).testBit x = true ↔ T x y)
theorem RowsOf.one {W H : Nat} {p q : List Int} {T : Nat → Nat → Prop} (h : RowsOf W H p T) (h' : RowsOf W H q T) : p = q := by
  apply List.ext_getElem (by rw [h.1, h'.1])
  intro i h1 h2
  obtain ⟨a1, a2, a3⟩ := h.2 i (by rw [← h.1]; exact h1)
  obtain ⟨b1, b2, b3⟩ := h'.2 i (by rw [← h.1]; exact h1)
  rw [nth_get h1, nth_get h2, a1, b1]
  congr 1
  apply Nat.eq_of_testBit_eq
  intro x
  by_cases hx : x < W
  · have := (a3 x hx).trans (b3 x hx).symm
    cases hp : (rowN p i).testBit x <;> cases hq : (rowN q i).testBit x <;> simp_all
  · rw [Nat.testBit_lt_two_pow (Nat.lt_of_lt_of_le a2 (Nat.pow_le_pow_right (by omega) (by omega))), Nat.testBit_lt_two_pow (Nat.lt_of_lt_of_le b2 (Nat.pow_le_pow_right (by omega) (by omega)))]
theorem RowsOf.congr {W H : Nat} {p : List Int} {T T' : Nat → Nat → Prop} (h : RowsOf W H p T) (e : ∀ x y, x < W → y < H → (T x y ↔ T' x y)) : RowsOf W H p T' :=
  ⟨h.1, fun y hy => ⟨(h.2 y hy).1, (h.2 y hy).2.1, fun x hx => ((h.2 y hy).2.2 x hx).trans (e x y hx hy)⟩⟩
/-- the parts of S, one behind the other -/
def PartsR (W H : Nat) : List (List Int) → (Nat → Nat → Prop) → Prop
  | [], S => ∀ x y, ¬ S x y
  | p :: ps, S => ∃ a b, First S a b ∧ RowsOf W H p (Rch S a b) ∧ PartsR W H ps fun x y => S x y ∧ ¬ Rch S a b x y
theorem PartsR.one {W H : Nat} : ∀ {ps qs : List (List Int)} {S : Nat → Nat → Prop}, PartsR W H ps S → PartsR W H qs S → ps = qs
  | [], [], _, _, _ => rfl
  | [], q :: qs, S, h, ⟨a, b, hf, _⟩ => absurd hf.1 (h a b)
  | p :: ps, [], S, ⟨a, b, hf, _⟩, h => absurd hf.1 (h a b)
  | p :: ps, q :: qs, S, ⟨a, b, hf, hp, hr⟩, ⟨a', b', hf', hp', hr'⟩ => by
    obtain ⟨rfl, rfl⟩ := hf.one hf'
    rw [hp.one hp', PartsR.one hr hr']
/-- the places of rows that are given by a function -/
def inF (W H : Nat) (f : Nat → Nat) (x y : Nat) : Prop := x < W ∧ y < H ∧ (f y).testBit x = true
def FitF (W H : Nat) (f : Nat → Nat) : Prop := ∀ y, y < H → f y < 2 ^ W
theorem rowN_tab {H : Nat} {f : Nat → Nat} {y : Nat} (h : y < H) : rowN (tab H (intF f)) y = f y := by
  rw [rowN, tab_nth _ h, intF, Int.toNat_natCast]
theorem rowsOf_tab {W H : Nat} {f : Nat → Nat} {T : Nat → Nat → Prop} (hf : FitF W H f) (h : ∀ x y, x < W → y < H → ((f y).testBit x = true ↔ T x y)) : RowsOf W H (tab H (intF f)) T := by
  refine ⟨tab_len _ _, fun y hy => ?_⟩
  rw [rowN_tab hy, tab_nth _ hy]
  exact ⟨rfl, hf y hy, fun x hx => h x y hx hy⟩
/-! a place put in, a place taken out -/
def putF (f : Nat → Nat) (x y : Nat) : Nat → Nat := updN f y (orN (f y) (shlN 1 x))
def cutF (f : Nat → Nat) (x y : Nat) : Nat → Nat := updN f y (butN (f y) (shlN 1 x))
theorem butN_bitP (a b i : Nat) : (butN a b).testBit i = (a.testBit i && !b.testBit i) := by
  rw [butN, Nat.testBit_xor, Nat.testBit_and]
  cases a.testBit i <;> cases b.testBit i <;> rfl
theorem cutF_bit (f : Nat → Nat) (x y x' y' : Nat) : (cutF f x y y').testBit x' = true ↔ ((f y').testBit x' = true ∧ ¬ (x = x' ∧ y = y')) := by
  unfold cutF updN
  by_cases e : y' = y
  · subst e
    rw [if_pos rfl, butN_bitP, shlN, Nat.one_mul, Nat.testBit_two_pow]
    by_cases h : x = x' <;> simp [h]
  · rw [if_neg e]
    constructor
    · exact fun h => ⟨h, fun k => e k.2.symm⟩
    · exact fun h => h.1
theorem cutF_fit {W H : Nat} {f : Nat → Nat} (h : FitF W H f) (x y : Nat) : FitF W H (cutF f x y) := by
  intro y' hy'
  unfold cutF updN
  split
  · rename_i e
    subst e
    refine Nat.lt_of_le_of_lt ?_ (h _ hy')
    refine Nat.le_of_testBit ?_
    intro i hi
    rw [butN_bitP] at hi
    simp at hi; exact hi.1
  · exact h y' hy'
theorem inF_cut {W H : Nat} {f : Nat → Nat} (x y x' y' : Nat) : inF W H (cutF f x y) x' y' ↔ (inF W H f x' y' ∧ ¬ (x = x' ∧ y = y')) := by
  unfold inF
  rw [cutF_bit]
  exact ⟨fun h => ⟨⟨h.1, h.2.1, h.2.2.1⟩, h.2.2.2⟩, fun h => ⟨h.1.1, h.1.2.1, h.1.2.2, h.2⟩⟩
/-- how much is left: for the measure -/
def weiF (f : Nat → Nat) : Nat → Nat
  | 0 => 0
  | n + 1 => weiF f n + f n
/-! ### the program's search of one part -/
/-- left: what is left; part: what has been put into the part; todo: what waits -/
structure Flood (W H : Nat) (S : Nat → Nat → Prop) (a b : Nat) (left part : Nat → Nat) (todo : List (Nat × Nat)) : Prop where
  fl : FitF W H left
  fp : FitF W H part
  top : ∀ c ∈ todo, c.1 < W ∧ c.2 < H
  all : ∀ x y, S x y ↔ (inF W H left x y ∨ inF W H part x y ∨ (x, y) ∈ todo)
  dis : ∀ x y, inF W H left x y → ¬ inF W H part x y ∧ (x, y) ∉ todo
  got : ∀ x y, (inF W H part x y ∨ (x, y) ∈ todo) → Rch S a b x y
  own : inF W H part a b ∨ (a, b) ∈ todo
/-- every neighbour of what is in the part has been seen -/
def Shut (W H : Nat) (left part : Nat → Nat) : Prop := ∀ x y x' y', inF W H part x y → nearP x y x' y' → ¬ inF W H left x' y'
theorem Flood.start {W H : Nat} {left : Nat → Nat} {a b : Nat} (hf : FitF W H left) (hs : inF W H left a b) : Flood W H (inF W H left) a b (cutF left a b) (fun _ => 0) [(a, b)] := by
  have h0 : ∀ x y, ¬ inF W H (fun _ => 0) x y := fun x y h => by simp [inF] at h
  refine ⟨cutF_fit hf a b, fun y _ => Nat.two_pow_pos W, fun c hc => ?_, fun x y => ?_, fun x y h => ?_, fun x y h => ?_, .inr (by simp)⟩
  · simp at hc; subst hc; exact ⟨hs.1, hs.2.1⟩
  · rw [inF_cut]
    by_cases e : a = x ∧ b = y
    · obtain ⟨rfl, rfl⟩ := e
      simp [hs]
    · have e2 : ¬ ((x, y) ∈ [(a, b)]) := by simp; intro h1 h2; exact e ⟨h1.symm, h2.symm⟩
      constructor
      · exact fun h => .inl ⟨h, e⟩
      · rintro (h | h | h)
        · exact h.1
        · exact absurd h (h0 x y)
        · exact absurd h e2
  · rw [inF_cut] at h
    refine ⟨h0 x y, fun h2 => ?_⟩
    simp at h2
    exact h.2 ⟨h2.1.symm, h2.2.symm⟩
  · rcases h with h | h
    · exact absurd h (h0 x y)
    · simp at h
      obtain ⟨rfl, rfl⟩ := h
      exact Rch.base _ _ _
/-- a neighbour of what is in the part is put behind those that wait -/
theorem Flood.push {W H : Nat} {S : Nat → Nat → Prop} {a b : Nat} {left part : Nat → Nat} {x y x' y' : Nat} {todo : List (Nat × Nat)} (F : Flood W H S a b left part todo) (hp : inF W H part x y) (hn : nearP x y x' y') (hl : inF W H left x' y') :
    Flood W H S a b (cutF left x' y') part (todo ++ [(x', y')]) := by
  refine ⟨cutF_fit F.fl _ _, F.fp, fun c hc => ?_, fun u v => ?_, fun u v h => ?_, fun u v h => ?_, ?_⟩
  · rcases List.mem_append.1 hc with h | h
    · exact F.top c h
    · simp at h; subst h; exact ⟨hl.1, hl.2.1⟩
  · rw [F.all, inF_cut, List.mem_append]
    by_cases e : x' = u ∧ y' = v
    · obtain ⟨rfl, rfl⟩ := e
      simp [hl]
    · have e2 : ¬ ((u, v) ∈ [(x', y')]) := by simp; intro h1 h2; exact e ⟨h1.symm, h2.symm⟩
      constructor
      · rintro (h | h | h)
        · exact .inl ⟨h, e⟩
        · exact .inr (.inl h)
        · exact .inr (.inr (.inl h))
      · rintro (h | h | h | h)
        · exact .inl h.1
        · exact .inr (.inl h)
        · exact .inr (.inr h)
        · exact absurd h e2
  · rw [inF_cut] at h
    refine ⟨(F.dis u v h.1).1, fun k => ?_⟩
    rcases List.mem_append.1 k with k | k
    · exact (F.dis u v h.1).2 k
    · simp at k; exact h.2 ⟨k.1.symm, k.2.symm⟩
  · rcases h with h | h
    · exact F.got u v (.inl h)
    · rcases List.mem_append.1 h with h | h
      · exact F.got u v (.inr h)
      · simp at h
        obtain ⟨rfl, rfl⟩ := h
        exact (F.got x y (.inl hp)).step hn ((F.all _ _).2 (.inl hl))
  · rcases F.own with h | h
    · exact .inl h
    · exact .inr (List.mem_append_left _ h)
/-- nothing waits: the part is all that can be reached -/
theorem Flood.fin {W H : Nat} {S : Nat → Nat → Prop} {a b : Nat} {left part : Nat → Nat} (F : Flood W H S a b left part []) (hc : Shut W H left part) :
    RowsOf W H (tab H (intF part)) (Rch S a b) ∧ ∀ x y, inF W H left x y ↔ (S x y ∧ ¬ Rch S a b x y) := by
  have hall : ∀ x y, S x y ↔ (inF W H left x y ∨ inF W H part x y) := fun x y => by rw [F.all]; simp
  have h := Rch_of (S := S) (T := inF W H part) (a := a) (b := b) (by rcases F.own with h | h; exact h; simp at h) (fun x y h => F.got x y (.inl h)) (fun x y x' y' h hn hs => by
    rcases (hall x' y').1 hs with k | k
    · exact absurd k (hc x y x' y' h hn)
    · exact k)
  refine ⟨rowsOf_tab F.fp fun x y hx hy => ?_, fun x y => ?_⟩
  · rw [← h]
    exact ⟨fun k => ⟨hx, hy, k⟩, fun k => k.2.2⟩
  · rw [← h, hall]
    constructor
    · exact fun k => ⟨.inl k, (F.dis x y k).1⟩
    · rintro ⟨k | k, k2⟩
      · exact k
      · exact absurd k k2
/-! ### the reference's search of one part -/
theorem near_sides {x y x' y' : Nat} : nearP x y x' y' ↔ ((x' = x + 1 ∧ y' = y) ∨ (x' = x ∧ y' = y + 1) ∨ (x = x' + 1 ∧ y' = y) ∨ (x' = x ∧ y = y' + 1)) := by
  unfold nearP; omega
def castP (l : List (Nat × Nat)) : List (Int × Int) := l.map fun c => ((c.1 : Int), (c.2 : Int))
def pxN (l : List (Nat × Nat)) (k : Nat) : Nat := (l.getD k (0, 0)).1
def pyN (l : List (Nat × Nat)) (k : Nat) : Nat := (l.getD k (0, 0)).2
theorem pN_get {l : List (Nat × Nat)} {k : Nat} (h : k < l.length) : l[k] = (pxN l k, pyN l k) := by simp [pxN, pyN, List.getD, h]
theorem pN_mem {l : List (Nat × Nat)} {k : Nat} (h : k < l.length) : (pxN l k, pyN l k) ∈ l := by rw [← pN_get h]; exact List.getElem_mem h
theorem length_le_of_sub : ∀ {l m : List (Nat × Nat)}, l.Nodup → (∀ c ∈ l, c ∈ m) → l.length ≤ m.length
  | [], m, _, _ => Nat.zero_le _
  | c :: l, m, hn, hs => by
    have hc := hs c (by simp)
    have h1 := List.nodup_cons.1 hn
    have := length_le_of_sub (l := l) (m := m.erase c) h1.2 (fun d hd => (List.mem_erase_of_ne (fun e => h1.1 (by rw [← e]; exact hd))).2 (hs d (List.mem_cons_of_mem _ hd)))
    rw [List.length_erase_of_mem hc] at this
    have h2 : 0 < m.length := List.length_pos_of_mem hc
    simp only [List.length_cons]
    omega
def inL (l : List (Nat × Nat)) (x y : Nat) : Prop := (x, y) ∈ l
structure Grow (left : List (Nat × Nat)) (a b : Nat) (part : List (Nat × Nat)) : Prop where
  nd : part.Nodup
  sub : ∀ c ∈ part, c ∈ left
  got : ∀ x y, (x, y) ∈ part → Rch (inL left) a b x y
  own : (a, b) ∈ part
theorem Grow.len {left part : List (Nat × Nat)} {a b : Nat} (G : Grow left a b part) : part.length ≤ left.length := length_le_of_sub G.nd G.sub
theorem Grow.start {left : List (Nat × Nat)} {a b : Nat} (h : (a, b) ∈ left) : Grow left a b [(a, b)] :=
  ⟨by simp, fun c hc => by simp at hc; subst hc; exact h, fun x y hc => by simp at hc; obtain ⟨rfl, rfl⟩ := hc; exact Rch.base _ _ _, by simp⟩
theorem Grow.push {left part : List (Nat × Nat)} {a b x y : Nat} (G : Grow left a b part) {i : Nat} (hi : i < part.length) (hn : nearP (pxN part i) (pyN part i) x y) (hl : (x, y) ∈ left) (h : (x, y) ∉ part) : Grow left a b (part ++ [(x, y)]) := by
  refine ⟨?_, fun c hc => ?_, fun u v hc => ?_, List.mem_append_left _ G.own⟩
  · rw [List.nodup_append]
    refine ⟨G.nd, by simp, fun c hc d hd => ?_⟩
    simp at hd; subst hd
    intro e; subst e; exact h hc
  · rcases List.mem_append.1 hc with hc | hc
    · exact G.sub c hc
    · simp at hc; subst hc; exact hl
  · rcases List.mem_append.1 hc with hc | hc
    · exact G.got u v hc
    · simp at hc
      obtain ⟨rfl, rfl⟩ := hc
      exact (G.got _ _ (pN_mem hi)).step hn hl
/-- the neighbours of the first i have been taken up; of the next one those among the first k places -/
def SeenG (left part : List (Nat × Nat)) (i : Nat) : Prop := ∀ j, j < i → ∀ c ∈ left, nearP (pxN part j) (pyN part j) c.1 c.2 → c ∈ part
def SeenK (left part : List (Nat × Nat)) (i k : Nat) : Prop := ∀ q, q < k → nearP (pxN part i) (pyN part i) (pxN left q) (pyN left q) → (pxN left q, pyN left q) ∈ part
theorem SeenG.next {left part : List (Nat × Nat)} {i : Nat} (h : SeenG left part i) (hk : SeenK left part i left.length) : SeenG left part (i + 1) := fun j hj c hc hn => by
  by_cases e : j = i
  · subst e
    obtain ⟨q, hq, rfl⟩ := List.getElem_of_mem hc
    rw [pN_get hq] at hn ⊢
    exact hk q hq hn
  · exact h j (by omega) c hc hn
theorem Grow.fin {left part : List (Nat × Nat)} {a b : Nat} (G : Grow left a b part) (h : SeenG left part part.length) (x y : Nat) : (x, y) ∈ part ↔ Rch (inL left) a b x y :=
  Rch_of (S := inL left) (T := inL part) (a := a) (b := b) G.own G.got (fun x y x' y' hp hn hs => by
    obtain ⟨j, hj, e⟩ := List.getElem_of_mem hp
    rw [pN_get hj] at e
    simp only [Prod.mk.injEq] at e
    refine h j hj (x', y') hs ?_
    rw [e.1, e.2]; exact hn) x y
/-- the rows that are filled with the first i cells of a list -/
def rwF (l : List (Nat × Nat)) : Nat → Nat → Nat := iter (fun i f => putF f (pxN l i) (pyN l i)) fun _ => 0
/-! ### the cells in order -/
def ordP (c d : Nat × Nat) : Prop := c.2 < d.2 ∨ (c.2 = d.2 ∧ c.1 < d.1)
def cRowN (rows : List Int) (y : Nat) (cs : List (Nat × Nat)) : Nat → List (Nat × Nat) := iter (fun x cs => if (rowN rows y).testBit x then cs ++ [(x, y)] else cs) cs
def cToN (W : Nat) (rows : List Int) : Nat → List (Nat × Nat) := iter (fun y cs => cRowN rows y cs W) []
def cellsN (W : Nat) (rows : List Int) : List (Nat × Nat) := cToN W rows rows.length
end
section
open Go.ChangeShapes Go.WideShapes Go.ChangeAt Go.RowKit
instance (x y x' y' : Nat) : Decidable (nearP x y x' y') := inferInstanceAs (Decidable (_ ∨ _))
/-- a slice of cells that is built -/
theorem Held.newCells {W0 w : World} {L : List Row} (H : Held W0 w L) (cs : List (Int × Int)) (hl : cs.length ≤ maxLen) : Held W0 (w.alloc (.cells (cs.flatMap cv).toArray 40)) (rowC (.slice (some ⟨w.heap.size, 0, none⟩) cs.length cs.length) cs :: L) :=
  H.push ((Below.refl _ _).alloc (Nat.le_refl _) _) ⟨flat_len cs, .inr ⟨w.heap.size, cs.length, _, rfl, Nat.le_refl _, heap_alloc_new w _, Nat.le_refl _, hl, by rw [List.size_toArray, flat_len], by rw [List.toList_toArray, ← flat_len, List.take_length]⟩⟩
def hcB (cs : List (Int × Int)) (x y : Int) : Bool := decide ((x, y) ∈ cs)
theorem cxy_mem {cs : List (Int × Int)} {x y : Int} : (x, y) ∈ cs ↔ ∃ k, k < cs.length ∧ cx cs k = x ∧ cy cs k = y := by
  constructor
  · intro h
    obtain ⟨k, hk, e⟩ := List.getElem_of_mem h
    refine ⟨k, hk, ?_, ?_⟩ <;> simp [cx, cy, List.getD, hk, e]
  · rintro ⟨k, hk, h1, h2⟩
    have e : cs[k] = (x, y) := by
      apply Prod.ext
      · rw [← h1]; simp [cx, List.getD, hk]
      · rw [← h2]; simp [cy, List.getD, hk]
    rw [← e]; exact List.getElem_mem hk
theorem specHas_any (cs : List (Int × Int)) (x y : Int) (v : Value) (w : World) (h : CellsAt w v cs) :
    Calls Tryz.prog 128 #[v, .int .i64 x, .int .i64 y] w fun e w' => e = .returned (.bool (hcB cs x y)) ∧ ∃ x, w' = ext w x := by
  obtain ⟨a, b, o, cap, rfl, hc1, hc2, hc3, hcell⟩ := h.opn
  go_enter Tryz.func128, Tryz.ntmps128
  go_wp2_with fail
  go_loopw [7] (fun i wr => ∃ k : Nat, k ≤ cs.length ∧ i = .int .i64 k ∧ Hid (∀ j, j < k → ¬ (cx cs j = x ∧ cy cs j = y)) ∧ ∃ x, wr = ext w x) (fun i _ => cs.length - (intOf i).toNat)
  case atStart => exact ⟨0, Nat.zero_le _, rfl, Lib.hid (fun j hj => absurd hj (by omega)), (by repeat first | apply wxr | with_reducible assumption | apply wxe | apply wxa | apply wxd)⟩
  case round =>
    obtain ⟨k, hk, rfl, HN, xr, rfl⟩ := hrel
    by_cases hlt : k < cs.length
    · obtain ⟨q1, q2, q3, q4⟩ := hcell k hlt
      clear hcell
      by_cases hx : cx cs k = x
      · have hx1 : (cx cs k == x) = true := by simp [hx]
        by_cases hy : cy cs k = y
        · have hy1 : (cy cs k == y) = true := by simp [hy]
          have HF := Lib.hid (show hcB cs x y = true from decide_eq_true (cxy_mem.2 ⟨k, hlt, hx, hy⟩))
          clear hx hy
          go_wp2_with fail
          go_ret
          exact ⟨ret_bool HF.out.symm, (by repeat first | apply wxr | with_reducible assumption | apply wxe | apply wxa | apply wxd)⟩
        · have hy1 : (cy cs k == y) = false := by simp [hy]
          have HF := Lib.hid (show ∀ j, j < k + 1 → ¬ (cx cs j = x ∧ cy cs j = y) from fun j hj => by
            by_cases e : j = k
            · subst e; exact fun h => hy h.2
            · exact HN.out j (by omega))
          clear hx hy
          go_wp2_with fail
          go_roundw
          case rel => exact ⟨k + 1, hlt, int_succ k, HF, (by repeat first | apply wxr | with_reducible assumption | apply wxe | apply wxa | apply wxd)⟩
          case measure => simp [intOf]; omega
      · have hx1 : (cx cs k == x) = false := by simp [hx]
        have HF := Lib.hid (show ∀ j, j < k + 1 → ¬ (cx cs j = x ∧ cy cs j = y) from fun j hj => by
          by_cases e : j = k
          · subst e; exact fun h => hx h.1
          · exact HN.out j (by omega))
        clear hx
        go_wp2_with fail
        go_roundw
        case rel => exact ⟨k + 1, hlt, int_succ k, HF, (by repeat first | apply wxr | with_reducible assumption | apply wxe | apply wxa | apply wxd)⟩
        case measure => simp [intOf]; omega
    · have HF := Lib.hid (show hcB cs x y = false from decide_eq_false fun h => by
        obtain ⟨j, hj, h1, h2⟩ := cxy_mem.1 h
        exact HN.out j (by omega) ⟨h1, h2⟩)
      go_wp2_with fail
      go_ret
      exact ⟨ret_bool HF.out.symm, (by repeat first | apply wxr | with_reducible assumption | apply wxe | apply wxa | apply wxd)⟩
theorem specHas_b (cs : List (Int × Int)) (x y : Int) (b : Bool) (hb : hcB cs x y = b) (v : Value) (w : World) (h : CellsAt w v cs) :
    Calls Tryz.prog 128 #[v, .int .i64 x, .int .i64 y] w fun e w' => e = .returned (.bool b) ∧ ∃ x, w' = ext w x := hb ▸ specHas_any cs x y v w h
def sidesV (x y : Int) : List (Int × Int) := [(x, y - 1), (x - 1, y), (x + 1, y), (x, y + 1)]
end
section
open Go.ChangeShapes Go.WideShapes Go.ChangeAt Go.RowKit
/-- v reads cs wherever the rows L1 are held -/
def COwn (L1 : List Row) (v : Value) (cs : List (Int × Int)) : Prop := ∀ (W0 w : World) (L : List Row), Held W0 w L → (∀ r ∈ L1, r ∈ L) → CellsAt w v cs
theorem COwn.row (v : Value) (cs : List (Int × Int)) : COwn [rowC v cs] v cs := fun _ _ _ H h => H.cells (h _ List.mem_cons_self)
theorem COwn.more {L1 L2 : List Row} {v : Value} {cs : List (Int × Int)} (h : COwn L1 v cs) (hs : ∀ r ∈ L1, r ∈ L2) : COwn L2 v cs := fun W0 w L H k => h W0 w L H fun r hr => k r (hs r hr)
def POwn (L1 : List Row) (v : Value) (pss : List (List (Int × Int))) : Prop := ∀ (W0 w : World) (L : List Row), Held W0 w L → (∀ r ∈ L1, r ∈ L) → PiecesAt w v pss
abbrev rowP (v : Value) (vs : List Value) : Row := ⟨v, 27, 1, vs.length, vs⟩
theorem POwn.build {L1 : List Row} {v : Value} {vs : List Value} {pss : List (List (Int × Int))} (hl : vs.length = pss.length) (h : ∀ k, k < pss.length → COwn L1 (vcAt vs k) (pAt pss k)) : POwn (rowP v vs :: L1) v pss := fun W0 w L H hs =>
  ⟨vs, by rw [← hl]; exact Held.sl H (hs _ List.mem_cons_self), fun k hk => h k hk W0 w L H fun r hr => hs r (List.mem_cons_of_mem _ hr)⟩
theorem Cur.cellsO {W0 w : World} {g : Nat} {v u : Value} {L L1 : List Row} {cs : List (Int × Int)} (C : Cur W0 w g v L) (h : COwn L1 u cs) (hs : ∀ r ∈ L1, r ∈ L) : CellsAt w u cs := by
  obtain ⟨i, q, H⟩ := C.held
  exact h _ _ _ H fun r hr => List.mem_cons_of_mem _ (hs r hr)
theorem Cur.piecesO {W0 w : World} {g : Nat} {v u : Value} {L L1 : List Row} {pss : List (List (Int × Int))} (C : Cur W0 w g v L) (h : POwn L1 u pss) (hs : ∀ r ∈ L1, r ∈ L) : PiecesAt w u pss := by
  obtain ⟨i, q, H⟩ := C.held
  exact h _ _ _ H fun r hr => List.mem_cons_of_mem _ (hs r hr)
theorem Cur.perm {W0 w : World} {g : Nat} {v : Value} {L L' : List Row} (C : Cur W0 w g v L) (p : L.Perm L') : Cur W0 w g v L' := C.with fun i q H => H.front (List.Perm.cons _ p)
theorem Cur.newCells {W0 w : World} {g : Nat} {v : Value} {L : List Row} (C : Cur W0 w g v L) (cs : List (Int × Int)) (hl : cs.length ≤ maxLen) : Cur W0 (w.alloc (.cells (cs.flatMap cv).toArray 40)) g v (rowC (.slice (some ⟨w.heap.size, 0, none⟩) cs.length cs.length) cs :: L) :=
  C.push (L' := [rowC (.slice (some ⟨w.heap.size, 0, none⟩) cs.length cs.length) cs]) ((Held.start w).newCells cs hl)
theorem Cur.rowCV {W0 w : World} {g : Nat} {v u : Value} {L : List Row} {cs : List (Int × Int)} (C : Cur W0 w g v (rowC u cs :: L)) : ∃ a c, u = .slice a cs.length c := by
  obtain ⟨i, q, H⟩ := C.held
  exact H.swap.rowCV
theorem COwn.shape {L1 : List Row} {v : Value} {cs : List (Int × Int)} {W0 w : World} {g : Nat} {u : Value} {L : List Row} (h : COwn L1 v cs) (C : Cur W0 w g u L) (hs : ∀ r ∈ L1, r ∈ L) : ∃ a c, v = .slice a cs.length c := by
  obtain ⟨a, b, o, c, e, _⟩ := (C.cellsO h hs).opn
  exact ⟨a, c, e⟩
/-- pieces that are being drawn: the outer row first, what the pieces are read from behind it -/
structure Pcs (L1 : List Row) (vs : List Value) (pss : List (List (Int × Int))) : Prop where
  len : vs.length = pss.length
  own : ∀ k, k < pss.length → COwn L1 (vcAt vs k) (pAt pss k)
theorem Pcs.one {L1 : List Row} {u : Value} {cs : List (Int × Int)} (h : COwn L1 u cs) : Pcs L1 [u] [cs] := ⟨rfl, fun k hk => by
  have : k = 0 := by simp at hk; omega
  subst this; exact h⟩
theorem Pcs.snoc {L1 L2 : List Row} {vs : List Value} {pss : List (List (Int × Int))} {u : Value} {cs : List (Int × Int)} (P : Pcs L1 vs pss) (h : COwn L2 u cs) : Pcs (L2 ++ L1) (vs ++ [u]) (pss ++ [cs]) := ⟨by simp [P.len], fun k hk => by
  have hl := P.len
  by_cases e : k < pss.length
  · have h1 : vcAt (vs ++ [u]) k = vcAt vs k := by rw [vcAt, vcAt, List.getD, List.getElem?_append_left (by omega), List.getD]
    have h2 : pAt (pss ++ [cs]) k = pAt pss k := by rw [pAt, pAt, List.getD, List.getElem?_append_left e, List.getD]
    rw [h1, h2]
    exact (P.own k e).more fun r hr => List.mem_append_right _ hr
  · have hk2 : k = pss.length := by simp at hk; omega
    have h1 : vcAt (vs ++ [u]) k = u := by rw [vcAt, List.getD, List.getElem?_append_right (by omega), show k - vs.length = 0 by omega]; rfl
    have h2 : pAt (pss ++ [cs]) k = cs := by rw [pAt, List.getD, List.getElem?_append_right (by omega), show k - pss.length = 0 by omega]; rfl
    rw [h1, h2]
    exact h.more fun r hr => List.mem_append_left _ hr⟩
theorem Pcs.owns {L1 : List Row} {vs : List Value} {pss : List (List (Int × Int))} (P : Pcs L1 vs pss) (v : Value) : POwn (rowP v vs :: L1) v pss := POwn.build P.len P.own
theorem Held.rowPV {W0 w : World} {L : List Row} {v : Value} {vs : List Value} (H : Held W0 w (rowP v vs :: L)) : ∃ a c, v = .slice a vs.length c := own_slice (H.own _ List.mem_cons_self)
theorem Cur.rowPV {W0 w : World} {g : Nat} {v u : Value} {L : List Row} {vs : List Value} (C : Cur W0 w g v (rowP u vs :: L)) : ∃ a c, u = .slice a vs.length c := by
  obtain ⟨i, q, H⟩ := C.held
  exact H.swap.rowPV
theorem Cur.newPiece {W0 w : World} {g : Nat} {v : Value} {L : List Row} (C : Cur W0 w g v L) (u : Value) : Cur W0 (w.alloc (.cells #[u] 27)) g v (rowP (.slice (some ⟨w.heap.size, 0, none⟩) 1 1) [u] :: L) :=
  C.push (L' := [rowP (.slice (some ⟨w.heap.size, 0, none⟩) 1 1) [u]]) ((Held.start w).push ((Below.refl _ _).alloc (Nat.le_refl _) _) ⟨by simp, .inr ⟨w.heap.size, 1, _, rfl, Nat.le_refl _, heap_alloc_new w _, Nat.le_refl _, by simp [maxLen], rfl, rfl⟩⟩)
theorem one_val' {x : Value} (h : x.oneCell' = true) : ∀ u ∈ [x], u.oneCell' = true := by intro u hu; simp at hu; subst hu; exact h
/-- a piece behind the pieces -/
theorem wpList_snocP {P : Program} {W0 w : World} {g : Nat} {v : Value} {L : List Row} {ops : Array Oper} {rest : List Oper} {o : Oper} {a : Act} {Q : Exit → Act → World → Prop} (hgd : o.guard = none) (s x : Operand)
    (ho : o.op = .call { callee := .builtin .append, args := #[s, x], argTypes := #[45, 45] }) (E : Elem P 45 27 1 24 (.slice none 0 0))
    {u u' z : Value} {vs : List Value} (C : Cur W0 w g v (rowP u vs :: L)) (hs : a.eval s = u) (hx : a.eval x = u') (hsl : Sl w 1 u' 1 [z]) (hz : z.oneCell' = true) (hl : vs.length ≤ 1000000)
    (h : ∀ b c w', Cur W0 w' g v (rowP (.slice b (vs.length + 1) c) (vs ++ [z]) :: L) → wpList P ops Q rest (a.put o.dst (.slice b (vs.length + 1) c)) w') : wpList P ops Q (o :: rest) a w := by
  obtain ⟨zs, i, q, h1, h2, H⟩ := C
  refine wpList_append_held (m := 1) hgd s x _ ho E H.swap hs hx hsl (one_val' hz) (by unfold maxLen; omega) (by omega) ?_
  intro v' w' H'
  have H2 : Held W0 w' (rowP v' (vs ++ [z]) :: curR g v i q :: L) := by rw [rowP, List.length_append]; exact H'
  obtain ⟨b, c, e⟩ := H2.rowPV
  rw [List.length_append, List.length_singleton] at e
  subst e
  exact h b c w' ⟨zs, i, q, h1, h2, H2.swap⟩
/-- a cell behind the cells -/
theorem wpList_snocCC {P : Program} {W0 w : World} {g : Nat} {v : Value} {L : List Row} {ops : Array Oper} {rest : List Oper} {o : Oper} {a : Act} {Q : Exit → Act → World → Prop} (hgd : o.guard = none) (s x : Operand)
    (ho : o.op = .call { callee := .builtin .append, args := #[s, x], argTypes := #[27, 27] }) (E : Elem P 27 40 2 16 (.agg #[.int .i64 0, .int .i64 0]))
    {u u' : Value} {cs : List (Int × Int)} {p q : Int} (C : Cur W0 w g v (rowC u cs :: L)) (hs : a.eval s = u) (hx : a.eval x = u') (hsl : Sl w 2 u' 1 [.int .i64 p, .int .i64 q]) (hl : cs.length ≤ 1000000)
    (h : ∀ b c w', Cur W0 w' g v (rowC (.slice b (cs.length + 1) c) (cs ++ [(p, q)]) :: L) → wpList P ops Q rest (a.put o.dst (.slice b (cs.length + 1) c)) w') : wpList P ops Q (o :: rest) a w := by
  obtain ⟨zs, i, r, h1, h2, H⟩ := C
  refine wpList_append_held (m := 1) hgd s x _ ho E H.swap hs hx hsl (one_cell _ _) (by unfold maxLen; omega) (by omega) ?_
  intro v' w' H'
  have H2 := H'.snocC
  obtain ⟨b, c, e⟩ := H2.rowCV
  rw [List.length_append, List.length_singleton] at e
  subst e
  exact h b c w' ⟨zs, i, r, h1, h2, H2.swap⟩
end
section
open Go.ChangeShapes Go.WideShapes Go.ChangeAt Go.RowKit
set_option maxHeartbeats 1000000 in
theorem search_any (f : Nat) (cb : Array Value) (n : Nat) (hn : n ≤ 1000) (p : Nat → Bool) (w : World) (eg : ∀ args w, (callFunc f args).run Tryz.prog w = .ok (.enter f args) w)
    (hf : ∀ w', (∃ x, w' = ext w x) → ∀ i : Nat, i < n → Calls Tryz.prog f (#[.int .i64 i] ++ cb) w' fun e w'' => e = .returned (.bool (p i)) ∧ ∃ x, w'' = ext w' x) (hmono : ∀ a b, a ≤ b → b < n → p a = true → p b = true) :
    Calls Tryz.prog 119 #[.int .i64 n, .func (.func f) #[] cb] w fun e w' => ∃ k : Nat, e = .returned (.int .i64 k) ∧ k ≤ n ∧ (∀ i, i < k → p i = false) ∧ (∀ i, k ≤ i → i < n → p i = true) ∧ ∃ x, w' = ext w x := by
  have HF := Lib.hid hf
  have HM := Lib.hid hmono
  clear hf hmono
  go_enter Tryz.func119, Tryz.ntmps119
  go_wp2_with fail
  go_loopw [5, 6] (fun ui uj wr => ∃ i j : Nat, ui = .int .i64 i ∧ uj = .int .i64 j ∧ i ≤ j ∧ j ≤ n ∧ (∀ q, q < i → p q = false) ∧ (∀ q, j ≤ q → q < n → p q = true) ∧ ∃ x, wr = ext w x) (fun ui uj _ => (intOf uj).toNat - (intOf ui).toNat)
  case atStart => exact ⟨0, n, rfl, rfl, Nat.zero_le _, Nat.le_refl _, fun q hq => by omega, fun q h1 h2 => by omega, (by repeat first | apply wxr | with_reducible assumption | apply wxe | apply wxa | apply wxd)⟩
  case round =>
    obtain ⟨i, j, rfl, rfl, hij, hjn, hlo, hhi, x, rfl⟩ := hrel
    have HL := Lib.hid hlo
    have HH := Lib.hid hhi
    clear hlo hhi
    by_cases hlt : i < j
    · obtain ⟨h, hh⟩ : ∃ h, (i + j) / 2 = h := ⟨_, rfl⟩
      have hc := HF.out (ext w x) (by repeat first | apply wxr | with_reducible assumption | apply wxe | apply wxa | apply wxd) h (by omega)
      have h2 : ((i : Int) + j) / 2 = (h : Int) := by omega
      cases hp : p h
      · rw [hp] at hc
        have HC := Lib.hid hc
        have HP := Lib.hid hp
        clear hc hp
        go_wp2_with fail
        refine HC.out.mono ?_
        rintro e w' ⟨rfl, xe, rfl⟩
        go_wp2_with fail
        go_roundw
        case rel =>
          refine ⟨h + 1, j, int_succ h, rfl, by omega, hjn, fun q hq => ?_, HH.out, (by repeat first | apply wxr | with_reducible assumption | apply wxe | apply wxa | apply wxd)⟩
          cases hpq : p q
          · rfl
          · have := HM.out q h (by omega) (by omega) hpq
            rw [HP.out] at this; cases this
        case measure => simp [intOf]; omega
      · rw [hp] at hc
        have HC := Lib.hid hc
        have HP := Lib.hid hp
        clear hc hp
        go_wp2_with fail
        refine HC.out.mono ?_
        rintro e w' ⟨rfl, xe, rfl⟩
        go_wp2_with fail
        go_roundw
        case rel => exact ⟨i, h, rfl, rfl, by omega, by omega, HL.out, fun q h1 h2 => HM.out h q h1 h2 HP.out, (by repeat first | apply wxr | with_reducible assumption | apply wxe | apply wxa | apply wxd)⟩
        case measure => simp [intOf]; omega
    · have HK := Lib.hid (show i = j by omega)
      go_wp2_with fail
      go_ret
      exact ⟨i, rfl, by omega, HL.out, fun q h1 h2 => HH.out q (by have := HK.out; omega) h2, (by repeat first | apply wxr | with_reducible assumption | apply wxe | apply wxa | apply wxd)⟩
end
section
open Go.ChangeShapes Go.WideShapes Go.ChangeAt Go.RowKit
def runL {α σ : Type} (f : α → σ → σ × Bool) : List α → σ → σ × Bool
  | [], s => (s, true)
  | m :: l, s => if (f m s).2 then runL f l (f m s).1 else ((f m s).1, false)
/-! ### the least place -/
def lowN (m : Nat) : Nat := ((List.range 64).find? fun i => m.testBit i).getD 0
def IsLow (m i : Nat) : Prop := m.testBit i = true ∧ ∀ j, j < i → m.testBit j = false
theorem exists_bit {m : Nat} (h : 0 < m) (h' : m < 2 ^ 64) : ∃ i, i < 64 ∧ m.testBit i = true := by
  obtain ⟨i, hi⟩ := Nat.exists_testBit_of_ne_zero (x := m) (by omega)
  refine ⟨i, ?_, hi⟩
  rcases Nat.lt_or_ge i 64 with e | e
  · exact e
  · have := Nat.testBit_lt_two_pow (Nat.lt_of_lt_of_le h' (Nat.pow_le_pow_right (n := 2) (by omega) e))
    rw [this] at hi; cases hi
theorem lowN_spec {m : Nat} (h : 0 < m) (h' : m < 2 ^ 64) : IsLow m (lowN m) ∧ lowN m < 64 := by
  unfold lowN
  cases hf : (List.range 64).find? (fun i => m.testBit i) with
  | none =>
    obtain ⟨i, hi, hb⟩ := exists_bit h h'
    have := List.find?_eq_none.1 hf i (List.mem_range.2 hi)
    simp [hb] at this
  | some i =>
    rw [List.find?_range_eq_some] at hf
    simp only [Option.getD_some]
    refine ⟨⟨hf.1, fun j hj => ?_⟩, by have := List.mem_range.1 hf.2.1; exact this⟩
    have := hf.2.2 j hj
    simpa using this
/-! ### masks that fit -/
def atL (all : List Nat) (k : Nat) : List Nat := all.filter fun m => m.testBit k
def subB (m free : Nat) : Bool := andN m free == m
def cand (all : List Nat) (free : Nat) : List Nat := (atL all (lowN free)).filter fun m => subB m free
theorem sub_le {m free : Nat} (h : subB m free = true) : m ≤ free := by
  have : andN m free = m := by simpa [subB] using h
  rw [← this]; exact Nat.and_le_right
theorem sub_bits {m free : Nat} (h : subB m free = true) {i : Nat} (hi : m.testBit i = true) : free.testBit i = true := by
  have : andN m free = m := by simpa [subB] using h
  have h2 := congrArg (fun n => n.testBit i) this
  simp only [andN, Nat.testBit_and, hi, Bool.true_and] at h2
  exact h2
theorem sub_bits' {m free : Nat} (h : ∀ i, m.testBit i = true → free.testBit i = true) : subB m free = true := by
  have : andN m free = m := by
    apply Nat.eq_of_testBit_eq
    intro i
    simp only [andN, Nat.testBit_and]
    cases hm : m.testBit i
    · rfl
    · rw [h i hm]; rfl
  simp [subB, this]
theorem add_or_and : ∀ (n a b : Nat), a ≤ n → a &&& b = 0 → a + b = a ||| b
  | 0, a, b, h, _ => by
    have : a = 0 := by omega
    subst this; simp
  | n + 1, a, b, h, hab => by
    rcases Nat.eq_zero_or_pos a with e | e
    · subst e; simp
    have h2 : a / 2 &&& b / 2 = 0 := by
      have := congrArg (fun n => n / 2) hab
      simpa [Nat.and_div_two] using this
    have ih := add_or_and n (a / 2) (b / 2) (by omega) h2
    have h3 : (a ||| b) / 2 = a / 2 ||| b / 2 := by simp [Nat.or_div_two]
    have h4 : ((a ||| b) % 2 = 1) ↔ (a % 2 = 1 ∨ b % 2 = 1) := Nat.or_mod_two_eq_one
    have h5 : ¬ (a % 2 = 1 ∧ b % 2 = 1) := by
      rw [← Nat.and_mod_two_eq_one, hab]; decide
    omega
theorem xor_sub {m free : Nat} (h : subB m free = true) : butN free m = free - m := by
  have hm : m &&& free = m := by simpa [subB, andN] using h
  have h1 : free &&& m = m := by rw [Nat.and_comm]; exact hm
  have h2 : (free ^^^ m) &&& m = 0 := by
    apply Nat.eq_of_testBit_eq
    intro i
    have := sub_bits h (i := i)
    simp only [Nat.testBit_and, Nat.testBit_xor, Nat.zero_testBit]
    cases hm : m.testBit i
    · simp
    · simp [this hm]
  have h3 : (free ^^^ m) + m = free := by
    have e : (free ^^^ m) + m = (free ^^^ m) ||| m := by
      exact add_or_and _ _ _ (Nat.le_refl _) h2
    rw [e]
    apply Nat.eq_of_testBit_eq
    intro i
    have := sub_bits h (i := i)
    simp only [Nat.testBit_or, Nat.testBit_xor]
    cases hm : m.testBit i
    · simp
    · simp [this hm]
  unfold butN
  rw [h1]
  omega
theorem butN_zero {m free : Nat} : (butN m free = 0) ↔ subB m free = true := by
  unfold subB butN andN
  constructor
  · intro h
    have : m &&& free = m := by
      apply Nat.eq_of_testBit_eq
      intro i
      have := congrArg (fun n => n.testBit i) h
      simp only [Nat.testBit_xor, Nat.zero_testBit] at this
      revert this
      cases (m &&& free).testBit i <;> cases m.testBit i <;> simp
    simp [this]
  · intro h
    have : m &&& free = m := by simpa using h
    rw [this, Nat.xor_self]
theorem mem_cand {all : List Nat} {free m : Nat} : m ∈ cand all free ↔ m ∈ all ∧ m.testBit (lowN free) = true ∧ subB m free = true := by
  simp only [cand, atL, List.mem_filter, and_assoc]
theorem cand_lt {all : List Nat} {free m : Nat} (h : m ∈ cand all free) : 0 < m ∧ m ≤ free := by
  obtain ⟨_, h1, h2⟩ := mem_cand.1 h
  refine ⟨?_, sub_le h2⟩
  rcases Nat.eq_zero_or_pos m with e | e
  · subst e; simp at h1
  · exact e
/-! ### all tilings, in the order of the search -/
def tlF (all : List Nat) : Nat → Nat → List (List Nat)
  | 0, free => if free = 0 then [[]] else []
  | n + 1, free => if free = 0 then [[]] else (cand all free).flatMap fun m => (tlF all n (free - m)).map (m :: ·)
theorem tlF_zero (all : List Nat) (n : Nat) : tlF all n 0 = [[]] := by cases n <;> simp [tlF]
theorem flatMap_congr' {α β : Type} {l : List α} {f g : α → List β} (h : ∀ a ∈ l, f a = g a) : l.flatMap f = l.flatMap g := by
  induction l with
  | nil => rfl
  | cons a l ih => rw [List.flatMap_cons, List.flatMap_cons, h a List.mem_cons_self, ih fun b hb => h b (List.mem_cons_of_mem _ hb)]
theorem tlF_fuel (all : List Nat) : ∀ n k free, free ≤ n → free ≤ k → tlF all n free = tlF all k free
  | 0, k, free, h1, _ => by
    have : free = 0 := by omega
    subst this; rw [tlF_zero, tlF_zero]
  | n + 1, 0, free, _, h2 => by
    have : free = 0 := by omega
    subst this; rw [tlF_zero, tlF_zero]
  | n + 1, k + 1, free, h1, h2 => by
    simp only [tlF]
    split
    · rfl
    · refine flatMap_congr' fun m hm => ?_
      have := cand_lt hm
      rw [tlF_fuel all n k (free - m) (by omega) (by omega)]
def tl (all : List Nat) (free : Nat) : List (List Nat) := tlF all free free
theorem tl_zero (all : List Nat) : tl all 0 = [[]] := rfl
theorem tl_pos (all : List Nat) {free : Nat} (h : 0 < free) : tl all free = (cand all free).flatMap fun m => (tl all (free - m)).map (m :: ·) := by
  obtain ⟨n, rfl⟩ : ∃ n, free = n + 1 := ⟨free - 1, by omega⟩
  show tlF all (n + 1) (n + 1) = _
  simp only [tlF, Nat.add_eq_zero_iff, Nat.one_ne_zero, and_false, if_false]
  refine flatMap_congr' fun m hm => ?_
  have := cand_lt hm
  rw [tl, tlF_fuel all n (n + 1 - m) (n + 1 - m) (by omega) (by omega)]
/-! ### the run of the search: tr is asked at each placement, vis at each tiling -/
def fillF {σ : Type} (all : List Nat) (tr : σ → σ × Bool) (vis : List Nat → σ → σ × Bool) : Nat → Nat → List Nat → σ → σ × Bool
  | 0, _, l, s => vis l s
  | n + 1, free, l, s => if free = 0 then vis l s else runL (fun m s => if subB m free then (if (tr s).2 then fillF all tr vis n (free - m) (l ++ [m]) (tr s).1 else ((tr s).1, false)) else (s, true)) (atL all (lowN free)) s
/-! ### what the visitors make of it -/
/-- counting, up to some -/
def visC (most : Nat) (_ : List Nat) (n : Nat) : Nat × Bool := (n + 1, decide (n + 1 < most))
/-- the one behind n others -/
structure Odr where
  n : Nat
  out : List Nat
  found : Bool
def visO (l : List Nat) (s : Odr) : Odr × Bool := if 0 < s.n then (⟨s.n - 1, s.out, s.found⟩, true) else (⟨0, l, true⟩, false)
/-! ### the reference's search, by its own loops -/
def specS (all : List Nat) : Nat → Nat → Nat → List (List Nat)
  | 0, free, _ => if free = 0 then [[]] else []
  | n + 1, free, most => if free = 0 then [[]] else
      all.foldl (fun out m => if out.length < most ∧ m.testBit (lowN free) = true ∧ subB m free = true then out ++ (specS all n (free - m) (most - out.length)).map (m :: ·) else out) []
theorem take_fold {all : List Nat} {free most : Nat} {g : Nat → Nat → List (List Nat)} {h : Nat → List (List Nat)} (hg : ∀ m ∈ all, m.testBit (lowN free) = true → subB m free = true → ∀ q, 0 < q → g m q = (h m).take q) :
    ∀ out : List (List Nat), (all.foldl (fun out m => if out.length < most ∧ m.testBit (lowN free) = true ∧ subB m free = true then out ++ (g m (most - out.length)).map (m :: ·) else out) out) =
      if out.length < most then (out ++ (cand all free).flatMap fun m => (h m).map (m :: ·)).take most else out := by
  have hc : ∀ all' : List Nat, cand all' free = all'.filter fun m => m.testBit (lowN free) && subB m free := fun all' => by
    rw [cand, atL, List.filter_filter]
    congr 1; funext m; exact Bool.and_comm _ _
  rw [hc]
  clear hc
  induction all with
  | nil => intro out; simp only [List.foldl_nil, List.filter_nil, List.flatMap_nil, List.append_nil]; split <;> first | rfl | rw [List.take_of_length_le (by omega)]
  | cons m all ih =>
    intro out
    have ih := ih fun m hm => hg m (List.mem_cons_of_mem _ hm)
    by_cases h1 : out.length < most
    · by_cases h2 : m.testBit (lowN free) = true ∧ subB m free = true
      · have e : (if out.length < most ∧ m.testBit (lowN free) = true ∧ subB m free = true then out ++ (g m (most - out.length)).map (m :: ·) else out) = out ++ ((h m).take (most - out.length)).map (m :: ·) := by
          rw [if_pos ⟨h1, h2⟩, hg m List.mem_cons_self h2.1 h2.2 _ (by omega)]
        rw [List.foldl_cons, e, ih, if_pos h1, List.filter_cons_of_pos (by rw [h2.1, h2.2]; rfl), List.flatMap_cons, ← List.append_assoc]
        have e1 : (((h m).take (most - out.length)).map (m :: ·)) = (((h m).map (m :: ·)).take (most - out.length)) := List.map_take ..
        by_cases h3 : (h m).length < most - out.length
        · rw [List.take_of_length_le (by omega), if_pos (by rw [List.length_append, List.length_map]; omega)]
        · have e2 : ((out ++ ((h m).map (m :: ·))) ++ ((all.filter fun m => m.testBit (lowN free) && subB m free).flatMap fun m => (h m).map (m :: ·))).take most = out ++ ((h m).map (m :: ·)).take (most - out.length) := by
            rw [List.take_append_of_le_length (by rw [List.length_append, List.length_map]; omega), List.take_append, List.take_of_length_le (by omega)]
          rw [if_neg (by rw [List.length_append, List.length_map, List.length_take]; omega), e1, e2]
      · have e : (if out.length < most ∧ m.testBit (lowN free) = true ∧ subB m free = true then out ++ (g m (most - out.length)).map (m :: ·) else out) = out := if_neg fun h => h2 h.2
        rw [List.foldl_cons, e, ih, List.filter_cons_of_neg (by simpa using h2)]
    · have e : (if out.length < most ∧ m.testBit (lowN free) = true ∧ subB m free = true then out ++ (g m (most - out.length)).map (m :: ·) else out) = out := if_neg fun h => h1 h.1
      rw [List.foldl_cons, e, ih, if_neg h1, if_neg h1]
theorem specS_tl (all : List Nat) : ∀ n free most, free ≤ n → 0 < most → specS all n free most = (tl all free).take most
  | 0, free, most, h, hm => by
    have : free = 0 := by omega
    subst this
    rw [tl_zero, List.take_of_length_le (by simp; omega)]; rfl
  | n + 1, free, most, h, hm => by
    rcases Nat.eq_zero_or_pos free with e | e
    · subst e
      rw [tl_zero, List.take_of_length_le (by simp; omega)]; rfl
    · simp only [specS, if_neg (show ¬ free = 0 by omega)]
      rw [take_fold (h := fun m => tl all (free - m)) (fun m _ h1 h2 q hq => ?_), if_pos (by simpa using hm), List.nil_append, ← tl_pos all e]
      have h3 : 0 < m := by
        rcases Nat.eq_zero_or_pos m with e | e
        · subst e; simp at h1
        · exact e
      exact specS_tl all n (free - m) q (by have := sub_le h2; omega) hq
def specC (all : List Nat) : Nat → Nat → Nat → Nat
  | 0, free, _ => if free = 0 then 1 else 0
  | n + 1, free, most => if free = 0 then 1 else
      all.foldl (fun c m => if c < most ∧ m.testBit (lowN free) = true ∧ subB m free = true then c + specC all n (free - m) (most - c) else c) 0
end
section
open Go.ChangeShapes Go.WideShapes Go.ChangeAt Go.RowKit

end
section
open Go.ChangeShapes Go.WideShapes Go.ChangeAt Go.RowKit
/-! ### nodes -/
def ndF (all : List Nat) : Nat → Nat → Nat
  | 0, _ => 0
  | n + 1, free => if free = 0 then 0 else ((cand all free).map fun m => 1 + ndF all n (free - m)).sum
def nd (all : List Nat) (free : Nat) : Nat := ndF all free free
def specN (all : List Nat) : Nat → Nat → Nat → Nat
  | 0, _, _ => 0
  | n + 1, free, most => if free = 0 then 0 else
      all.foldl (fun c m => if c < most ∧ m.testBit (lowN free) = true ∧ subB m free = true then c + (1 + specN all n (free - m) (most - c - 1)) else c) 0
def trN (most : Nat) (n : Nat) : Nat × Bool := (if n < most then n + 1 else n, decide ((if n < most then n + 1 else n) < most))
def visN (_ : List Nat) (n : Nat) : Nat × Bool := (n, true)
/-! ### trees -/
def txS (f : Nat → Option (List UInt8)) (acc : Option (List UInt8)) (m : Nat) : Option (List UInt8) := acc.bind fun s => (f m).map fun t => s ++ 40 :: t ++ [41]
def txF (all : List Nat) : Nat → Nat → Option (List UInt8)
  | 0, free => if free = 0 then none else some []
  | n + 1, free => if free = 0 then none else (cand all free).foldl (txS fun m => txF all n (free - m)) (some [])
def tx (all : List Nat) (free : Nat) : Option (List UInt8) := txF all free free
/-- the reference's tree -/
def stS (f : Nat → Int → Option (List UInt8)) (free : Nat) (most : Int) (acc : Option (List UInt8)) (m : Nat) : Option (List UInt8) :=
  acc.bind fun s => if m.testBit (lowN free) = true ∧ subB m free = true then (f m (most - s.length - 2)).bind fun t => if (s.length : Int) + t.length + 2 ≤ most then some (s ++ 40 :: t ++ [41]) else none else some s
def specT (all : List Nat) : Nat → Nat → Int → Option (List UInt8)
  | 0, _, _ => none
  | n + 1, free, most => if free = 0 then none else all.foldl (stS (fun m q => specT all n (free - m) q) free most) (some [])
def okT (most : Int) (t : List UInt8) : Bool := t.isEmpty || decide ((t.length : Int) ≤ most)
/-- the program's tree: none where it stops -/
def trS (f : Nat → List UInt8 → Option (List UInt8)) (free : Nat) (acc : Option (List UInt8)) (m : Nat) : Option (List UInt8) :=
  acc.bind fun s => if subB m free = true then (if s.length + 1 ≤ 2000 then (f m (s ++ [40])).map fun t => t ++ [41] else none) else some s
def trcF (all : List Nat) : Nat → Nat → List UInt8 → Option (List UInt8)
  | 0, _, _ => none
  | n + 1, free, out => if free = 0 then none else ((atL all (lowN free)).foldl (trS (fun m s => trcF all n (free - m) s) free) (some out)).filter fun s => decide (s.length ≤ 2000)
def cut (o : Option (List UInt8)) : Option (List UInt8) := o.filter fun s => decide (s.length ≤ 2000)
/-- the reference's reader: -1 or the place behind the tree -/
def ckS (f : Nat → Nat → Int) (free : Nat) (s : List UInt8) (at_ : Int) (m : Nat) : Int :=
  if at_ < 0 then -1 else if m.testBit (lowN free) = true ∧ subB m free = true then (if s[at_.toNat]? = some 40 then (if 0 ≤ f m (at_.toNat + 1) ∧ s[(f m (at_.toNat + 1)).toNat]? = some 41 then f m (at_.toNat + 1) + 1 else -1) else -1) else at_
def specK (all : List Nat) (s : List UInt8) : Nat → Nat → Nat → Int
  | 0, _, _ => -1
  | n + 1, free, at_ => if free = 0 then -1 else all.foldl (ckS (fun m q => specK all s n (free - m) q) free s) (at_ : Int)
/-- t stands in s from place a on -/
def stands (s : List UInt8) (a : Nat) (t : List UInt8) : Prop := t <+: s.drop a
instance (s : List UInt8) (a : Nat) (t : List UInt8) : Decidable (stands s a t) := inferInstanceAs (Decidable (_ <+: _))
def ckV (s : List UInt8) (a : Nat) (o : Option (List UInt8)) : Int := match o with | some t => if stands s a t then (a : Int) + t.length else -1 | none => -1
end
end Go.Proofs.YtchcepihmphdmaaGreat
