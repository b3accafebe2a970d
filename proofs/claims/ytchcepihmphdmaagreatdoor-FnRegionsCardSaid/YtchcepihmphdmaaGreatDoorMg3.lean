/- Part 3 of a proof: bitops, addor, region, mask, gridf, has, grid, parts, near, regs, cellsof, pospec, palaw, area, l6inb, fmtregion, parseq, parser. -/
import Derived.Test.YtchcepihmphdmaaGreatDoorRows
import Derived.WalkKit
import Derived.ProofKit
import Derived.OpenShut
import Derived.BigQuiet
import Derived.Lib.Hide
import Derived.Deep.QuietTactic
import Derived.Outline
import Derived.StillTailTactics
import Derived.Test.YtchcepihmphdmaaGreatDoorMg1
import Derived.Test.YtchcepihmphdmaaGreatDoorMg2
namespace Go.Proofs.YtchcepihmphdmaaGreatDoor
set_option linter.unusedVariables false
section
open Go.ChangeShapes Go.WideShapes Go.ChangeAt Go.RowKit
def shlN (a k : Nat) : Nat := a * 2 ^ k
def shrN (a k : Nat) : Nat := a / 2 ^ k
def orN (a b : Nat) : Nat := a ||| b
def andN (a b : Nat) : Nat := a &&& b
def butN (a b : Nat) : Nat := a ^^^ (a &&& b)
theorem wrap_nat (a : Nat) (h : a < 9223372036854775808) : IntKind.i64.wrap (a : Int) = a := IntWalk.i64_in _ (by omega)
theorem op_shl (a k : Nat) (yk : IntKind) (hk : k ≤ 64) (h : shlN a k < 9223372036854775808) : Op.shift .shl .i64 (a : Int) yk (k : Int) = pure (.int .i64 (shlN a k : Nat)) := by
  have e : ((a : Int) * 2 ^ (k : Int).toNat) = ((shlN a k : Nat) : Int) := by simp [shlN]
  have h1 : ¬ ((k : Int) < 0) := by omega
  have h2 : min (k : Int).toNat IntKind.i64.bits = (k : Int).toNat := by simp [IntKind.bits]; omega
  unfold Op.shift
  rw [if_neg h1, h2]
  show pure (Value.int IntKind.i64 (IntKind.i64.wrap ((a : Int) * 2 ^ (k : Int).toNat))) = _
  rw [e, wrap_nat _ h]
theorem op_shr (a k : Nat) (yk : IntKind) (hk : k ≤ 64) : Op.shift .shr .i64 (a : Int) yk (k : Int) = pure (.int .i64 (shrN a k : Nat)) := by
  have h1 : ¬ ((k : Int) < 0) := by omega
  have h2 : min (k : Int).toNat IntKind.i64.bits = k := by simp [IntKind.bits]; omega
  unfold Op.shift
  rw [if_neg h1, h2]
  show pure (Value.int IntKind.i64 ((a : Int).fdiv (2 ^ k))) = _
  have e : (a : Int).fdiv (2 ^ k) = ((shrN a k : Nat) : Int) := by
    rw [Int.fdiv_eq_ediv_of_nonneg _ (by exact_mod_cast Nat.zero_le _)]
    simp [shrN]
  rw [e]
theorem ofNat_bits (a : Nat) (h : a < 9223372036854775808) : (BitVec.ofInt IntKind.i64.bits (a : Int)).toNat = a := by
  show (BitVec.ofInt 64 (a : Int)).toNat = a
  rw [BitVec.ofInt_natCast, BitVec.toNat_ofNat, Nat.mod_eq_of_lt (by omega)]
theorem and_lt (a b : Nat) (h : a < 9223372036854775808) : andN a b < 9223372036854775808 := Nat.lt_of_le_of_lt Nat.and_le_left h
theorem or_lt (a b : Nat) (h : a < 9223372036854775808) (h' : b < 9223372036854775808) : orN a b < 9223372036854775808 := Nat.or_lt_two_pow (n := 63) h h'
theorem but_lt (a b : Nat) (h : a < 9223372036854775808) : butN a b < 9223372036854775808 := Nat.xor_lt_two_pow (n := 63) h (and_lt a b h)
theorem op_or (a b : Nat) (h : a < 9223372036854775808) (h' : b < 9223372036854775808) : Op.intBits .or .i64 (a : Int) (b : Int) = pure (.int .i64 (orN a b : Nat)) := by
  unfold Op.intBits
  simp only [BitVec.toNat_or, ofNat_bits a h, ofNat_bits b h']
  show pure (Value.int IntKind.i64 (IntKind.i64.wrap ((orN a b : Nat) : Int))) = _
  rw [wrap_nat _ (or_lt a b h h')]
theorem op_and (a b : Nat) (h : a < 9223372036854775808) (h' : b < 9223372036854775808) : Op.intBits .and .i64 (a : Int) (b : Int) = pure (.int .i64 (andN a b : Nat)) := by
  unfold Op.intBits
  simp only [BitVec.toNat_and, ofNat_bits a h, ofNat_bits b h']
  show pure (Value.int IntKind.i64 (IntKind.i64.wrap ((andN a b : Nat) : Int))) = _
  rw [wrap_nat _ (and_lt a b h)]
theorem but_bits (a b : Nat) (h : a < 9223372036854775808) (h' : b < 9223372036854775808) : (BitVec.ofInt IntKind.i64.bits (a : Int) &&& ~~~ BitVec.ofInt IntKind.i64.bits (b : Int)).toNat = butN a b := by
  apply Nat.eq_of_testBit_eq
  intro i
  show (BitVec.ofInt 64 (a : Int) &&& ~~~ BitVec.ofInt 64 (b : Int)).getLsbD i = _
  have ha : (BitVec.ofInt 64 (a : Int)).getLsbD i = a.testBit i := congrArg (fun n => Nat.testBit n i) (ofNat_bits a h)
  have hb : (BitVec.ofInt 64 (b : Int)).getLsbD i = b.testBit i := congrArg (fun n => Nat.testBit n i) (ofNat_bits b h')
  rw [BitVec.getLsbD_and, BitVec.getLsbD_not, ha, hb, butN, Nat.testBit_xor, Nat.testBit_and]
  by_cases hi : i < 64
  · cases a.testBit i <;> cases b.testBit i <;> simp [hi]
  · have : a.testBit i = false := Nat.testBit_lt_two_pow (Nat.lt_of_lt_of_le h (by exact Nat.pow_le_pow_right (n := 2) (by omega) (show 63 ≤ i by omega)))
    simp [this]
theorem op_but (a b : Nat) (h : a < 9223372036854775808) (h' : b < 9223372036854775808) : Op.intBits .andNot .i64 (a : Int) (b : Int) = pure (.int .i64 (butN a b : Nat)) := by
  unfold Op.intBits
  simp only [but_bits a b h h', wrap_nat _ (but_lt a b h)]
theorem bit_of (m k : Nat) : andN (shrN m k) 1 = if m.testBit k then 1 else 0 := by
  rw [andN, shrN, Nat.and_one_is_mod, ← Nat.shiftRight_eq_div_pow, Nat.testBit_eq_decide_div_mod_eq, Nat.shiftRight_eq_div_pow]
  have := Nat.mod_two_eq_zero_or_one (m / 2 ^ k)
  rcases this with e | e <;> simp [e]
theorem bit_test (m k : Nat) : (((andN (shrN m k) 1 : Nat) : Int) == 1) = m.testBit k := by
  rw [bit_of]
  cases m.testBit k <;> rfl
theorem bit_test0 (m k : Nat) : (((andN (shrN m k) 1 : Nat) : Int) == 0) = !m.testBit k := by
  rw [bit_of]
  cases m.testBit k <;> rfl
/-! the walk's own rules, ahead of the kit's -/
class Lt63 (a : Nat) : Prop where
  lt : a < 9223372036854775808
class ShlOK (a k : Nat) : Prop where
  le : k ≤ 64
  lt : shlN a k < 9223372036854775808
class Le64 (k : Nat) : Prop where
  le : k ≤ 64
class Le6 (k : Nat) : Prop where
  le : k ≤ 6
instance lt63_one : Lt63 1 := ⟨by omega⟩
instance lt63_zero : Lt63 0 := ⟨by omega⟩
instance lt63_and (a b : Nat) [h : Lt63 a] : Lt63 (andN a b) := ⟨and_lt a b h.lt⟩
instance lt63_but (a b : Nat) [h : Lt63 a] : Lt63 (butN a b) := ⟨but_lt a b h.lt⟩
instance lt63_or (a b : Nat) [h : Lt63 a] [h' : Lt63 b] : Lt63 (orN a b) := ⟨or_lt a b h.lt h'.lt⟩
instance lt63_shr (a k : Nat) [h : Lt63 a] : Lt63 (shrN a k) := ⟨Nat.lt_of_le_of_lt (Nat.div_le_self _ _) h.lt⟩
instance lt63_shl (a k : Nat) [h : ShlOK a k] : Lt63 (shlN a k) := ⟨h.lt⟩
@[go_sem ↓ 20000] theorem w_shl (a k : Nat) (yk : IntKind) [h : ShlOK a k] : Op.shift .shl .i64 (a : Int) yk (k : Int) = pure (.int .i64 (shlN a k : Nat)) := op_shl a k yk h.le h.lt
@[go_sem ↓ 20000] theorem w_shl1 (k : Nat) (yk : IntKind) [h : ShlOK 1 k] : Op.shift .shl .i64 (1 : Int) yk (k : Int) = pure (.int .i64 (shlN 1 k : Nat)) := op_shl 1 k yk h.le h.lt
@[go_sem ↓ 20000] theorem w_shr (a k : Nat) (yk : IntKind) [h : Le64 k] : Op.shift .shr .i64 (a : Int) yk (k : Int) = pure (.int .i64 (shrN a k : Nat)) := op_shr a k yk h.le
@[go_sem 20000] theorem w_or (a b : Nat) [h : Lt63 a] [h' : Lt63 b] : Op.intBits .or .i64 (a : Int) (b : Int) = pure (.int .i64 (orN a b : Nat)) := op_or a b h.lt h'.lt
@[go_sem 20000] theorem w_and (a b : Nat) [h : Lt63 a] [h' : Lt63 b] : Op.intBits .and .i64 (a : Int) (b : Int) = pure (.int .i64 (andN a b : Nat)) := op_and a b h.lt h'.lt
@[go_sem 20000] theorem w_and1 (a : Nat) [h : Lt63 a] : Op.intBits .and .i64 (a : Int) (1 : Int) = pure (.int .i64 (andN a 1 : Nat)) := op_and a 1 h.lt (by omega)
@[go_sem 20000] theorem w_but (a b : Nat) [h : Lt63 a] [h' : Lt63 b] : Op.intBits .andNot .i64 (a : Int) (b : Int) = pure (.int .i64 (butN a b : Nat)) := op_but a b h.lt h'.lt
@[go_sem 20000] theorem w_bit (m k : Nat) : (((andN (shrN m k) 1 : Nat) : Int) == 1) = m.testBit k := bit_test m k
@[go_sem 20000] theorem w_bit0 (m k : Nat) : (((andN (shrN m k) 1 : Nat) : Int) == 0) = !m.testBit k := bit_test0 m k
instance shlOK_one6 (W : Nat) [h : Le6 W] : ShlOK 1 W := ⟨by have := h.le; omega, by
  have : shlN 1 W ≤ 2 ^ 6 := by rw [shlN, Nat.one_mul]; exact Nat.pow_le_pow_right (by omega) h.le
  omega⟩
def mulN (a b : Nat) : Nat := a * b
def addN (a b : Nat) : Nat := a + b
class MulOK (a b : Nat) : Prop where
  lt : a * b < 9223372036854775808
class AddOK (a b : Nat) : Prop where
  lt : a + b < 9223372036854775808
@[go_sem ↓ 20000] theorem w_mul (a b : Nat) [h : MulOK a b] : Op.intArith .mul .i64 (a : Int) (b : Int) = pure (.int .i64 (mulN a b : Nat)) := by
  show pure (Value.int IntKind.i64 (IntKind.i64.wrap ((a : Int) * (b : Int)))) = _
  rw [← Int.natCast_mul, wrap_nat _ h.lt]; rfl
@[go_sem ↓ 20000] theorem w_add (a b : Nat) [h : AddOK a b] : Op.intArith .add .i64 (a : Int) (b : Int) = pure (.int .i64 (addN a b : Nat)) := by
  show pure (Value.int IntKind.i64 (IntKind.i64.wrap ((a : Int) + (b : Int)))) = _
  rw [← Int.natCast_add, wrap_nat _ h.lt]; rfl
instance mulOK6 (a b : Nat) [h : Le6 a] [h' : Le6 b] : MulOK a b := ⟨Nat.lt_of_le_of_lt (Nat.mul_le_mul h.le h'.le) (by omega)⟩
end
section
open Go.ChangeShapes Go.WideShapes Go.ChangeAt Go.RowKit
theorem add_or {n k : Nat} (h : n.testBit k = false) : n + 2 ^ k = n ||| 2 ^ k := by
  have hr : n % 2 ^ (k + 1) < 2 ^ k := by
    rw [Nat.testBit_eq_decide_div_mod_eq, decide_eq_false_iff_not] at h
    have h1 : n / 2 ^ k % 2 = 0 := by omega
    rw [Nat.pow_succ, Nat.mod_mul, h1]
    have := Nat.mod_lt n (Nat.two_pow_pos k)
    omega
  have e0 := Nat.div_add_mod n (2 ^ (k + 1))
  have h1 := Nat.two_pow_add_eq_or_of_lt (i := k) hr 1
  have h2 := Nat.two_pow_add_eq_or_of_lt (i := k + 1) (Nat.mod_lt n (Nat.two_pow_pos _)) (n / 2 ^ (k + 1))
  have hlt : 2 ^ k * 1 + n % 2 ^ (k + 1) < 2 ^ (k + 1) := by rw [Nat.pow_succ]; rw [Nat.pow_succ] at hr; omega
  have h3 := Nat.two_pow_add_eq_or_of_lt (i := k + 1) hlt (n / 2 ^ (k + 1))
  rw [Nat.mul_one] at h1 h3
  generalize 2 ^ (k + 1) * (n / 2 ^ (k + 1)) = q at e0 h2 h3
  generalize n % 2 ^ (k + 1) = r at e0 h1 h2 h3
  have e1 : n + 2 ^ k = q + (2 ^ k + r) := by omega
  rw [e1, h3, h1, Nat.or_comm (2 ^ k), ← Nat.or_assoc, ← h2, e0]
theorem addN_or {n k : Nat} (h : n.testBit k = false) : addN n (shlN 1 k) = orN n (shlN 1 k) := by
  unfold addN orN shlN; rw [Nat.one_mul]; exact add_or h
theorem or_bit_lt {down x : Nat} (h : down < 2 ^ (x + 1)) : orN down (shlN 1 x) < 2 ^ (x + 1) := by
  unfold orN shlN
  exact Nat.or_lt_two_pow h (by rw [Nat.one_mul]; exact Nat.pow_lt_pow_right (by omega) (by omega))
end
section
open Go.ChangeShapes Go.WideShapes Go.ChangeAt Go.RowKit
def rowB (wd x : Int) : Bool := decide (0 ≤ x) && decide (x < (shlN 1 wd.toNat : Nat))
def regB (wd : Int) (rows : List Int) : Bool := btw wd 1 6 && btw rows.length 1 6 && allTo (fun k => rowB wd (nth rows k)) rows.length
theorem regB_w {wd : Int} {rows : List Int} (h : btw wd 1 6 = false) : regB wd rows = false := by simp [regB, h]
theorem regB_h {wd : Int} {rows : List Int} (h : btw rows.length 1 6 = false) : regB wd rows = false := by simp [regB, h]
theorem regB_row {wd : Int} {rows : List Int} {k : Nat} (h : k < rows.length) (hk : rowB wd (nth rows k) = false) : regB wd rows = false := by
  simp [regB, allTo_false (p := fun k => rowB wd (nth rows k)) h hk]
theorem isSide_any (n : Int) (w : World) : Calls Tryz.prog 86 #[.int .i64 n] w fun e w' => e = .returned (.bool (btw n 1 6)) ∧ ∃ x, w' = ext w x := by
  go_enter Tryz.func86, Tryz.ntmps86
  go_wp2_with (first | (go_at_call 104; refine (between_any _ _ _ _).mono ?_; rintro e w' ⟨rfl, xe, rfl⟩))
  go_ret
  exact ⟨rfl, (by repeat first | apply wxr | with_reducible assumption | apply wxe | apply wxa | apply wxd)⟩
theorem isSide_b (n : Int) (b : Bool) (h : btw n 1 6 = b) (w : World) : Calls Tryz.prog 86 #[.int .i64 n] w fun e w' => e = .returned (.bool b) ∧ ∃ x, w' = ext w x := h ▸ isSide_any n w
theorem isRegion_any (wd : Int) (rows : List Int) (v : Value) (w : World) (h : IntsAt w v rows) :
    Calls Tryz.prog 15 #[.agg #[.int .i64 wd, v]] w fun e w' => e = .returned (.bool (regB wd rows)) ∧ ∃ x, w' = ext w x := by
  obtain ⟨a, b, o, cap, rfl, hc1, hc2, hc3, hcell⟩ := h.opn
  cases h1 : btw wd 1 6
  · clear hcell
    go_enter Tryz.func15, Tryz.ntmps15
    go_wp2_with (first | (go_at_call 86; refine (isSide_b _ _ (by assumption) _).mono ?_; rintro e w' ⟨rfl, xe, rfl⟩))
    go_ret
    exact ⟨ret_bool (regB_w h1).symm, (by repeat first | apply wxr | with_reducible assumption | apply wxe | apply wxa | apply wxd)⟩
  obtain ⟨b1, b2⟩ := btw_iff.1 h1
  cases h2 : btw rows.length 1 6
  · clear hcell
    go_enter Tryz.func15, Tryz.ntmps15
    go_wp2_with (first | (go_at_call 86; refine (isSide_b _ _ (by assumption) _).mono ?_; rintro e w' ⟨rfl, xe, rfl⟩))
    go_ret
    exact ⟨ret_bool (regB_h h2).symm, (by repeat first | apply wxr | with_reducible assumption | apply wxe | apply wxa | apply wxd)⟩
  obtain ⟨W, rfl⟩ : ∃ W : Nat, wd = W := ⟨wd.toNat, by omega⟩
  have h6 : Le6 W := ⟨by omega⟩
  have HF := Lib.hid (show regB W rows = (btw W 1 6 && btw rows.length 1 6 && allTo (fun k => rowB W (nth rows k)) rows.length) from rfl)
  go_enter Tryz.func15, Tryz.ntmps15
  go_wp2_with (first | (go_at_call 86; refine (isSide_b _ _ (by assumption) _).mono ?_; rintro e w' ⟨rfl, xe, rfl⟩))
  go_loopw [19] (fun i wr => ∃ k : Nat, k ≤ rows.length ∧ i = .int .i64 k ∧ allTo (fun k => rowB W (nth rows k)) k = true ∧ ∃ x, wr = ext (w.alloc (.cells #[.int .i64 W, .slice a rows.length cap] 26)) x) (fun i _ => rows.length - (intOf i).toNat)
  case atStart => exact ⟨0, Nat.zero_le _, rfl, rfl, (by repeat first | apply wxr | with_reducible assumption | apply wxe | apply wxa | apply wxd)⟩
  case round =>
    obtain ⟨k, hk, rfl, hall, x, rfl⟩ := hrel
    have HA := Lib.hid hall
    clear hall
    by_cases hlt : k < rows.length
    · obtain ⟨hb, hi, hck⟩ := hcell k hlt
      clear hcell
      by_cases hneg : nth rows k < 0
      · go_wp2_with fail
        go_ret
        exact ⟨ret_bool (regB_row hlt (by simp [rowB]; omega)).symm, (by repeat first | apply wxr | with_reducible assumption | apply wxe | apply wxa | apply wxd)⟩
      by_cases hbig : ((shlN 1 W : Nat) : Int) ≤ nth rows k
      · go_wp2_with fail
        go_ret
        exact ⟨ret_bool (regB_row hlt (by simp [rowB]; omega)).symm, (by repeat first | apply wxr | with_reducible assumption | apply wxe | apply wxa | apply wxd)⟩
      · go_wp2_with fail
        go_roundw
        case rel => exact ⟨k + 1, hlt, int_succ k, allTo_succ HA.out (by simp [rowB]; omega), (by repeat first | apply wxr | with_reducible assumption | apply wxe | apply wxa | apply wxd)⟩
        case measure => simp [intOf]; omega
    · have hks := Lib.hid (show k = rows.length by omega)
      go_wp2_with fail
      go_ret
      exact ⟨ret_bool (by rw [HF.out, h1, h2, ← hks.out, HA.out]; rfl), (by repeat first | apply wxr | with_reducible assumption | apply wxe | apply wxa | apply wxd)⟩
theorem specIsRegion_any (wd : Int) (rows : List Int) (v : Value) (w : World) (h : IntsAt w v rows) :
    Calls Tryz.prog 14 #[.agg #[.int .i64 wd, v]] w fun e w' => e = .returned (.bool (regB wd rows)) ∧ ∃ x, w' = ext w x := by
  obtain ⟨a, b, o, cap, rfl, hc1, hc2, hc3, hcell⟩ := h.opn
  cases h1 : btw wd 1 6
  · clear hcell
    go_enter Tryz.func14, Tryz.ntmps14
    go_wp2_with (first | (go_at_call 85; refine (l1In_b _ _ _ _ (by assumption) _).mono ?_; rintro e w' ⟨rfl, xe, rfl⟩))
    go_ret
    exact ⟨ret_bool (regB_w h1).symm, (by repeat first | apply wxr | with_reducible assumption | apply wxe | apply wxa | apply wxd)⟩
  obtain ⟨b1, b2⟩ := btw_iff.1 h1
  cases h2 : btw rows.length 1 6
  · clear hcell
    go_enter Tryz.func14, Tryz.ntmps14
    go_wp2_with (first | (go_at_call 85; refine (l1In_b _ _ _ _ (by assumption) _).mono ?_; rintro e w' ⟨rfl, xe, rfl⟩))
    go_ret
    exact ⟨ret_bool (regB_h h2).symm, (by repeat first | apply wxr | with_reducible assumption | apply wxe | apply wxa | apply wxd)⟩
  obtain ⟨W, rfl⟩ : ∃ W : Nat, wd = W := ⟨wd.toNat, by omega⟩
  have h6 : Le6 W := ⟨by omega⟩
  have HF := Lib.hid (show regB W rows = (btw W 1 6 && btw rows.length 1 6 && allTo (fun k => rowB W (nth rows k)) rows.length) from rfl)
  go_enter Tryz.func14, Tryz.ntmps14
  go_wp2_with (first | (go_at_call 85; refine (l1In_b _ _ _ _ (by assumption) _).mono ?_; rintro e w' ⟨rfl, xe, rfl⟩))
  go_loopw [3] (fun i wr => ∃ k : Nat, k ≤ rows.length ∧ i = .int .i64 k ∧ allTo (fun k => rowB W (nth rows k)) k = true ∧ ∃ x, wr = ext (w.alloc (.cells #[.int .i64 W, .slice a rows.length cap] 26)) x) (fun i _ => rows.length - (intOf i).toNat)
  case atStart => exact ⟨0, Nat.zero_le _, rfl, rfl, (by repeat first | apply wxr | with_reducible assumption | apply wxe | apply wxa | apply wxd)⟩
  case round =>
    obtain ⟨k, hk, rfl, hall, x, rfl⟩ := hrel
    have HA := Lib.hid hall
    clear hall
    by_cases hlt : k < rows.length
    · obtain ⟨hb, hi, hck⟩ := hcell k hlt
      clear hcell
      by_cases hneg : nth rows k < 0
      · go_wp2_with fail
        refine wp_region_ext_lit (by kernel_rfl) (by kernel_rfl) ?_
        repeat (go_big_quiet_step (fail))
        refine wpQuiet_nil ?_
        intro _ hwq
        obtain ⟨xq, hwq⟩ := hwq
        subst hwq
        go_wp2_with fail
        go_ret
        exact ⟨ret_bool (regB_row hlt (by simp [rowB]; omega)).symm, (by repeat first | apply wxr | with_reducible assumption | apply wxe | apply wxa | apply wxd)⟩
      have hneg' : decide (nth rows k < 0) = false := decide_eq_false hneg
      by_cases hbig : ((shlN 1 W : Nat) : Int) ≤ nth rows k
      · go_wp2_with fail
        refine wp_region_ext_lit (by kernel_rfl) (by kernel_rfl) ?_
        repeat (go_big_quiet_step (fail))
        refine wpQuiet_nil ?_
        intro _ hwq
        obtain ⟨xq, hwq⟩ := hwq
        subst hwq
        go_wp2_with fail
        go_ret
        exact ⟨ret_bool (regB_row hlt (by simp [rowB]; omega)).symm, (by repeat first | apply wxr | with_reducible assumption | apply wxe | apply wxa | apply wxd)⟩
      · have hbig' : decide (((shlN 1 W : Nat) : Int) ≤ nth rows k) = false := decide_eq_false hbig
        go_wp2_with fail
        refine wp_region_ext_lit (by kernel_rfl) (by kernel_rfl) ?_
        repeat (go_big_quiet_step (fail))
        refine wpQuiet_nil ?_
        intro _ hwq
        obtain ⟨xq, hwq⟩ := hwq
        subst hwq
        go_wp2_with fail
        go_roundw
        case rel => exact ⟨k + 1, hlt, int_succ k, allTo_succ HA.out (by simp [rowB]; omega), (by repeat first | apply wxr | with_reducible assumption | apply wxe | apply wxa | apply wxd)⟩
        case measure => simp [intOf]; omega
    · have hks := Lib.hid (show k = rows.length by omega)
      go_wp2_with fail
      go_ret
      exact ⟨ret_bool (by rw [HF.out, h1, h2, ← hks.out, HA.out]; rfl), (by repeat first | apply wxr | with_reducible assumption | apply wxe | apply wxa | apply wxd)⟩
end
section
open Go.ChangeShapes Go.WideShapes Go.ChangeAt Go.RowKit
def rowN (rows : List Int) (k : Nat) : Nat := (nth rows k).toNat
/-- the mask of the first k rows -/
def maskTo (W : Nat) (rows : List Int) : Nat → Nat := iter (fun k m => m + shlN (rowN rows k) (mulN k W)) 0
def maskR (wd : Int) (rows : List Int) : Nat := maskTo wd.toNat rows rows.length
def maskV (wd : Int) (rows : List Int) : Nat := if regB wd rows then maskR wd rows else 0
theorem regB_bd {wd : Int} {rows : List Int} (h : regB wd rows = true) : ∃ W : Nat, wd = W ∧ 1 ≤ W ∧ W ≤ 6 ∧ 1 ≤ rows.length ∧ rows.length ≤ 6 ∧ ∀ k, k < rows.length → nth rows k = (rowN rows k : Nat) ∧ rowN rows k < 2 ^ W := by
  simp only [regB, Bool.and_eq_true, btw_iff] at h
  refine ⟨wd.toNat, by omega, by omega, by omega, by omega, by omega, fun k hk => ?_⟩
  have := allTo_true.1 h.2 k hk
  simp [rowB, shlN] at this
  have h2 : ((2 ^ wd.toNat : Nat) : Int) = 2 ^ wd.toNat := by simp
  refine ⟨by unfold rowN; omega, ?_⟩
  unfold rowN
  omega
end
section
open Go.ChangeShapes Go.WideShapes Go.ChangeAt Go.RowKit
def updN (f : Nat → Nat) (k x : Nat) : Nat → Nat := fun i => if i = k then x else f i
def intF (f : Nat → Nat) : Nat → Int := fun y => ((f y : Nat) : Int)
theorem intF_upd (f : Nat → Nat) (k x : Nat) : upd (intF f) k ((x : Nat) : Int) = intF (updN f k x) := by
  funext i; unfold upd intF updN; split <;> rfl
/-- a fresh region and a truth value -/
def RosPost (w : World) (wd : Int) (rows : List Int) (b : Bool) (e : Ending) (w' : World) : Prop := ∃ v', e = .returned (.tuple #[.agg #[.int .i64 wd, v'], .bool b]) ∧ Held w w' [rowI v' rows]
theorem emptyGrid_any (wd : Int) (H : Nat) (hH : H ≤ 6) (w : World) : Calls Tryz.prog 90 #[.int .i64 wd, .int .i64 H] w fun e w' => ∃ g, e = .returned (.agg #[.int .i64 wd, .slice (some ⟨g, 0, none⟩) H H]) ∧ Held w w' [rowT g H fun _ => 0] := by
  have H0 := (Held.start w).newBox2 26 (.int .i64 0) (.slice none 0 0)
  go_enter Tryz.func90, Tryz.ntmps90
  go_wp2_with (first | (at_make; refine wpList_make_any rfl _ _ _ rfl elemInt H0 .i64 .i64 _ _ H rfl rfl rfl rfl (by omega) (by unfold maxLen; omega) ?_; intro g w1 H1; replace H1 := H1.zeros; obtain ⟨k0, k1, k2, k3, k4⟩ := H1.readB2 1 rfl))
  have K := (H1.pull 1 rfl).setBox2 (.int .i64 wd) (.slice (some ⟨g, 0, none⟩) H H)
  obtain ⟨m0, m1, m2, m3, m4⟩ := K.readB2 0 rfl
  refine bodyPost_ret (v := .agg #[.int .i64 wd, .slice (some ⟨g, 0, none⟩) H H]) (by simp [results, Tryz.results90, go_sem, m0, m1]) rfl ⟨g, rfl, (K.pull 1 rfl).first⟩
end
section
open Go.ChangeShapes Go.WideShapes Go.ChangeAt Go.RowKit
def hasB (W : Nat) (rows : List Int) (x y : Int) : Bool := btw x 0 ((W : Int) - 1) && (btw y 0 ((rows.length : Int) - 1) && (rowN rows y.toNat).testBit x.toNat)
theorem hasB_x {W : Nat} {rows : List Int} {x y : Int} (h : btw x 0 ((W : Int) - 1) = false) : hasB W rows x y = false := by simp [hasB, h]
theorem hasB_y {W : Nat} {rows : List Int} {x y : Int} (h : btw y 0 ((rows.length : Int) - 1) = false) : hasB W rows x y = false := by simp [hasB, h]
theorem hasB_in {W : Nat} {rows : List Int} {x y : Nat} (h : btw x 0 ((W : Int) - 1) = true) (h2 : btw y 0 ((rows.length : Int) - 1) = true) : hasB W rows x y = (rowN rows y).testBit x := by simp [hasB, h, h2]
theorem hasB_at {W : Nat} {rows : List Int} {x y : Nat} (h : x < W) (h2 : y < rows.length) : hasB W rows x y = (rowN rows y).testBit x := hasB_in (btw_iff.2 ⟨by omega, by omega⟩) (btw_iff.2 ⟨by omega, by omega⟩)
theorem row_lt63 {W : Nat} {rows : List Int} {y : Nat} (hW : W ≤ 6) (h : rowN rows y < 2 ^ W) : Lt63 (rowN rows y) := ⟨by have := Nat.pow_le_pow_right (n := 2) (by omega) hW; omega⟩
set_option maxHeartbeats 1000000 in
theorem has_any (W : Nat) (rows : List Int) (x y : Int) (v : Value) (w : World) (h : IntsAt w v rows) (hr : regB W rows = true) :
    Calls Tryz.prog 78 #[.agg #[.int .i64 W, v], .int .i64 x, .int .i64 y] w fun e w' => e = .returned (.bool (hasB W rows x y)) ∧ ∃ x, w' = ext w x := by
  obtain ⟨a, b, o, cap, rfl, hc1, hc2, hc3, hcell⟩ := h.opn
  obtain ⟨W', hWW, hW1, hW2, hl1, hl2, hrow⟩ := regB_bd hr
  obtain rfl : W = W' := by omega
  cases h1 : btw x 0 ((W : Int) - 1)
  · have HF := Lib.hid (hasB_x (rows := rows) (y := y) h1)
    clear hcell hrow hr hWW
    go_enter Tryz.func78, Tryz.ntmps78
    go_wp2_with (first | (go_at_call 104; refine (between_b _ _ _ _ h1 _).mono ?_; rintro e w' ⟨rfl, xe, rfl⟩))
    go_ret
    exact ⟨ret_bool HF.out.symm, (by repeat first | apply wxr | with_reducible assumption | apply wxe | apply wxa | apply wxd)⟩
  cases h2 : btw y 0 ((rows.length : Int) - 1)
  · have HF := Lib.hid (hasB_y (W := W) (x := x) h2)
    clear hcell hrow hr hWW
    go_enter Tryz.func78, Tryz.ntmps78
    go_wp2_with (first | (go_at_call 104; refine (between_any _ _ _ _).mono ?_; rintro e w' ⟨rfl, xe, rfl⟩))
    go_ret
    exact ⟨ret_bool HF.out.symm, (by repeat first | apply wxr | with_reducible assumption | apply wxe | apply wxa | apply wxd)⟩
  obtain ⟨x1, x2⟩ := btw_iff.1 h1
  obtain ⟨y1, y2⟩ := btw_iff.1 h2
  obtain ⟨X, rfl⟩ : ∃ X : Nat, x = X := ⟨x.toNat, by omega⟩
  obtain ⟨Y, rfl⟩ : ∃ Y : Nat, y = Y := ⟨y.toNat, by omega⟩
  have HF := Lib.hid (hasB_in h1 h2)
  have hY : Y < rows.length := by omega
  obtain ⟨hb, hi, hck⟩ := hcell Y hY
  obtain ⟨e1, e2⟩ := hrow Y hY
  rw [e1] at hck
  haveI := row_lt63 hW2 e2
  haveI : Le64 X := ⟨by omega⟩
  clear hcell hrow hr hWW e1
  go_enter Tryz.func78, Tryz.ntmps78
  go_wp2_with (first | (go_at_call 104; refine (between_any _ _ _ _).mono ?_; rintro e w' ⟨rfl, xe, rfl⟩))
  go_ret
  exact ⟨ret_bool HF.out.symm, (by repeat first | apply wxr | with_reducible assumption | apply wxe | apply wxa | apply wxd)⟩
set_option maxHeartbeats 1000000 in
theorem l6In_any (W : Nat) (rows : List Int) (x y : Int) (v : Value) (w : World) (h : IntsAt w v rows) (hr : regB W rows = true) :
    Calls Tryz.prog 84 #[.agg #[.int .i64 W, v], .int .i64 x, .int .i64 y] w fun e w' => e = .returned (.bool (hasB W rows x y)) ∧ ∃ x, w' = ext w x := by
  obtain ⟨a, b, o, cap, rfl, hc1, hc2, hc3, hcell⟩ := h.opn
  obtain ⟨W', hWW, hW1, hW2, hl1, hl2, hrow⟩ := regB_bd hr
  obtain rfl : W = W' := by omega
  by_cases x1 : 0 ≤ x
  case neg =>
    have HF := Lib.hid (hasB_x (W := W) (rows := rows) (x := x) (y := y) (by simp [btw]; omega))
    have x1' : decide (0 ≤ x) = false := decide_eq_false x1
    clear hcell hrow hr hWW
    go_enter Tryz.func84, Tryz.ntmps84
    go_wp2_with fail
    go_ret
    exact ⟨ret_bool HF.out.symm, (by repeat first | apply wxr | with_reducible assumption | apply wxe | apply wxa | apply wxd)⟩
  by_cases y1 : 0 ≤ y
  case neg =>
    have HF := Lib.hid (hasB_y (W := W) (rows := rows) (x := x) (y := y) (by simp [btw]; omega))
    have y1' : decide (0 ≤ y) = false := decide_eq_false y1
    clear hcell hrow hr hWW
    go_enter Tryz.func84, Tryz.ntmps84
    go_wp2_with fail
    go_ret
    exact ⟨ret_bool HF.out.symm, (by repeat first | apply wxr | with_reducible assumption | apply wxe | apply wxa | apply wxd)⟩
  obtain ⟨X, rfl⟩ : ∃ X : Nat, x = X := ⟨x.toNat, by omega⟩
  obtain ⟨Y, rfl⟩ : ∃ Y : Nat, y = Y := ⟨y.toNat, by omega⟩
  by_cases x2 : X < W
  case neg =>
    have HF := Lib.hid (hasB_x (W := W) (rows := rows) (x := X) (y := Y) (by simp [btw]; omega))
    have x2' : W ≤ X := by omega
    clear hcell hrow hr hWW
    go_enter Tryz.func84, Tryz.ntmps84
    go_wp2_with fail
    go_ret
    exact ⟨ret_bool HF.out.symm, (by repeat first | apply wxr | with_reducible assumption | apply wxe | apply wxa | apply wxd)⟩
  by_cases y2 : Y < rows.length
  case neg =>
    have HF := Lib.hid (hasB_y (W := W) (rows := rows) (x := X) (y := Y) (by simp [btw]; omega))
    have y2' : rows.length ≤ Y := by omega
    clear hcell hrow hr hWW
    go_enter Tryz.func84, Tryz.ntmps84
    go_wp2_with fail
    go_ret
    exact ⟨ret_bool HF.out.symm, (by repeat first | apply wxr | with_reducible assumption | apply wxe | apply wxa | apply wxd)⟩
  have HF := Lib.hid (hasB_at x2 y2)
  obtain ⟨hb, hi, hck⟩ := hcell Y y2
  obtain ⟨e1, e2⟩ := hrow Y y2
  rw [e1] at hck
  haveI := row_lt63 hW2 e2
  haveI : Le64 X := ⟨by omega⟩
  clear hcell hrow hr hWW e1
  go_enter Tryz.func84, Tryz.ntmps84
  go_wp2_with fail
  go_ret
  exact ⟨ret_bool HF.out.symm, (by repeat first | apply wxr | with_reducible assumption | apply wxe | apply wxa | apply wxd)⟩
end
section
open Go.ChangeShapes Go.WideShapes Go.ChangeAt Go.RowKit
def cRow (rows : List Int) (y : Nat) (cs : List (Int × Int)) : Nat → List (Int × Int) := iter (fun x cs => if (rowN rows y).testBit x then cs ++ [((x : Int), (y : Int))] else cs) cs
def cTo (W : Nat) (rows : List Int) : Nat → List (Int × Int) := iter (fun y cs => cRow rows y cs W) []
def cellsR (W : Nat) (rows : List Int) : List (Int × Int) := cTo W rows rows.length
theorem cRow_t {rows : List Int} {y x : Nat} (cs : List (Int × Int)) (h : (rowN rows y).testBit x = true) : cRow rows y cs (x + 1) = cRow rows y cs x ++ [((x : Int), (y : Int))] := by simp [cRow, iter, h]
theorem cRow_f {rows : List Int} {y x : Nat} (cs : List (Int × Int)) (h : (rowN rows y).testBit x = false) : cRow rows y cs (x + 1) = cRow rows y cs x := by simp [cRow, iter, h]
theorem cTo_succ (W : Nat) (rows : List Int) (y : Nat) : cTo W rows (y + 1) = cRow rows y (cTo W rows y) W := rfl
theorem cRow_len (rows : List Int) (y : Nat) (cs : List (Int × Int)) (x : Nat) : (cRow rows y cs x).length ≤ cs.length + x := by
  induction x with
  | zero => exact Nat.le_refl _
  | succ x ih =>
    cases h : (rowN rows y).testBit x
    · rw [cRow_f _ h]; omega
    · rw [cRow_t _ h]; simp; omega
theorem cTo_len (W : Nat) (rows : List Int) (y : Nat) : (cTo W rows y).length ≤ y * W := by
  induction y with
  | zero => simp [cTo, iter]
  | succ y ih => have := cRow_len rows y (cTo W rows y) W; rw [cTo_succ, Nat.add_mul]; omega
theorem cRow_36 {W : Nat} {rows : List Int} {y x : Nat} (hW : W ≤ 6) (hy : y < 6) (hx : x ≤ W) : (cRow rows y (cTo W rows y) x).length ≤ 36 := by
  have h1 := cRow_len rows y (cTo W rows y) x
  have h2 := cTo_len W rows y
  have h3 : y * W ≤ 5 * 6 := Nat.mul_le_mul (by omega) hW
  omega
theorem cellsR_36 {W : Nat} {rows : List Int} (hW : W ≤ 6) (hy : rows.length ≤ 6) : (cellsR W rows).length ≤ 36 := by
  have h2 := cTo_len W rows rows.length
  have h3 : rows.length * W ≤ 6 * 6 := Nat.mul_le_mul hy hW
  unfold cellsR
  omega
def cellsV (wd : Int) (rows : List Int) : List (Int × Int) := if regB wd rows then cellsR wd.toNat rows else []
theorem cellsV_no {wd : Int} {rows : List Int} (h : regB wd rows = false) : cellsV wd rows = [] := by simp [cellsV, h]
theorem cellsV_yes {W : Nat} {rows : List Int} (h : regB W rows = true) : cellsV W rows = cellsR W rows := by simp [cellsV, h]
theorem has_b (W : Nat) (rows : List Int) (x y : Nat) (b : Bool) (v : Value) (w : World) (h : IntsAt w v rows) (hr : regB W rows = true) (hx : x < W) (hy : y < rows.length) (hb : (rowN rows y).testBit x = b) :
    Calls Tryz.prog 78 #[.agg #[.int .i64 W, v], .int .i64 x, .int .i64 y] w fun e w' => e = .returned (.bool b) ∧ ∃ x, w' = ext w x := by
  have := has_any W rows x y v w h hr
  rwa [hasB_at hx hy, hb] at this
set_option maxHeartbeats 2000000 in
theorem cells_any (W : Nat) (rows : List Int) (v : Value) (w : World) (h : IntsAt w v rows) (hr : regB W rows = true) :
    Calls Tryz.prog 89 #[.agg #[.int .i64 W, v]] w (CellsPost w (cellsR W rows)) := by
  obtain ⟨a, b, o, cap, rfl, hc1, hc2, hc3, hcell⟩ := h.opn
  obtain ⟨W', hWW, hW1, hW2, hl1, hl2, hrow⟩ := regB_bd hr
  obtain rfl : W = W' := by omega
  have h1 := h.alloc (.cells #[.int .i64 W, .slice a rows.length cap] 26)
  have HR := Lib.hid hr
  clear hrow hcell hWW hr
  go_enter Tryz.func89, Tryz.ntmps89
  go_wp2_with fail
  go_loopw [3, 9] (fun u i wr => ∃ (r : Value) (k : Nat), r = u ∧ k ≤ rows.length ∧ i = .int .i64 k ∧ Held (w.alloc (.cells #[.int .i64 W, .slice a rows.length cap] 26)) wr [rowC r (cTo W rows k)]) (fun _ i _ => rows.length - (intOf i).toNat)
  case atStart => exact ⟨_, 0, rfl, Nat.zero_le _, rfl, (Held.start _).nilC⟩
  case round =>
    obtain ⟨r, y, rfl, hy, rfl, H⟩ := hrel
    obtain ⟨kb0, kb1⟩ := H.box2
    by_cases hlt : y < rows.length
    · have H0 := Lib.hid H
      clear H
      go_wp2_with fail
      go_loopw [3, 14] (fun u i wr2 => ∃ (r : Value) (x : Nat), r = u ∧ x ≤ W ∧ i = .int .i64 x ∧ Held (w.alloc (.cells #[.int .i64 W, .slice a rows.length cap] 26)) wr2 [rowC r (cRow rows y (cTo W rows y) x)]) (fun _ i _ => W - (intOf i).toNat)
      case atStart => exact ⟨_, 0, rfl, Nat.zero_le _, rfl, H0.out⟩
      case round =>
        clear H0 kb0 kb1
        obtain ⟨r, x, rfl, hx, rfl, H⟩ := hrel
        obtain ⟨kb0, kb1⟩ := H.box2
        by_cases hlt2 : x < W
        · have hlen := cRow_36 (W := W) (rows := rows) (y := y) (x := x) hW2 (by omega) hx
          cases hb : (rowN rows y).testBit x
          · have HB := Lib.hid hb
            clear hb
            go_wp2_with (first | (go_at_call 78; refine (has_b W rows _ _ false _ _ (h1.mono H.bel) HR.out hlt2 hlt HB.out).mono ?_; rintro e w' ⟨rfl, xe, rfl⟩))
            go_roundw
            case rel => exact ⟨r, x + 1, rfl, hlt2, int_succ x, by rw [cRow_f _ HB.out]; exact H.to (by repeat first | apply wxr | with_reducible assumption | apply wxe | apply wxa | apply wxd)⟩
            case measure => simp [intOf]; omega
          · have HB := Lib.hid hb
            clear hb
            go_wp2_with (first | (go_at_call 78; refine (has_b W rows _ _ true _ _ (h1.mono H.bel) HR.out hlt2 hlt HB.out).mono ?_; rintro e w' ⟨rfl, xe, rfl⟩) | (at_builtin; refine wpList_append_held (m := 1) rfl _ _ _ rfl elemCell (H.to (by repeat first | apply wxr | with_reducible assumption | apply wxe | apply wxa | apply wxd)) rfl rfl (Sl_cell _ _ _ _) (one_cell _ _) (by unfold maxLen; omega) (by omega) ?_; intro v' w' H; have H := H.snocC))
            go_roundw
            case rel => exact ⟨v', x + 1, rfl, hlt2, int_succ x, by rw [cRow_t _ HB.out]; exact H⟩
            case measure => simp [intOf]; omega
        · rw [show x = W by omega, ← cTo_succ] at H
          have HH := Lib.hid H
          clear H
          go_wp2_with fail
          go_roundw
          case rel => exact ⟨r, y + 1, rfl, hlt, int_succ y, HH.out⟩
          case measure => simp [intOf]; omega
    · rw [show y = rows.length by omega] at H
      have HH := Lib.hid H.unbox
      clear H
      go_wp2_with fail
      go_ret
      exact .got rfl HH.out
end
section
open Go.ChangeShapes Go.WideShapes Go.ChangeAt Go.RowKit
/-- two places with a side in common -/
def nearP (x y x' y' : Nat) : Prop := (x = x' ∧ (y + 1 = y' ∨ y' + 1 = y)) ∨ (y = y' ∧ (x + 1 = x' ∨ x' + 1 = x))
/-- what can be reached from a place within S -/
def Rch (S : Nat → Nat → Prop) (a b x y : Nat) : Prop := ∀ T : Nat → Nat → Prop, T a b → (∀ x y x' y', T x y → nearP x y x' y' → S x' y' → T x' y') → T x y
theorem Rch.base (S : Nat → Nat → Prop) (a b : Nat) : Rch S a b a b := fun _ h _ => h
theorem Rch.step {S : Nat → Nat → Prop} {a b x y x' y' : Nat} (h : Rch S a b x y) (hn : nearP x y x' y') (hs : S x' y') : Rch S a b x' y' := fun T h1 h2 => h2 x y x' y' (h T h1 h2) hn hs
theorem Rch.sub {S : Nat → Nat → Prop} {a b x y : Nat} (h : Rch S a b x y) (h0 : S a b) : S x y := h S h0 fun _ _ _ _ _ _ hs => hs
/-- a closed set of reached places is all that can be reached -/
theorem Rch_of {S T : Nat → Nat → Prop} {a b : Nat} (h0 : T a b) (h1 : ∀ x y, T x y → Rch S a b x y) (h2 : ∀ x y x' y', T x y → nearP x y x' y' → S x' y' → T x' y') (x y : Nat) : T x y ↔ Rch S a b x y :=
  ⟨h1 x y, fun h => h T h0 h2⟩
def First (S : Nat → Nat → Prop) (a b : Nat) : Prop := S a b ∧ ∀ x y, S x y → b < y ∨ (b = y ∧ a ≤ x)
theorem First.one {S : Nat → Nat → Prop} {a b a' b' : Nat} (h : First S a b) (h' : First S a' b') : a = a' ∧ b = b' := by
  have h1 := h.2 a' b' h'.1
  have h2 := h'.2 a b h.1
  omega
/-- the rows p hold the set T -/
def RowsOf (W H : Nat) (p : List Int) (T : Nat → Nat → Prop) : Prop :=
  p.length = H ∧ ∀ y, y < H → nth p y = ((rowN p y : Nat) : Int) ∧ rowN p y < 2 ^ W ∧ ∀ x, x < W → ((rowN p y).testBit x = true ↔ T x y)
theorem RowsOf.one {W H : Nat} {p q : List Int} {T : Nat → Nat → Prop} (h : RowsOf W H p T) (h' : RowsOf W H q T) : p = q := by
  apply List.ext_getElem (by rw [h.1, h'.1])
  intro i h1 h2
  obtain ⟨a1, a2, a3⟩ := h.2 i (by rw [← h.1]; exact h1)
  obtain ⟨b1, b2, b3⟩ := h'.2 i (by rw [← h.1]; exact h1)
  rw [nth_get h1, nth_get h2, a1, b1]
  congr 1
  apply Nat.eq_of_testBit_eq
  intro x
  by_cases hx : x < W
  · have := (a3 x hx).trans (b3 x hx).symm
    cases hp : (rowN p i).testBit x <;> cases hq : (rowN q i).testBit x <;> simp_all
  · rw [Nat.testBit_lt_two_pow (Nat.lt_of_lt_of_le a2 (Nat.pow_le_pow_right (by omega) (by omega))), Nat.testBit_lt_two_pow (Nat.lt_of_lt_of_le b2 (Nat.pow_le_pow_right (by omega) (by omega)))]
theorem RowsOf.congr {W H : Nat} {p : List Int} {T T' : Nat → Nat → Prop} (h : RowsOf W H p T) (e : ∀ x y, x < W → y < H → (T x y ↔ T' x y)) : RowsOf W H p T' :=
  ⟨h.1, fun y hy => ⟨(h.2 y hy).1, (h.2 y hy).2.1, fun x hx => ((h.2 y hy).2.2 x hx).trans (e x y hx hy)⟩⟩
/-- the parts of S, one behind the other -/
def PartsR (W H : Nat) : List (List Int) → (Nat → Nat → Prop) → Prop
  | [], S => ∀ x y, ¬ S x y
  | p :: ps, S => ∃ a b, First S a b ∧ RowsOf W H p (Rch S a b) ∧ PartsR W H ps fun x y => S x y ∧ ¬ Rch S a b x y
theorem PartsR.one {W H : Nat} : ∀ {ps qs : List (List Int)} {S : Nat → Nat → Prop}, PartsR W H ps S → PartsR W H qs S → ps = qs
  | [], [], _, _, _ => rfl
  | [], q :: qs, S, h, ⟨a, b, hf, _⟩ => absurd hf.1 (h a b)
  | p :: ps, [], S, ⟨a, b, hf, _⟩, h => absurd hf.1 (h a b)
  | p :: ps, q :: qs, S, ⟨a, b, hf, hp, hr⟩, ⟨a', b', hf', hp', hr'⟩ => by
    obtain ⟨rfl, rfl⟩ := hf.one hf'
    rw [hp.one hp', PartsR.one hr hr']
theorem PartsR_congr {W H : Nat} {ps : List (List Int)} {S S' : Nat → Nat → Prop} (h : PartsR W H ps S) (e : ∀ x y, S x y ↔ S' x y) : PartsR W H ps S' := by
  have : S = S' := funext fun x => funext fun y => propext (e x y)
  rw [← this]; exact h
/-- the places of rows that are given by a function -/
def inF (W H : Nat) (f : Nat → Nat) (x y : Nat) : Prop := x < W ∧ y < H ∧ (f y).testBit x = true
def FitF (W H : Nat) (f : Nat → Nat) : Prop := ∀ y, y < H → f y < 2 ^ W
theorem rowN_tab {H : Nat} {f : Nat → Nat} {y : Nat} (h : y < H) : rowN (tab H (intF f)) y = f y := by
  rw [rowN, tab_nth _ h, intF, Int.toNat_natCast]
theorem rowsOf_tab {W H : Nat} {f : Nat → Nat} {T : Nat → Nat → Prop} (hf : FitF W H f) (h : ∀ x y, x < W → y < H → ((f y).testBit x = true ↔ T x y)) : RowsOf W H (tab H (intF f)) T := by
  refine ⟨tab_len _ _, fun y hy => ?_⟩
  rw [rowN_tab hy, tab_nth _ hy]
  exact ⟨rfl, hf y hy, fun x hx => h x y hx hy⟩
theorem regB_tab {W H : Nat} {f : Nat → Nat} (h1 : 1 ≤ W) (h2 : W ≤ 6) (h3 : 1 ≤ H) (h4 : H ≤ 6) (hf : FitF W H f) : regB W (tab H (intF f)) = true := by
  simp only [regB, Bool.and_eq_true, btw_iff, tab_len]
  refine ⟨⟨by omega, by omega⟩, allTo_true.2 fun k hk => ?_⟩
  rw [tab_nth _ hk]
  have := hf k hk
  have e : ((2 ^ W : Nat) : Int) = 2 ^ W := by simp
  simp [rowB, intF, shlN]
  omega
/-! a place put in, a place taken out -/
def putF (f : Nat → Nat) (x y : Nat) : Nat → Nat := updN f y (orN (f y) (shlN 1 x))
def cutF (f : Nat → Nat) (x y : Nat) : Nat → Nat := updN f y (butN (f y) (shlN 1 x))
theorem butN_bitP (a b i : Nat) : (butN a b).testBit i = (a.testBit i && !b.testBit i) := by
  rw [butN, Nat.testBit_xor, Nat.testBit_and]
  cases a.testBit i <;> cases b.testBit i <;> rfl
theorem putF_bit (f : Nat → Nat) (x y x' y' : Nat) : (putF f x y y').testBit x' = true ↔ ((f y').testBit x' = true ∨ (x = x' ∧ y = y')) := by
  unfold putF updN
  by_cases e : y' = y
  · subst e
    rw [if_pos rfl, orN, shlN, Nat.one_mul, Nat.testBit_or, Nat.testBit_two_pow, Bool.or_eq_true, decide_eq_true_eq]
    simp
  · rw [if_neg e]
    constructor
    · exact .inl
    · rintro (h | h)
      · exact h
      · exact absurd h.2.symm e
theorem cutF_bit (f : Nat → Nat) (x y x' y' : Nat) : (cutF f x y y').testBit x' = true ↔ ((f y').testBit x' = true ∧ ¬ (x = x' ∧ y = y')) := by
  unfold cutF updN
  by_cases e : y' = y
  · subst e
    rw [if_pos rfl, butN_bitP, shlN, Nat.one_mul, Nat.testBit_two_pow]
    by_cases h : x = x' <;> simp [h]
  · rw [if_neg e]
    constructor
    · exact fun h => ⟨h, fun k => e k.2.symm⟩
    · exact fun h => h.1
theorem putF_fit {W H : Nat} {f : Nat → Nat} (h : FitF W H f) {x : Nat} (hx : x < W) (y : Nat) : FitF W H (putF f x y) := by
  intro y' hy'
  unfold putF updN
  split
  · rename_i e
    subst e
    refine Nat.or_lt_two_pow (h _ hy') ?_
    rw [shlN, Nat.one_mul]
    exact Nat.pow_lt_pow_right (by omega) hx
  · exact h y' hy'
theorem cutF_fit {W H : Nat} {f : Nat → Nat} (h : FitF W H f) (x y : Nat) : FitF W H (cutF f x y) := by
  intro y' hy'
  unfold cutF updN
  split
  · rename_i e
    subst e
    refine Nat.lt_of_le_of_lt ?_ (h _ hy')
    refine Nat.le_of_testBit ?_
    intro i hi
    rw [butN_bitP] at hi
    simp at hi; exact hi.1
  · exact h y' hy'
theorem inF_put {W H : Nat} {f : Nat → Nat} {x y : Nat} (hx : x < W) (hy : y < H) (x' y' : Nat) : inF W H (putF f x y) x' y' ↔ (inF W H f x' y' ∨ (x = x' ∧ y = y')) := by
  unfold inF
  rw [putF_bit]
  constructor
  · rintro ⟨h1, h2, h3 | h3⟩
    · exact .inl ⟨h1, h2, h3⟩
    · exact .inr h3
  · rintro (⟨h1, h2, h3⟩ | ⟨rfl, rfl⟩)
    · exact ⟨h1, h2, .inl h3⟩
    · exact ⟨hx, hy, .inr ⟨rfl, rfl⟩⟩
theorem inF_cut {W H : Nat} {f : Nat → Nat} (x y x' y' : Nat) : inF W H (cutF f x y) x' y' ↔ (inF W H f x' y' ∧ ¬ (x = x' ∧ y = y')) := by
  unfold inF
  rw [cutF_bit]
  exact ⟨fun h => ⟨⟨h.1, h.2.1, h.2.2.1⟩, h.2.2.2⟩, fun h => ⟨h.1.1, h.1.2.1, h.1.2.2, h.2⟩⟩
/-- how much is left: for the measure -/
def weiF (f : Nat → Nat) : Nat → Nat
  | 0 => 0
  | n + 1 => weiF f n + f n
theorem weiF_cut {f : Nat → Nat} {x y : Nat} (h : (f y).testBit x = true) : ∀ n, y < n → weiF (cutF f x y) n + 1 ≤ weiF f n := by
  have hlt : butN (f y) (shlN 1 x) + 1 ≤ f y := by
    have hle : butN (f y) (shlN 1 x) ≤ f y := Nat.le_of_testBit fun i hi => by
      rw [butN_bitP] at hi; simp at hi; exact hi.1
    rcases Nat.lt_or_ge (butN (f y) (shlN 1 x)) (f y) with h1 | h1
    · exact h1
    · exfalso
      have e : butN (f y) (shlN 1 x) = f y := by omega
      have := butN_bitP (f y) (shlN 1 x) x
      rw [e, h, shlN, Nat.one_mul, Nat.testBit_two_pow_self] at this
      simp at this
  have hsame : ∀ n, n ≤ y → weiF (cutF f x y) n = weiF f n := by
    intro n
    induction n with
    | zero => intro _; rfl
    | succ n ih =>
      intro hn
      rw [weiF, weiF, ih (by omega)]
      unfold cutF updN
      rw [if_neg (by omega)]
  intro n
  induction n with
  | zero => intro h; omega
  | succ n ih =>
    intro hn
    rw [weiF, weiF]
    by_cases e : n = y
    · subst e
      rw [hsame n (Nat.le_refl _)]
      unfold cutF updN
      rw [if_pos rfl]
      omega
    · have := ih (by omega)
      have e2 : cutF f x y n = f n := by unfold cutF updN; rw [if_neg e]
      rw [e2]
      omega
/-! ### the program's search of one part -/
/-- left: what is left; part: what has been put into the part; todo: what waits -/
structure Flood (W H : Nat) (S : Nat → Nat → Prop) (a b : Nat) (left part : Nat → Nat) (todo : List (Nat × Nat)) : Prop where
  fl : FitF W H left
  fp : FitF W H part
  top : ∀ c ∈ todo, c.1 < W ∧ c.2 < H
  all : ∀ x y, S x y ↔ (inF W H left x y ∨ inF W H part x y ∨ (x, y) ∈ todo)
  dis : ∀ x y, inF W H left x y → ¬ inF W H part x y ∧ (x, y) ∉ todo
  got : ∀ x y, (inF W H part x y ∨ (x, y) ∈ todo) → Rch S a b x y
  own : inF W H part a b ∨ (a, b) ∈ todo
/-- every neighbour of what is in the part has been seen -/
def Shut (W H : Nat) (left part : Nat → Nat) : Prop := ∀ x y x' y', inF W H part x y → nearP x y x' y' → ¬ inF W H left x' y'
theorem Flood.start {W H : Nat} {left : Nat → Nat} {a b : Nat} (hf : FitF W H left) (hs : inF W H left a b) : Flood W H (inF W H left) a b (cutF left a b) (fun _ => 0) [(a, b)] := by
  have h0 : ∀ x y, ¬ inF W H (fun _ => 0) x y := fun x y h => by simp [inF] at h
  refine ⟨cutF_fit hf a b, fun y _ => Nat.two_pow_pos W, fun c hc => ?_, fun x y => ?_, fun x y h => ?_, fun x y h => ?_, .inr (by simp)⟩
  · simp at hc; subst hc; exact ⟨hs.1, hs.2.1⟩
  · rw [inF_cut]
    by_cases e : a = x ∧ b = y
    · obtain ⟨rfl, rfl⟩ := e
      simp [hs]
    · have e2 : ¬ ((x, y) ∈ [(a, b)]) := by simp; intro h1 h2; exact e ⟨h1.symm, h2.symm⟩
      constructor
      · exact fun h => .inl ⟨h, e⟩
      · rintro (h | h | h)
        · exact h.1
        · exact absurd h (h0 x y)
        · exact absurd h e2
  · rw [inF_cut] at h
    refine ⟨h0 x y, fun h2 => ?_⟩
    simp at h2
    exact h.2 ⟨h2.1.symm, h2.2.symm⟩
  · rcases h with h | h
    · exact absurd h (h0 x y)
    · simp at h
      obtain ⟨rfl, rfl⟩ := h
      exact Rch.base _ _ _
theorem shut_start (W H : Nat) (left : Nat → Nat) : Shut W H left fun _ => 0 := fun x y _ _ h => by simp [inF] at h
/-- the first that waits goes into the part -/
theorem Flood.pop {W H : Nat} {S : Nat → Nat → Prop} {a b : Nat} {left part : Nat → Nat} {x y : Nat} {todo : List (Nat × Nat)} (F : Flood W H S a b left part ((x, y) :: todo)) : Flood W H S a b left (putF part x y) todo := by
  obtain ⟨hx, hy⟩ := F.top (x, y) (by simp)
  simp only at hx hy
  have hm : ∀ x' y', (inF W H (putF part x y) x' y' ∨ (x', y') ∈ todo) ↔ (inF W H part x' y' ∨ (x', y') ∈ (x, y) :: todo) := fun x' y' => by
    rw [inF_put hx hy, List.mem_cons]
    constructor
    · rintro ((h | ⟨rfl, rfl⟩) | h)
      · exact .inl h
      · exact .inr (.inl rfl)
      · exact .inr (.inr h)
    · rintro (h | h | h)
      · exact .inl (.inl h)
      · simp only [Prod.mk.injEq] at h; exact .inl (.inr ⟨h.1.symm, h.2.symm⟩)
      · exact .inr h
  refine ⟨F.fl, putF_fit F.fp hx y, fun c hc => F.top c (List.mem_cons_of_mem _ hc), fun x' y' => ?_, fun x' y' h => ?_, fun x' y' h => F.got x' y' ((hm x' y').1 h), (hm a b).2 F.own⟩
  · rw [F.all, hm]
  · have := F.dis x' y' h
    have h2 : ¬ (inF W H (putF part x y) x' y' ∨ (x', y') ∈ todo) := fun k => by
      rcases (hm x' y').1 k with k | k
      · exact this.1 k
      · exact this.2 k
    exact ⟨fun k => h2 (.inl k), fun k => h2 (.inr k)⟩
/-- a neighbour of what is in the part is put behind those that wait -/
theorem Flood.push {W H : Nat} {S : Nat → Nat → Prop} {a b : Nat} {left part : Nat → Nat} {x y x' y' : Nat} {todo : List (Nat × Nat)} (F : Flood W H S a b left part todo) (hp : inF W H part x y) (hn : nearP x y x' y') (hl : inF W H left x' y') :
    Flood W H S a b (cutF left x' y') part (todo ++ [(x', y')]) := by
  refine ⟨cutF_fit F.fl _ _, F.fp, fun c hc => ?_, fun u v => ?_, fun u v h => ?_, fun u v h => ?_, ?_⟩
  · rcases List.mem_append.1 hc with h | h
    · exact F.top c h
    · simp at h; subst h; exact ⟨hl.1, hl.2.1⟩
  · rw [F.all, inF_cut, List.mem_append]
    by_cases e : x' = u ∧ y' = v
    · obtain ⟨rfl, rfl⟩ := e
      simp [hl]
    · have e2 : ¬ ((u, v) ∈ [(x', y')]) := by simp; intro h1 h2; exact e ⟨h1.symm, h2.symm⟩
      constructor
      · rintro (h | h | h)
        · exact .inl ⟨h, e⟩
        · exact .inr (.inl h)
        · exact .inr (.inr (.inl h))
      · rintro (h | h | h | h)
        · exact .inl h.1
        · exact .inr (.inl h)
        · exact .inr (.inr h)
        · exact absurd h e2
  · rw [inF_cut] at h
    refine ⟨(F.dis u v h.1).1, fun k => ?_⟩
    rcases List.mem_append.1 k with k | k
    · exact (F.dis u v h.1).2 k
    · simp at k; exact h.2 ⟨k.1.symm, k.2.symm⟩
  · rcases h with h | h
    · exact F.got u v (.inl h)
    · rcases List.mem_append.1 h with h | h
      · exact F.got u v (.inr h)
      · simp at h
        obtain ⟨rfl, rfl⟩ := h
        exact (F.got x y (.inl hp)).step hn ((F.all _ _).2 (.inl hl))
  · rcases F.own with h | h
    · exact .inl h
    · exact .inr (List.mem_append_left _ h)
/-- nothing waits: the part is all that can be reached -/
theorem Flood.fin {W H : Nat} {S : Nat → Nat → Prop} {a b : Nat} {left part : Nat → Nat} (F : Flood W H S a b left part []) (hc : Shut W H left part) :
    RowsOf W H (tab H (intF part)) (Rch S a b) ∧ ∀ x y, inF W H left x y ↔ (S x y ∧ ¬ Rch S a b x y) := by
  have hall : ∀ x y, S x y ↔ (inF W H left x y ∨ inF W H part x y) := fun x y => by rw [F.all]; simp
  have h := Rch_of (S := S) (T := inF W H part) (a := a) (b := b) (by rcases F.own with h | h; exact h; simp at h) (fun x y h => F.got x y (.inl h)) (fun x y x' y' h hn hs => by
    rcases (hall x' y').1 hs with k | k
    · exact absurd k (hc x y x' y' h hn)
    · exact k)
  refine ⟨rowsOf_tab F.fp fun x y hx hy => ?_, fun x y => ?_⟩
  · rw [← h]
    exact ⟨fun k => ⟨hx, hy, k⟩, fun k => k.2.2⟩
  · rw [← h, hall]
    constructor
    · exact fun k => ⟨.inl k, (F.dis x y k).1⟩
    · rintro ⟨k | k, k2⟩
      · exact k
      · exact absurd k k2
/-! ### the reference's search of one part -/
theorem near_sides {x y x' y' : Nat} : nearP x y x' y' ↔ ((x' = x + 1 ∧ y' = y) ∨ (x' = x ∧ y' = y + 1) ∨ (x = x' + 1 ∧ y' = y) ∨ (x' = x ∧ y = y' + 1)) := by
  unfold nearP; omega
def castP (l : List (Nat × Nat)) : List (Int × Int) := l.map fun c => ((c.1 : Int), (c.2 : Int))
def pxN (l : List (Nat × Nat)) (k : Nat) : Nat := (l.getD k (0, 0)).1
def pyN (l : List (Nat × Nat)) (k : Nat) : Nat := (l.getD k (0, 0)).2
theorem castP_len (l : List (Nat × Nat)) : (castP l).length = l.length := by simp [castP]
theorem castP_cx (l : List (Nat × Nat)) (k : Nat) : cx (castP l) k = (pxN l k : Nat) := by
  by_cases h : k < l.length
  · simp [cx, castP, pxN, List.getD, h]
  · simp [cx, castP, pxN, List.getD, h]
theorem castP_cy (l : List (Nat × Nat)) (k : Nat) : cy (castP l) k = (pyN l k : Nat) := by
  by_cases h : k < l.length
  · simp [cy, castP, pyN, List.getD, h]
  · simp [cy, castP, pyN, List.getD, h]
theorem castP_snoc (l : List (Nat × Nat)) (x y : Nat) : castP (l ++ [(x, y)]) = castP l ++ [((x : Int), (y : Int))] := by simp [castP]
theorem pN_get {l : List (Nat × Nat)} {k : Nat} (h : k < l.length) : l[k] = (pxN l k, pyN l k) := by simp [pxN, pyN, List.getD, h]
theorem pN_mem {l : List (Nat × Nat)} {k : Nat} (h : k < l.length) : (pxN l k, pyN l k) ∈ l := by rw [← pN_get h]; exact List.getElem_mem h
theorem pN_app {l m : List (Nat × Nat)} {k : Nat} (h : k < l.length) : pxN (l ++ m) k = pxN l k ∧ pyN (l ++ m) k = pyN l k := by
  simp [pxN, pyN, List.getD, List.getElem?_append_left h]
theorem length_le_of_sub : ∀ {l m : List (Nat × Nat)}, l.Nodup → (∀ c ∈ l, c ∈ m) → l.length ≤ m.length
  | [], m, _, _ => Nat.zero_le _
  | c :: l, m, hn, hs => by
    have hc := hs c (by simp)
    have h1 := List.nodup_cons.1 hn
    have := length_le_of_sub (l := l) (m := m.erase c) h1.2 (fun d hd => (List.mem_erase_of_ne (fun e => h1.1 (by rw [← e]; exact hd))).2 (hs d (List.mem_cons_of_mem _ hd)))
    rw [List.length_erase_of_mem hc] at this
    have h2 : 0 < m.length := List.length_pos_of_mem hc
    simp only [List.length_cons]
    omega
def inL (l : List (Nat × Nat)) (x y : Nat) : Prop := (x, y) ∈ l
structure Grow (left : List (Nat × Nat)) (a b : Nat) (part : List (Nat × Nat)) : Prop where
  nd : part.Nodup
  sub : ∀ c ∈ part, c ∈ left
  got : ∀ x y, (x, y) ∈ part → Rch (inL left) a b x y
  own : (a, b) ∈ part
theorem Grow.len {left part : List (Nat × Nat)} {a b : Nat} (G : Grow left a b part) : part.length ≤ left.length := length_le_of_sub G.nd G.sub
theorem Grow.start {left : List (Nat × Nat)} {a b : Nat} (h : (a, b) ∈ left) : Grow left a b [(a, b)] :=
  ⟨by simp, fun c hc => by simp at hc; subst hc; exact h, fun x y hc => by simp at hc; obtain ⟨rfl, rfl⟩ := hc; exact Rch.base _ _ _, by simp⟩
theorem Grow.push {left part : List (Nat × Nat)} {a b x y : Nat} (G : Grow left a b part) {i : Nat} (hi : i < part.length) (hn : nearP (pxN part i) (pyN part i) x y) (hl : (x, y) ∈ left) (h : (x, y) ∉ part) : Grow left a b (part ++ [(x, y)]) := by
  refine ⟨?_, fun c hc => ?_, fun u v hc => ?_, List.mem_append_left _ G.own⟩
  · rw [List.nodup_append]
    refine ⟨G.nd, by simp, fun c hc d hd => ?_⟩
    simp at hd; subst hd
    intro e; subst e; exact h hc
  · rcases List.mem_append.1 hc with hc | hc
    · exact G.sub c hc
    · simp at hc; subst hc; exact hl
  · rcases List.mem_append.1 hc with hc | hc
    · exact G.got u v hc
    · simp at hc
      obtain ⟨rfl, rfl⟩ := hc
      exact (G.got _ _ (pN_mem hi)).step hn hl
/-- the neighbours of the first i have been taken up; of the next one those among the first k places -/
def SeenG (left part : List (Nat × Nat)) (i : Nat) : Prop := ∀ j, j < i → ∀ c ∈ left, nearP (pxN part j) (pyN part j) c.1 c.2 → c ∈ part
def SeenK (left part : List (Nat × Nat)) (i k : Nat) : Prop := ∀ q, q < k → nearP (pxN part i) (pyN part i) (pxN left q) (pyN left q) → (pxN left q, pyN left q) ∈ part
theorem SeenG.app {left part m : List (Nat × Nat)} {i : Nat} (h : SeenG left part i) (hi : i ≤ part.length) : SeenG left (part ++ m) i := fun j hj c hc hn => by
  obtain ⟨e1, e2⟩ := pN_app (m := m) (show j < part.length by omega)
  rw [e1, e2] at hn
  exact List.mem_append_left _ (h j hj c hc hn)
theorem SeenK.app {left part m : List (Nat × Nat)} {i k : Nat} (h : SeenK left part i k) (hi : i < part.length) : SeenK left (part ++ m) i k := fun q hq hn => by
  obtain ⟨e1, e2⟩ := pN_app (m := m) hi
  rw [e1, e2] at hn
  exact List.mem_append_left _ (h q hq hn)
theorem SeenG.next {left part : List (Nat × Nat)} {i : Nat} (h : SeenG left part i) (hk : SeenK left part i left.length) : SeenG left part (i + 1) := fun j hj c hc hn => by
  by_cases e : j = i
  · subst e
    obtain ⟨q, hq, rfl⟩ := List.getElem_of_mem hc
    rw [pN_get hq] at hn ⊢
    exact hk q hq hn
  · exact h j (by omega) c hc hn
theorem Grow.fin {left part : List (Nat × Nat)} {a b : Nat} (G : Grow left a b part) (h : SeenG left part part.length) (x y : Nat) : (x, y) ∈ part ↔ Rch (inL left) a b x y :=
  Rch_of (S := inL left) (T := inL part) (a := a) (b := b) G.own G.got (fun x y x' y' hp hn hs => by
    obtain ⟨j, hj, e⟩ := List.getElem_of_mem hp
    rw [pN_get hj] at e
    simp only [Prod.mk.injEq] at e
    refine h j hj (x', y') hs ?_
    rw [e.1, e.2]; exact hn) x y
/-- the rows that are filled with the first i cells of a list -/
def rwF (l : List (Nat × Nat)) : Nat → Nat → Nat := iter (fun i f => putF f (pxN l i) (pyN l i)) fun _ => 0
theorem rwF_succ (l : List (Nat × Nat)) (i : Nat) : rwF l (i + 1) = putF (rwF l i) (pxN l i) (pyN l i) := rfl
theorem rwF_bit (l : List (Nat × Nat)) (x y : Nat) : ∀ i, i ≤ l.length → ((rwF l i y).testBit x = true ↔ (x, y) ∈ l.take i)
  | 0, _ => by simp [rwF, iter]
  | i + 1, h => by
    rw [rwF_succ, putF_bit, rwF_bit l x y i (by omega), List.take_succ_eq_append_getElem (by omega), List.mem_append, pN_get]
    simp
    constructor
    · rintro (h | ⟨rfl, rfl⟩)
      · exact .inl h
      · exact .inr ⟨rfl, rfl⟩
    · rintro (h | ⟨rfl, rfl⟩)
      · exact .inl h
      · exact .inr ⟨rfl, rfl⟩
theorem rwF_fit {W H : Nat} {l : List (Nat × Nat)} (h : ∀ c ∈ l, c.1 < W) : ∀ i, i ≤ l.length → FitF W H (rwF l i)
  | 0, _ => fun y _ => Nat.two_pow_pos W
  | i + 1, hi => putF_fit (rwF_fit h i (by omega)) (h _ (pN_mem (by omega))) _
/-- the sum is the union: the place is not filled yet -/
theorem rwF_add {l : List (Nat × Nat)} (hn : l.Nodup) {i : Nat} (h : i < l.length) : rwF l i (pyN l i) + shlN 1 (pxN l i) = orN (rwF l i (pyN l i)) (shlN 1 (pxN l i)) := by
  have hb : (rwF l i (pyN l i)).testBit (pxN l i) = false := by
    cases e : (rwF l i (pyN l i)).testBit (pxN l i)
    · rfl
    · exfalso
      have := (rwF_bit l _ _ i (by omega)).1 e
      rw [← pN_get h] at this
      obtain ⟨j, hj, e2⟩ := List.getElem_of_mem this
      rw [List.getElem_take] at e2
      have hj2 : j < i := by simp at hj; omega
      exact absurd ((List.nodup_iff_pairwise_ne.1 hn |> List.pairwise_iff_getElem.1) j i (by omega) h hj2) (by simp [e2])
  unfold orN shlN; rw [Nat.one_mul]; exact add_or hb
theorem parts_cons {W H : Nat} {left part : List (Nat × Nat)} {a b : Nat} {ps : List (List Int)} (hf : First (inL left) a b) (G : Grow left a b part) (h : SeenG left part part.length) (hb : ∀ c ∈ left, c.1 < W ∧ c.2 < H)
    (hr : PartsR W H ps (inL (left.filter fun c => decide (c ∉ part)))) : PartsR W H (tab H (intF (rwF part part.length)) :: ps) (inL left) := by
  refine ⟨a, b, hf, rowsOf_tab (rwF_fit (fun c hc => (hb c (G.sub c hc)).1) _ (Nat.le_refl _)) fun x y hx hy => ?_, PartsR_congr hr fun x y => ?_⟩
  · rw [rwF_bit _ _ _ _ (Nat.le_refl _), List.take_length, G.fin h]
  · rw [← G.fin h]
    unfold inL
    rw [List.mem_filter, decide_eq_true_eq]
/-! ### the cells in order -/
def ordP (c d : Nat × Nat) : Prop := c.2 < d.2 ∨ (c.2 = d.2 ∧ c.1 < d.1)
theorem First_head {a b : Nat} {l : List (Nat × Nat)} (h : ((a, b) :: l).Pairwise ordP) : First (inL ((a, b) :: l)) a b := by
  refine ⟨by simp [inL], fun x y hc => ?_⟩
  rcases List.mem_cons.1 hc with e | hc
  · simp only [Prod.mk.injEq] at e
    omega
  · have := (List.pairwise_cons.1 h).1 _ hc
    simp only [ordP] at this
    omega
def cRowN (rows : List Int) (y : Nat) (cs : List (Nat × Nat)) : Nat → List (Nat × Nat) := iter (fun x cs => if (rowN rows y).testBit x then cs ++ [(x, y)] else cs) cs
def cToN (W : Nat) (rows : List Int) : Nat → List (Nat × Nat) := iter (fun y cs => cRowN rows y cs W) []
def cellsN (W : Nat) (rows : List Int) : List (Nat × Nat) := cToN W rows rows.length
theorem cRowN_succ (rows : List Int) (y : Nat) (cs : List (Nat × Nat)) (x : Nat) : cRowN rows y cs (x + 1) = if (rowN rows y).testBit x then cRowN rows y cs x ++ [(x, y)] else cRowN rows y cs x := rfl
theorem cRowN_cast (rows : List Int) (y : Nat) (cs : List (Nat × Nat)) : ∀ x, castP (cRowN rows y cs x) = cRow rows y (castP cs) x
  | 0 => rfl
  | x + 1 => by
    rw [cRowN_succ]
    have ih := cRowN_cast rows y cs x
    cases hb : (rowN rows y).testBit x
    · rw [cRow_f _ hb]; simpa using ih
    · rw [cRow_t _ hb, if_pos rfl, castP_snoc, ih]
theorem cToN_cast (W : Nat) (rows : List Int) : ∀ y, castP (cToN W rows y) = cTo W rows y
  | 0 => rfl
  | y + 1 => by
    rw [cTo_succ, ← cToN_cast W rows y, ← cRowN_cast]; rfl
theorem cellsN_cast (W : Nat) (rows : List Int) : castP (cellsN W rows) = cellsR W rows := cToN_cast W rows _
theorem cRowN_mem (rows : List Int) (y : Nat) (cs : List (Nat × Nat)) (u v : Nat) : ∀ x, (u, v) ∈ cRowN rows y cs x ↔ ((u, v) ∈ cs ∨ (v = y ∧ u < x ∧ (rowN rows y).testBit u = true))
  | 0 => by simp [cRowN, iter]
  | x + 1 => by
    rw [cRowN_succ]
    have ih := cRowN_mem rows y cs u v x
    by_cases hb : (rowN rows y).testBit x = true
    · rw [if_pos hb, List.mem_append, ih]
      simp
      constructor
      · rintro ((h | h) | ⟨rfl, rfl⟩)
        · exact .inl h
        · exact .inr ⟨h.1, by omega, h.2.2⟩
        · exact .inr ⟨rfl, by omega, hb⟩
      · rintro (h | ⟨rfl, h2, h3⟩)
        · exact .inl (.inl h)
        · by_cases e : u = x
          · exact .inr ⟨e, rfl⟩
          · exact .inl (.inr ⟨rfl, by omega, h3⟩)
    · rw [if_neg hb, ih]
      constructor
      · rintro (h | h)
        · exact .inl h
        · exact .inr ⟨h.1, by omega, h.2.2⟩
      · rintro (h | ⟨rfl, h2, h3⟩)
        · exact .inl h
        · refine .inr ⟨rfl, ?_, h3⟩
          by_cases e : u = x
          · subst e; exact absurd h3 hb
          · omega
theorem cToN_mem (W : Nat) (rows : List Int) (u v : Nat) : ∀ y, (u, v) ∈ cToN W rows y ↔ (v < y ∧ u < W ∧ (rowN rows v).testBit u = true)
  | 0 => by simp [cToN, iter]
  | y + 1 => by
    have ih := cToN_mem W rows u v y
    show (u, v) ∈ cRowN rows y (cToN W rows y) W ↔ _
    rw [cRowN_mem, ih]
    constructor
    · rintro (h | ⟨rfl, h⟩)
      · exact ⟨by omega, h.2⟩
      · exact ⟨by omega, h⟩
    · rintro ⟨h1, h2⟩
      by_cases e : v = y
      · subst e; exact .inr ⟨rfl, h2⟩
      · exact .inl ⟨by omega, h2⟩
theorem cellsN_mem {W : Nat} {rows : List Int} {u v : Nat} : (u, v) ∈ cellsN W rows ↔ (v < rows.length ∧ u < W ∧ (rowN rows v).testBit u = true) := cToN_mem W rows u v _
theorem cRowN_ord (rows : List Int) (y : Nat) (cs : List (Nat × Nat)) (h : cs.Pairwise ordP) (hy : ∀ c ∈ cs, c.2 < y) : ∀ x, (cRowN rows y cs x).Pairwise ordP
  | 0 => h
  | x + 1 => by
    rw [cRowN_succ]
    have ih := cRowN_ord rows y cs h hy x
    split
    · rw [List.pairwise_append]
      refine ⟨ih, by simp, fun c hc d hd => ?_⟩
      simp at hd; subst hd
      obtain ⟨u, v⟩ := c
      rcases (cRowN_mem rows y cs u v x).1 hc with k | k
      · exact .inl (hy _ k)
      · exact .inr ⟨k.1, k.2.1⟩
    · exact ih
theorem cToN_ord (W : Nat) (rows : List Int) : ∀ y, (cToN W rows y).Pairwise ordP
  | 0 => by simp [cToN, iter]
  | y + 1 => cRowN_ord rows y _ (cToN_ord W rows y) (fun c hc => by obtain ⟨u, v⟩ := c; exact ((cToN_mem W rows u v y).1 hc).1) W
theorem cellsN_ord (W : Nat) (rows : List Int) : (cellsN W rows).Pairwise ordP := cToN_ord W rows _
end
section
open Go.ChangeShapes Go.WideShapes Go.ChangeAt Go.RowKit
instance (x y x' y' : Nat) : Decidable (nearP x y x' y') := inferInstanceAs (Decidable (_ ∨ _))
theorem sq_abs (d : Int) : d * d = ((d.natAbs * d.natAbs : Nat) : Int) := Int.natAbs_mul_self.symm
theorem near_sq {x y x' y' : Nat} : (((x : Int) - x') * ((x : Int) - x') + ((y : Int) - y') * ((y : Int) - y') = 1) ↔ nearP x y x' y' := by
  rw [sq_abs, sq_abs]
  have key : ∀ a b : Nat, ((((a * a : Nat) : Int) + ((b * b : Nat) : Int)) = 1) ↔ (a = 0 ∧ b = 1 ∨ a = 1 ∧ b = 0) := by
    intro a b
    constructor
    · intro h
      have h1 : a * a + b * b = 1 := by omega
      have ha : a ≤ 1 := by
        rcases Nat.lt_or_ge 1 a with h2 | h2
        · have := Nat.mul_le_mul h2 h2; omega
        · exact h2
      have hb : b ≤ 1 := by
        rcases Nat.lt_or_ge 1 b with h2 | h2
        · have := Nat.mul_le_mul h2 h2; omega
        · exact h2
      have ha2 : a = 0 ∨ a = 1 := by omega
      have hb2 : b = 0 ∨ b = 1 := by omega
      rcases ha2 with rfl | rfl <;> rcases hb2 with rfl | rfl <;> simp at h1 ⊢
    · rintro (⟨rfl, rfl⟩ | ⟨rfl, rfl⟩) <;> rfl
  rw [key]
  unfold nearP
  omega
theorem sq_bd {x x' : Nat} (h : x ≤ 64) (h' : x' ≤ 64) : 0 ≤ ((x : Int) - x') * ((x : Int) - x') ∧ ((x : Int) - x') * ((x : Int) - x') ≤ 4096 := by
  rw [sq_abs]
  have hb : ((x : Int) - x').natAbs ≤ 64 := by omega
  have := Nat.mul_le_mul hb hb
  omega
theorem l2Near_any (x y x' y' : Nat) (hx : x ≤ 64) (hy : y ≤ 64) (hx' : x' ≤ 64) (hy' : y' ≤ 64) (w : World) :
    Calls Tryz.prog 92 #[.agg #[.int .i64 x, .int .i64 y], .agg #[.int .i64 x', .int .i64 y']] w fun e w' => e = .returned (.bool (decide (nearP x y x' y'))) ∧ ∃ x, w' = ext w x := by
  have b1 := sq_bd hx hx'
  have b2 := sq_bd hy hy'
  have w1 : IntKind.i64.wrap (((x : Int) - x') * ((x : Int) - x')) = ((x : Int) - x') * ((x : Int) - x') := IntWalk.i64_in _ (by omega)
  have w2 : IntKind.i64.wrap (((y : Int) - y') * ((y : Int) - y')) = ((y : Int) - y') * ((y : Int) - y') := IntWalk.i64_in _ (by omega)
  have w3 : IntKind.i64.wrap (((x : Int) - x') * ((x : Int) - x') + ((y : Int) - y') * ((y : Int) - y')) = ((x : Int) - x') * ((x : Int) - x') + ((y : Int) - y') * ((y : Int) - y') := IntWalk.i64_in _ (by omega)
  have HB := Lib.hid (show ((((x : Int) - x') * ((x : Int) - x') + ((y : Int) - y') * ((y : Int) - y')) == 1) = decide (nearP x y x' y') by
    rw [Bool.eq_iff_iff, beq_iff_eq, decide_eq_true_eq]; exact near_sq)
  go_enter Tryz.func92, Tryz.ntmps92
  go_wp2_with fail
  go_ret
  exact ⟨ret_bool (by rw [← HB.out]), (by repeat first | apply wxr | with_reducible assumption | apply wxe | apply wxa | apply wxd)⟩
/-- a slice of cells that is built -/
theorem Held.newCells {W0 w : World} {L : List Row} (H : Held W0 w L) (cs : List (Int × Int)) (hl : cs.length ≤ maxLen) : Held W0 (w.alloc (.cells (cs.flatMap cv).toArray 95)) (rowC (.slice (some ⟨w.heap.size, 0, none⟩) cs.length cs.length) cs :: L) :=
  H.push ((Below.refl _ _).alloc (Nat.le_refl _) _) ⟨flat_len cs, .inr ⟨w.heap.size, cs.length, _, rfl, Nat.le_refl _, heap_alloc_new w _, Nat.le_refl _, hl, by rw [List.size_toArray, flat_len], by rw [List.toList_toArray, ← flat_len, List.take_length]⟩⟩
theorem l2Near_b (x y x' y' : Nat) (b : Bool) (hb : decide (nearP x y x' y') = b) (hx : x ≤ 64) (hy : y ≤ 64) (hx' : x' ≤ 64) (hy' : y' ≤ 64) (w : World) :
    Calls Tryz.prog 92 #[.agg #[.int .i64 x, .int .i64 y], .agg #[.int .i64 x', .int .i64 y']] w fun e w' => e = .returned (.bool b) ∧ ∃ x, w' = ext w x := hb ▸ l2Near_any x y x' y' hx hy hx' hy' w
def hcB (cs : List (Int × Int)) (x y : Int) : Bool := decide ((x, y) ∈ cs)
theorem hcB_cast {l : List (Nat × Nat)} {x y : Nat} : hcB (castP l) x y = decide ((x, y) ∈ l) := by
  unfold hcB
  rw [decide_eq_decide]
  constructor
  · intro h
    obtain ⟨c, hc, e⟩ := List.mem_map.1 h
    simp only [Prod.mk.injEq] at e
    have : c = (x, y) := Prod.ext (by omega) (by omega)
    rw [← this]; exact hc
  · intro h
    exact List.mem_map.2 ⟨_, h, rfl⟩
theorem cxy_mem {cs : List (Int × Int)} {x y : Int} : (x, y) ∈ cs ↔ ∃ k, k < cs.length ∧ cx cs k = x ∧ cy cs k = y := by
  constructor
  · intro h
    obtain ⟨k, hk, e⟩ := List.getElem_of_mem h
    refine ⟨k, hk, ?_, ?_⟩ <;> simp [cx, cy, List.getD, hk, e]
  · rintro ⟨k, hk, h1, h2⟩
    have e : cs[k] = (x, y) := by
      apply Prod.ext
      · rw [← h1]; simp [cx, List.getD, hk]
      · rw [← h2]; simp [cy, List.getD, hk]
    rw [← e]; exact List.getElem_mem hk
theorem specHas_any (cs : List (Int × Int)) (x y : Int) (v : Value) (w : World) (h : CellsAt w v cs) :
    Calls Tryz.prog 93 #[v, .int .i64 x, .int .i64 y] w fun e w' => e = .returned (.bool (hcB cs x y)) ∧ ∃ x, w' = ext w x := by
  obtain ⟨a, b, o, cap, rfl, hc1, hc2, hc3, hcell⟩ := h.opn
  go_enter Tryz.func93, Tryz.ntmps93
  go_wp2_with fail
  go_loopw [7] (fun i wr => ∃ k : Nat, k ≤ cs.length ∧ i = .int .i64 k ∧ Hid (∀ j, j < k → ¬ (cx cs j = x ∧ cy cs j = y)) ∧ ∃ x, wr = ext w x) (fun i _ => cs.length - (intOf i).toNat)
  case atStart => exact ⟨0, Nat.zero_le _, rfl, Lib.hid (fun j hj => absurd hj (by omega)), (by repeat first | apply wxr | with_reducible assumption | apply wxe | apply wxa | apply wxd)⟩
  case round =>
    obtain ⟨k, hk, rfl, HN, xr, rfl⟩ := hrel
    by_cases hlt : k < cs.length
    · obtain ⟨q1, q2, q3, q4⟩ := hcell k hlt
      clear hcell
      by_cases hx : cx cs k = x
      · have hx1 : (cx cs k == x) = true := by simp [hx]
        by_cases hy : cy cs k = y
        · have hy1 : (cy cs k == y) = true := by simp [hy]
          have HF := Lib.hid (show hcB cs x y = true from decide_eq_true (cxy_mem.2 ⟨k, hlt, hx, hy⟩))
          clear hx hy
          go_wp2_with fail
          go_ret
          exact ⟨ret_bool HF.out.symm, (by repeat first | apply wxr | with_reducible assumption | apply wxe | apply wxa | apply wxd)⟩
        · have hy1 : (cy cs k == y) = false := by simp [hy]
          have HF := Lib.hid (show ∀ j, j < k + 1 → ¬ (cx cs j = x ∧ cy cs j = y) from fun j hj => by
            by_cases e : j = k
            · subst e; exact fun h => hy h.2
            · exact HN.out j (by omega))
          clear hx hy
          go_wp2_with fail
          go_roundw
          case rel => exact ⟨k + 1, hlt, int_succ k, HF, (by repeat first | apply wxr | with_reducible assumption | apply wxe | apply wxa | apply wxd)⟩
          case measure => simp [intOf]; omega
      · have hx1 : (cx cs k == x) = false := by simp [hx]
        have HF := Lib.hid (show ∀ j, j < k + 1 → ¬ (cx cs j = x ∧ cy cs j = y) from fun j hj => by
          by_cases e : j = k
          · subst e; exact fun h => hx h.1
          · exact HN.out j (by omega))
        clear hx
        go_wp2_with fail
        go_roundw
        case rel => exact ⟨k + 1, hlt, int_succ k, HF, (by repeat first | apply wxr | with_reducible assumption | apply wxe | apply wxa | apply wxd)⟩
        case measure => simp [intOf]; omega
    · have HF := Lib.hid (show hcB cs x y = false from decide_eq_false fun h => by
        obtain ⟨j, hj, h1, h2⟩ := cxy_mem.1 h
        exact HN.out j (by omega) ⟨h1, h2⟩)
      go_wp2_with fail
      go_ret
      exact ⟨ret_bool HF.out.symm, (by repeat first | apply wxr | with_reducible assumption | apply wxe | apply wxa | apply wxd)⟩
theorem specHas_b (cs : List (Int × Int)) (x y : Int) (b : Bool) (hb : hcB cs x y = b) (v : Value) (w : World) (h : CellsAt w v cs) :
    Calls Tryz.prog 93 #[v, .int .i64 x, .int .i64 y] w fun e w' => e = .returned (.bool b) ∧ ∃ x, w' = ext w x := hb ▸ specHas_any cs x y v w h
def sidesV (x y : Int) : List (Int × Int) := [(x, y - 1), (x - 1, y), (x + 1, y), (x, y + 1)]
theorem sides_any (x y : Nat) (hx : x ≤ 64) (hy : y ≤ 64) (w : World) : Calls Tryz.prog 91 #[.agg #[.int .i64 x, .int .i64 y]] w (CellsPost w (sidesV x y)) := by
  have w1 : IntKind.i64.wrap ((x : Int) - 1) = (x : Int) - 1 := IntWalk.i64_in _ (by omega)
  have w2 : IntKind.i64.wrap ((y : Int) - 1) = (y : Int) - 1 := IntWalk.i64_in _ (by omega)
  go_enter Tryz.func91, Tryz.ntmps91
  go_wp2_with fail
  go_ret
  refine ⟨_, rfl, ?_⟩
  have H := (((Held.start w).newBox2 95 (.int .i64 x) (.int .i64 y)).newCells (sidesV x y) (by simp [sidesV, maxLen])).first
  rw [World.size_alloc] at H
  exact H
set_option maxRecDepth 100000 in
theorem l6Empty_any (wd : Int) (rows : List Int) (v : Value) (w : World) (h : IntsAt w v rows) (hl : rows.length ≤ 6) : Calls Tryz.prog 94 #[.agg #[.int .i64 wd, v]] w fun e w' => ∃ g, e = .returned (.agg #[.int .i64 wd, .slice (some ⟨g, 0, none⟩) rows.length rows.length]) ∧ Held w w' [rowT g rows.length fun _ => 0] := by
  obtain ⟨a, b, o, cap, rfl, hc1, hc2, hc3, hcell⟩ := h.opn
  have H0 := ((Held.start w).newBox2 26 (.int .i64 wd) (.slice a rows.length cap)).newBox2 26 (.int .i64 0) (.slice none 0 0)
  clear hcell
  go_enter Tryz.func94, Tryz.ntmps94
  go_wp2_with fail
  rw [World.size_alloc] at H0
  obtain ⟨k0, k1, k2, k3, k4⟩ := H0.readB2 1 rfl
  have HH := Lib.hid H0
  clear H0
  generalize World.alloc _ _ = w2 at HH k0 k1 k2 k3 k4 ⊢
  refine wp_region_held (S := fun w' => w'.cell? ⟨w.heap.size, 0, none⟩ = some (.int .i64 wd) ∧ w'.cell? ⟨w.heap.size, 1, none⟩ = some (.slice a rows.length cap)) (by kernel_rfl) ?_
  have H := HH.out.to (w' := w2.drew) (by repeat first | apply wxr | with_reducible assumption | apply wxe | apply wxa | apply wxd)
  change wpAnyH _ _ _ _ _ _ _ _ w2.drew
  obtain ⟨q0, q1, q2, q3, q4⟩ := H.readB2 1 rfl
  clear k0 k1 k2 k3 k4 HH
  generalize w2.drew = w3 at H q0 q1 q2 q3 q4 ⊢
  refine' takeS (i := 0) (v := _) rfl (by kernel_rfl) (by kernel_rfl) (by kernel_rfl) (fun _ _ _ h => h) (by kernel_rfl) (fun wb hwb => ?_) ⟨q0,q1⟩ ?_
  rotate_left
  · (obtain ⟨s0, s1⟩ := hwb; go_simp; try rfl)
  (try simp only [List.getElem_toArray]); (try simp only [List.getElem_cons_succ]); (try simp only [List.getElem_cons_zero]); (try simp only [Act.put]); (try simp only [List.setIfInBounds_toArray]); (try simp only [List.set_cons_succ]); (try simp only [List.set_cons_zero])
  refine' takeS (i := 1) (v := _) rfl (by kernel_rfl) (by kernel_rfl) (by kernel_rfl) (fun _ _ _ h => h) (by kernel_rfl) (fun wb hwb => ?_) ⟨q0,q1⟩ ?_
  rotate_left
  · (obtain ⟨s0, s1⟩ := hwb; go_simp; try rfl)
  (try simp only [List.getElem_toArray]); (try simp only [List.getElem_cons_succ]); (try simp only [List.getElem_cons_zero]); (try simp only [Act.put]); (try simp only [List.setIfInBounds_toArray]); (try simp only [List.set_cons_succ]); (try simp only [List.set_cons_zero])
  refine' takeS (i := 2) (v := _) rfl (by kernel_rfl) (by kernel_rfl) (by kernel_rfl) (fun _ _ _ h => h) (by kernel_rfl) (fun wb hwb => ?_) ⟨q0,q1⟩ ?_
  rotate_left
  · (obtain ⟨s0, s1⟩ := hwb; go_simp; try rfl)
  (try simp only [List.getElem_toArray]); (try simp only [List.getElem_cons_succ]); (try simp only [List.getElem_cons_zero]); (try simp only [Act.put]); (try simp only [List.setIfInBounds_toArray]); (try simp only [List.set_cons_succ]); (try simp only [List.set_cons_zero])
  refine' takeS (i := 3) (v := _) rfl (by kernel_rfl) (by kernel_rfl) (by kernel_rfl) (fun _ _ _ h => h) (by kernel_rfl) (fun wb hwb => ?_) ⟨q0,q1⟩ ?_
  rotate_left
  · (obtain ⟨s0, s1⟩ := hwb; go_simp; try rfl)
  (try simp only [List.getElem_toArray]); (try simp only [List.getElem_cons_succ]); (try simp only [List.getElem_cons_zero]); (try simp only [Act.put]); (try simp only [List.setIfInBounds_toArray]); (try simp only [List.set_cons_succ]); (try simp only [List.set_cons_zero])
  refine' takeS (i := 4) (v := _) rfl (by kernel_rfl) (by kernel_rfl) (by kernel_rfl) (fun _ _ _ h => h) (by kernel_rfl) (fun wb hwb => ?_) ⟨q0,q1⟩ ?_
  rotate_left
  · (obtain ⟨s0, s1⟩ := hwb; go_simp; try rfl)
  (try simp only [List.getElem_toArray]); (try simp only [List.getElem_cons_succ]); (try simp only [List.getElem_cons_zero]); (try simp only [Act.put]); (try simp only [List.setIfInBounds_toArray]); (try simp only [List.set_cons_succ]); (try simp only [List.set_cons_zero])
  refine nextE (i := 5) rfl (by kernel_rfl) (by kernel_rfl) (fun K' hK' => ?_)
  refine opwp_make_any _ _ _ rfl elemInt H .i64 .i64 _ _ rows.length rfl rfl rfl rfl (by omega) (by unfold maxLen; omega) ?_
  intro g w4 H4 hg4
  replace H4 := H4.zeros
  obtain ⟨q0, q1, q2, q3, q4⟩ := H4.readB2 2 rfl
  refine hK'.out _ _ ⟨q0, q1⟩ ?_
  clear hK' K'
  refine' takeS (i := 6) (v := _) rfl (by kernel_rfl) (by kernel_rfl) (by kernel_rfl) (fun _ _ _ h => h) (by kernel_rfl) (fun wb hwb => ?_) ⟨q0,q1⟩ ?_
  rotate_left
  · (obtain ⟨s0, s1⟩ := hwb; go_simp; try rfl)
  (try simp only [List.getElem_toArray]); (try simp only [List.getElem_cons_succ]); (try simp only [List.getElem_cons_zero]); (try simp only [Act.put]); (try simp only [List.setIfInBounds_toArray]); (try simp only [List.set_cons_succ]); (try simp only [List.set_cons_zero])
  refine nextE (i := 7) rfl (by kernel_rfl) (by kernel_rfl) (fun K' hK' => ?_)
  obtain ⟨k0, k1, k2, k3, k4⟩ := H4.readB2 1 rfl
  simp only [List.set_cons_succ, List.set_cons_zero]
  go_wp2_with fail
  have K := (H4.pull 1 rfl).setBox2 (.int .i64 wd) (.slice (some ⟨g, 0, none⟩) rows.length rows.length)
  obtain ⟨q0, q1, q2, q3, q4⟩ := K.readB2 2 rfl
  obtain ⟨m0, m1, m2, m3, m4⟩ := K.readB2 0 rfl
  refine hK'.out _ _ ⟨q0, q1⟩ ?_
  clear hK' K'
  refine wpAnyH_done (by kernel_rfl) ?_ _
  go_wp2_with fail
  refine bodyPost_ret (v := .agg #[.int .i64 wd, .slice (some ⟨g, 0, none⟩) rows.length rows.length]) (by simp [results, Tryz.results94, go_sem, m0, m1]) rfl ⟨g, rfl, (K.pull 1 rfl).first⟩
end
section
open Go.ChangeShapes Go.WideShapes Go.ChangeAt Go.RowKit
theorem infoReg : (Tryz.prog.info? 26).map (fun i => i.size) = some 2 := by kernel_rfl
theorem infoReg3 : (Tryz.prog.info? 26).map (fun i => (i.zero, i.size, i.bytes)) = some (some (.agg #[.int .i64 0, .slice none 0 0]), 2, 32) := by kernel_rfl
theorem elemReg : Elem Tryz.prog 34 26 2 32 (.agg #[.int .i64 0, .slice none 0 0]) := ⟨Tryz.underlying34, infoReg3, rfl, by decide⟩
/-- the cells of regions: widths and slices of rows -/
def cellsG (ws : List Int) (vs : List Value) : List Value := (List.zipWith (fun wd u => [iv wd, u]) ws vs).flatten
theorem cellsG_snoc {ws : List Int} {vs : List Value} (h : ws.length = vs.length) (wd : Int) (u : Value) : cellsG (ws ++ [wd]) (vs ++ [u]) = cellsG ws vs ++ [.int .i64 wd, u] := by
  simp [cellsG, List.zipWith_append h, iv]
theorem cellsG_at : ∀ {ws : List Int} {vs : List Value} {k : Nat}, ws.length = vs.length → k < vs.length → (cellsG ws vs)[k * 2 + 0]? = some (.int .i64 (nth ws k)) ∧ (cellsG ws vs)[k * 2 + 1]? = some (vAt vs k)
  | [], [], _, _, h => by simp at h
  | w :: ws, v :: vs, 0, _, _ => by simp [cellsG, nth, vAt, iv]
  | w :: ws, v :: vs, k + 1, h, hk => by
    have := cellsG_at (ws := ws) (vs := vs) (k := k) (by simpa using h) (by simpa using hk)
    rw [show (k + 1) * 2 + 0 = (k * 2 + 0) + 1 + 1 by omega, show (k + 1) * 2 + 1 = (k * 2 + 1) + 1 + 1 by omega]
    simpa [cellsG, nth, vAt] using this
  | [], _ :: _, _, h, _ => by simp at h
  | _ :: _, [], _, h, _ => by simp at h
def RegsAt (w : World) (v : Value) (ws : List Int) (xss : List (List Int)) : Prop :=
  ∃ vs : List Value, vs.length = xss.length ∧ ws.length = xss.length ∧ Sl w 2 v xss.length (cellsG ws vs) ∧ ∀ k, k < xss.length → IntsAt w (vAt vs k) (rAt xss k)
theorem RegsAt.mono {w w' : World} {v : Value} {ws : List Int} {xss : List (List Int)} (h : RegsAt w v ws xss) (hb : Below w.heap.size w w') : RegsAt w' v ws xss := by
  obtain ⟨vs, h1, h2, h3, h4⟩ := h
  exact ⟨vs, h1, h2, h3.mono hb, fun k hk => (h4 k hk).mono hb⟩
theorem RegsAt.opn {w : World} {v : Value} {ws : List Int} {xss : List (List Int)} (h : RegsAt w v ws xss) :
    ∃ a b o cap vs, v = .slice a xss.length cap ∧ xss.length ≤ cap ∧ xss.length ≤ 9223372036854775807 ∧ cap ≤ 9223372036854775807 ∧ ∀ k, k < xss.length → Old w b ∧ (∀ w', (Instr.indexAt 34 (.slice a xss.length cap) (.int .i64 k)).run Tryz.prog w' = .ok (.pointer (some ⟨b, o + k * 2, none⟩)) w') ∧
      w.cell? ⟨b, o + k * 2, none⟩ = some (.int .i64 (nth ws k)) ∧ w.cell? ⟨b, o + k * 2 + 1, none⟩ = some (vAt vs k) ∧ IntsAt w (vAt vs k) (rAt xss k) := by
  obtain ⟨vs, e1, e2, h0, hr⟩ := h
  obtain ⟨a, b, o, cap, rfl, h1, h2, h3, h4⟩ := Sl.idx h0 Tryz.underlying34 infoReg
  refine ⟨a, b, o, cap, vs, rfl, h1, h2, h3, fun k hk => ?_⟩
  obtain ⟨g1, g2, g3⟩ := h4 k hk
  obtain ⟨c1, c2⟩ := cellsG_at (ws := ws) (vs := vs) (k := k) (by omega) (by omega)
  refine ⟨g1, g2, ?_, ?_, hr k hk⟩
  · have := g3 0 (by omega)
    rw [Nat.add_zero] at this
    rw [this]; exact c1
  · rw [g3 1 (by omega)]; exact c2
/-- a slice of regions that the call has made: the outer row and the regions' rows -/
def grpG (v : Value) (ws : List Int) (vs : List Value) (xss : List (List Int)) : List Row := ⟨v, 26, 2, xss.length, cellsG ws vs⟩ :: rowsI vs xss
theorem Held.regs {W0 w : World} {L : List Row} {v : Value} {ws : List Int} {vs : List Value} {xss : List (List Int)} (H : Held W0 w (grpG v ws vs xss ++ L)) (hl : vs.length = xss.length) (hw : ws.length = xss.length) : RegsAt w v ws xss :=
  ⟨vs, hl, hw, Held.sl H (List.mem_append_left _ List.mem_cons_self), fun _ hk => Held.sl H (List.mem_append_left _ (List.mem_cons_of_mem _ (rowsI_mem hl hk)))⟩
theorem one_reg (wd : Int) (a : Option Addr) (n c : Nat) : ∀ u ∈ [Value.int .i64 wd, Value.slice a n c], u.oneCell' = true := by
  intro u hu; simp at hu; rcases hu with rfl | rfl <;> rfl
theorem Held.nilG {W0 w : World} {L : List Row} (H : Held W0 w L) : Held W0 w (grpG (.slice none 0 0) [] [] [] ++ L) := ⟨H.bel, (fun r hr => by
  rcases List.mem_cons.1 hr with rfl | hr
  · exact World.ownsRow_nil _ _ _ _
  · exact H.own r hr), List.Pairwise.cons (fun r hr g hg => by simp [Value.ownBlock] at hg) H.apart⟩
theorem Held.snocG {W0 w : World} {L : List Row} {v u : Value} {ws : List Int} {vs : List Value} {xss : List (List Int)} {xs : List Int} {wd : Int} (hl : vs.length = xss.length) (hw : ws.length = xss.length)
    (H : Held W0 w (⟨v, 26, 2, xss.length + 1, cellsG ws vs ++ [.int .i64 wd, u]⟩ :: rowI u xs :: (rowsI vs xss ++ L))) : Held W0 w (grpG v (ws ++ [wd]) (vs ++ [u]) (xss ++ [xs]) ++ L) := by
  have e : grpG v (ws ++ [wd]) (vs ++ [u]) (xss ++ [xs]) ++ L = ⟨v, 26, 2, xss.length + 1, cellsG ws vs ++ [.int .i64 wd, u]⟩ :: (rowsI vs xss ++ (rowI u xs :: L)) := by
    rw [grpG, rowsI_snoc _ _ _ _ hl, cellsG_snoc (by omega)]; simp
  rw [e]
  exact H.front (List.Perm.cons _ (List.perm_middle (a := rowI u xs) (l₁ := rowsI vs xss) (l₂ := L)).symm)
/-- a fresh slice of regions of one width -/
def RegsPost (w : World) (ws : List Int) (xss : List (List Int)) (e : Ending) (w' : World) : Prop := ∃ v' vs, e = .returned v' ∧ vs.length = xss.length ∧ ws.length = xss.length ∧ Held w w' (grpG v' ws vs xss)
end
section
open Go.ChangeShapes Go.WideShapes Go.ChangeAt Go.RowKit
theorem implCells_any (wd : Int) (rows : List Int) (v : Value) (w : World) (h : IntsAt w v rows) :
    Calls Tryz.prog 38 #[.agg #[.int .i64 wd, v]] w (CellsPost w (cellsV wd rows)) := by
  have h0 := h
  obtain ⟨a, b, o, cap, rfl, hc1, hc2, hc3, hcell⟩ := h.opn
  have h1 := h0.alloc (.cells #[.int .i64 wd, .slice a rows.length cap] 26)
  clear hcell
  cases hr : regB wd rows
  · have HF := Lib.hid (cellsV_no hr)
    go_enter Tryz.func38, Tryz.ntmps38
    go_wp2_with (first | (go_at_call 15; refine (isRegion_any _ _ _ _ h1).mono ?_; rintro e w' ⟨rfl, xe, rfl⟩))
    go_ret
    exact .nil HF.out (by repeat first | apply wxr | with_reducible assumption | apply wxe | apply wxa | apply wxd)
  obtain ⟨W, rfl, hW1, hW2, hl1, hl2, hrow⟩ := regB_bd hr
  have HF := Lib.hid (cellsV_yes hr)
  have HR := Lib.hid hr
  clear hrow
  go_enter Tryz.func38, Tryz.ntmps38
  go_wp2_with (first | (go_at_call 15; refine (isRegion_any _ _ _ _ h1).mono ?_; rintro e w' ⟨rfl, xe, rfl⟩) | (go_at_call 89; refine (cells_any _ rows _ _ (h1.mono (bel_of_ext (by repeat first | apply wxr | with_reducible assumption | apply wxe | apply wxa | apply wxd))) HR.out).mono ?_; rintro e w' ⟨v', rfl, H⟩))
  go_ret
  exact .got HF.out (Held.unbox (H.base (bel_of_ext (by repeat first | apply wxr | with_reducible assumption | apply wxe | apply wxa | apply wxd))))
theorem l6In_b (W : Nat) (rows : List Int) (x y : Nat) (b : Bool) (v : Value) (w : World) (h : IntsAt w v rows) (hr : regB W rows = true) (hx : x < W) (hy : y < rows.length) (hb : (rowN rows y).testBit x = b) :
    Calls Tryz.prog 84 #[.agg #[.int .i64 W, v], .int .i64 x, .int .i64 y] w fun e w' => e = .returned (.bool b) ∧ ∃ x, w' = ext w x := by
  have := l6In_any W rows x y v w h hr
  rwa [hasB_at hx hy, hb] at this
set_option maxHeartbeats 2000000 in
theorem specCells_any (wd : Int) (rows : List Int) (v : Value) (w : World) (h : IntsAt w v rows) :
    Calls Tryz.prog 39 #[.agg #[.int .i64 wd, v]] w (CellsPost w (cellsV wd rows)) := by
  have h0 := h
  obtain ⟨a, b, o, cap, rfl, hc1, hc2, hc3, hcell⟩ := h.opn
  have h1 := h0.alloc (.cells #[.int .i64 wd, .slice a rows.length cap] 26)
  have H0 := (Held.start (w.alloc (.cells #[.int .i64 wd, .slice a rows.length cap] 26))).empty 95 2
  rw [World.size_alloc] at H0
  clear hcell
  cases hr : regB wd rows
  · have HF := Lib.hid (cellsV_no hr)
    go_enter Tryz.func39, Tryz.ntmps39
    go_wp2_with fail
    go_loopw [3, 4] (fun u i wr => u = .slice (some ⟨w.heap.size + 1, 0, none⟩) 0 0 ∧ i = .int .i64 0 ∧ Held (w.alloc (.cells #[.int .i64 wd, .slice a rows.length cap] 26)) wr [⟨.slice (some ⟨w.heap.size + 1, 0, none⟩) 0 0, 95, 2, 0, []⟩]) (fun _ _ _ => 0)
    case atStart => exact ⟨rfl, rfl, H0⟩
    case round =>
      clear H0
      obtain ⟨rfl, rfl, H⟩ := hrel
      obtain ⟨kb0, kb1⟩ := H.box2
      by_cases hp : 0 < rows.length
      · go_wp2_with (first | (go_at_call 14; refine (specIsRegion_any _ _ _ _ (h1.mono H.bel)).mono ?_; rintro e w' ⟨rfl, xe, rfl⟩))
        go_ret
        exact .empty HF.out (H.to (by repeat first | apply wxr | with_reducible assumption | apply wxe | apply wxa | apply wxd)).unbox
      · have hz : rows.length ≤ 0 := by omega
        go_wp2_with fail
        go_ret
        exact .empty HF.out H.unbox
  obtain ⟨W, rfl, hW1, hW2, hl1, hl2, hrow⟩ := regB_bd hr
  have HF := Lib.hid (cellsV_yes hr)
  have HR := Lib.hid hr
  clear hrow
  go_enter Tryz.func39, Tryz.ntmps39
  go_wp2_with fail
  go_loopw [3, 4] (fun u i wr => ∃ (r : Value) (k : Nat), r = u ∧ k ≤ rows.length ∧ i = .int .i64 k ∧ Held (w.alloc (.cells #[.int .i64 W, .slice a rows.length cap] 26)) wr [rowC r (cTo W rows k)]) (fun _ i _ => rows.length - (intOf i).toNat)
  case atStart => exact ⟨_, 0, rfl, Nat.zero_le _, rfl, H0⟩
  case round =>
    clear H0
    obtain ⟨r, y, rfl, hy, rfl, H⟩ := hrel
    obtain ⟨kb0, kb1⟩ := H.box2
    by_cases hlt : y < rows.length
    · go_wp2_with (first | (go_at_call 14; refine (specIsRegion_any _ _ _ _ (h1.mono H.bel)).mono ?_; rintro e w' ⟨rfl, xe, rfl⟩; have H2 := Lib.hid (H.ext xe); clear H kb0 kb1))
      go_loopw [3, 5] (fun u i wr2 => ∃ (r : Value) (x : Nat), r = u ∧ x ≤ W ∧ i = .int .i64 x ∧ Held (w.alloc (.cells #[.int .i64 W, .slice a rows.length cap] 26)) wr2 [rowC r (cRow rows y (cTo W rows y) x)]) (fun _ i _ => W - (intOf i).toNat)
      case atStart => exact ⟨_, 0, rfl, Nat.zero_le _, rfl, H2.out⟩
      case round =>
        clear H2
        obtain ⟨r, x, rfl, hx, rfl, H⟩ := hrel
        obtain ⟨kb0, kb1⟩ := H.box2
        by_cases hlt2 : x < W
        · have hlen := cRow_36 (W := W) (rows := rows) (y := y) (x := x) hW2 (by omega) hx
          cases hb : (rowN rows y).testBit x
          · have HB := Lib.hid hb
            clear hb
            go_wp2_with (first | (go_at_call 84; refine (l6In_b W rows _ _ false _ _ (h1.mono H.bel) HR.out hlt2 hlt HB.out).mono ?_; rintro e w' ⟨rfl, xe, rfl⟩))
            go_roundw
            case rel => exact ⟨r, x + 1, rfl, hlt2, int_succ x, by rw [cRow_f _ HB.out]; exact H.to (by repeat first | apply wxr | with_reducible assumption | apply wxe | apply wxa | apply wxd)⟩
            case measure => simp [intOf]; omega
          · have HB := Lib.hid hb
            clear hb
            go_wp2_with (first | (go_at_call 84; refine (l6In_b W rows _ _ true _ _ (h1.mono H.bel) HR.out hlt2 hlt HB.out).mono ?_; rintro e w' ⟨rfl, xe, rfl⟩) | (at_builtin; refine wpList_append_held (m := 1) rfl _ _ _ rfl elemCell (H.to (by repeat first | apply wxr | with_reducible assumption | apply wxe | apply wxa | apply wxd)) rfl rfl (Sl_cell _ _ _ _) (one_cell _ _) (by unfold maxLen; omega) (by omega) ?_; intro v' w' H; have H := H.snocC))
            go_roundw
            case rel => exact ⟨v', x + 1, rfl, hlt2, int_succ x, by rw [cRow_t _ HB.out]; exact H⟩
            case measure => simp [intOf]; omega
        · rw [show x = W by omega, ← cTo_succ] at H
          have HH := Lib.hid H
          clear H
          go_wp2_with fail
          go_roundw
          case rel => exact ⟨r, y + 1, rfl, hlt, int_succ y, HH.out⟩
          case measure => simp [intOf]; omega
    · rw [show y = rows.length by omega] at H
      have HH := Lib.hid H.unbox
      clear H
      go_wp2_with fail
      go_ret
      exact .got HF.out HH.out
end
section
open Go.ChangeShapes Go.WideShapes Go.ChangeAt Go.RowKit
def slLen : Value → Nat
  | .slice _ n _ => n
  | _ => 0
theorem CellsAt.opnP {w : World} {v : Value} {l : List (Nat × Nat)} (h : CellsAt w v (castP l)) :
    ∃ a b o cap, v = .slice a l.length cap ∧ l.length ≤ cap ∧ l.length ≤ 9223372036854775807 ∧ cap ≤ 9223372036854775807 ∧ ∀ k, k < l.length → Old w b ∧ (∀ w', (Instr.indexAt 41 (.slice a l.length cap) (.int .i64 k)).run Tryz.prog w' = .ok (.pointer (some ⟨b, o + k * 2, none⟩)) w') ∧
      w.cell? ⟨b, o + k * 2, none⟩ = some (.int .i64 (pxN l k : Nat)) ∧ w.cell? ⟨b, o + k * 2 + 1, none⟩ = some (.int .i64 (pyN l k : Nat)) := by
  obtain ⟨a, b, o, cap, rfl, h1, h2, h3, h4⟩ := h.opn
  rw [castP_len] at h1 h2 h4
  refine ⟨a, b, o, cap, by rw [castP_len], h1, h2, h3, fun k hk => ?_⟩
  obtain ⟨g1, g2, g3, g4⟩ := h4 k hk
  rw [castP_cx] at g3
  rw [castP_cy] at g4
  exact ⟨g1, g2, g3, g4⟩
/-- the parts of a region -/
def PartsV (wd : Int) (rows : List Int) (ps : List (List Int)) : Prop := if regB wd rows then PartsR wd.toNat rows.length ps (inL (cellsN wd.toNat rows)) else ps = []
theorem PartsV.one {wd : Int} {rows : List Int} {ps qs : List (List Int)} (h : PartsV wd rows ps) (k : PartsV wd rows qs) : ps = qs := by
  unfold PartsV at h k
  split at h
  · rename_i hr
    rw [if_pos hr] at k
    exact h.one k
  · rename_i hr
    rw [if_neg hr] at k
    rw [h, k]
theorem PartsV_no {wd : Int} {rows : List Int} (h : regB wd rows = false) : PartsV wd rows [] := by simp [PartsV, h]
theorem PartsV_yes {W : Nat} {rows : List Int} {ps : List (List Int)} (h : regB W rows = true) (hp : PartsR W rows.length ps (inL (cellsN W rows))) : PartsV W rows ps := by simp only [PartsV, h, if_true, Int.toNat_natCast]; exact hp
structure OutOK (W H : Nat) (S : Nat → Nat → Prop) (ps : List (List Int)) (left : List (Nat × Nat)) : Prop where
  ord : left.Pairwise ordP
  bd : ∀ c ∈ left, c.1 < W ∧ c.2 < H
  rest : ∀ qs, PartsR W H qs (inL left) → PartsR W H (ps ++ qs) S
  len : ps.length + left.length ≤ 36
  row : ∀ p ∈ ps, p.length = H
theorem ord_nodup {l : List (Nat × Nat)} (h : l.Pairwise ordP) : l.Nodup := h.imp fun {c d} hcd e => by
  subst e
  simp only [ordP] at hcd
  omega
theorem OutOK.next {W H : Nat} {S : Nat → Nat → Prop} {ps : List (List Int)} {l part : List (Nat × Nat)} {a b : Nat} (O : OutOK W H S ps ((a, b) :: l)) (G : Grow ((a, b) :: l) a b part) (hs : SeenG ((a, b) :: l) part part.length) :
    OutOK W H S (ps ++ [tab H (intF (rwF part part.length))]) (((a, b) :: l).filter fun c => decide (c ∉ part)) := by
  refine ⟨O.ord.filter _, fun c hc => O.bd c (List.mem_filter.1 hc).1, fun qs hq => ?_, ?_, fun p hp => ?_⟩
  · have := O.rest _ (parts_cons (First_head O.ord) G hs O.bd hq)
    rwa [List.append_assoc]
  · have h1 := O.len
    have h2 : (((a, b) :: l).filter fun c => decide (c ∉ part)).length ≤ l.length := by
      have e : ((a, b) :: l).filter (fun c => decide (c ∉ part)) = l.filter fun c => decide (c ∉ part) := List.filter_cons_of_neg (by simp [G.own])
      rw [e]; exact List.length_filter_le _ _
    simp only [List.length_append, List.length_cons, List.length_nil] at h1 ⊢
    omega
  · rcases List.mem_append.1 hp with h | h
    · exact O.row p h
    · simp at h; subst h; exact tab_len _ _
theorem OutOK.nextL {W H : Nat} {S : Nat → Nat → Prop} {ps : List (List Int)} {left part : List (Nat × Nat)} (O : OutOK W H S ps left) (h0 : 0 < left.length) (G : Grow left (pxN left 0) (pyN left 0) part) (hs : SeenG left part part.length) :
    OutOK W H S (ps ++ [tab H (intF (rwF part part.length))]) (left.filter fun c => decide (c ∉ part)) := by
  cases left with
  | nil => simp at h0
  | cons c l => exact OutOK.next (a := c.1) (b := c.2) O G hs
theorem OutOK.done {W H : Nat} {S : Nat → Nat → Prop} {ps : List (List Int)} (O : OutOK W H S ps []) : PartsR W H ps S := by
  have := O.rest [] (fun x y h => by simp [inL] at h)
  rwa [List.append_nil] at this
theorem OutOK.first {W : Nat} {rows : List Int} (hr : regB W rows = true) : OutOK W rows.length (inL (cellsN W rows)) [] (cellsN W rows) := by
  obtain ⟨W', e, h1, h2, h3, h4, _⟩ := regB_bd hr
  obtain rfl : W = W' := by omega
  refine ⟨cellsN_ord W rows, fun c hc => ?_, fun qs h => h, ?_, fun p hp => by simp at hp⟩
  · obtain ⟨x, y⟩ := c
    have := cellsN_mem.1 hc
    exact ⟨this.2.1, this.1⟩
  · have := cellsR_36 (W := W) (rows := rows) h2 h4
    rw [← cellsN_cast, castP_len] at this
    simpa using this
/-- what is not in the part, of the first k -/
def restTo (left part : List (Nat × Nat)) (k : Nat) : List (Nat × Nat) := (left.take k).filter fun c => decide (c ∉ part)
theorem restTo_in {left part : List (Nat × Nat)} {k : Nat} (h : k < left.length) (hc : (pxN left k, pyN left k) ∈ part) : restTo left part (k + 1) = restTo left part k := by
  rw [restTo, restTo, List.take_add_one, List.getElem?_eq_getElem h, pN_get h, List.filter_append]
  simp [hc]
theorem restTo_out {left part : List (Nat × Nat)} {k : Nat} (h : k < left.length) (hc : (pxN left k, pyN left k) ∉ part) : restTo left part (k + 1) = restTo left part k ++ [(pxN left k, pyN left k)] := by
  rw [restTo, restTo, List.take_add_one, List.getElem?_eq_getElem h, pN_get h, List.filter_append]
  simp [hc]
theorem restTo_all (left part : List (Nat × Nat)) : restTo left part left.length = left.filter fun c => decide (c ∉ part) := by rw [restTo, List.take_length]
theorem restTo_len (left part : List (Nat × Nat)) (k : Nat) : (restTo left part k).length ≤ left.length := by
  have h1 := List.length_filter_le (fun c => decide (c ∉ part)) (left.take k)
  rw [List.length_take] at h1
  unfold restTo
  omega
theorem rwStep {W0 w : World} {L : List Row} {g H : Nat} {part : List (Nat × Nat)} {k : Nat} (K : Held W0 w (rowT g H (intF (rwF part k)) :: L)) (hY : pyN part k < H) :
    w.cell? ⟨g, pyN part k, none⟩ = some (.int .i64 ((rwF part k (pyN part k) : Nat) : Int)) ∧ w.frozen? ⟨g, pyN part k, none⟩ = false ∧ Held W0 (w.setCell ⟨g, pyN part k, none⟩ (.int .i64 ((orN (rwF part k (pyN part k)) (shlN 1 (pxN part k)) : Nat) : Int))) (rowT g H (intF (rwF part (k + 1))) :: L) := by
  obtain ⟨k1, k2⟩ := K.cellRow hY
  refine ⟨k1, k2, ?_⟩
  rw [rwF_succ, putF, ← intF_upd]
  exact K.storeRow _ _
def PartsPost (w : World) (wd : Int) (rows : List Int) (e : Ending) (w' : World) : Prop := ∃ ps, PartsV wd rows ps ∧ ps.length ≤ 36 ∧ (∀ p ∈ ps, p.length ≤ 6) ∧ RegsPost w (List.replicate ps.length wd) ps e w'
set_option maxRecDepth 100000 in
set_option maxHeartbeats 16000000 in
theorem specPo_any (wd : Int) (rows : List Int) (v : Value) (w : World) (h : IntsAt w v rows) : Calls Tryz.prog 19 #[.agg #[.int .i64 wd, v]] w (PartsPost w wd rows) := by
  have h0 := h
  obtain ⟨a, b, o, cap, rfl, hc1, hc2, hc3, hcell⟩ := h.opn
  have h1 := h0.alloc (.cells #[.int .i64 wd, .slice a rows.length cap] 26)
  have H0 := (Held.start (w.alloc (.cells #[.int .i64 wd, .slice a rows.length cap] 26))).empty 26 2
  rw [World.size_alloc] at H0
  clear hcell h
  cases hr : regB wd rows
  · have HF := Lib.hid (cellsV_no hr)
    have HP := Lib.hid (PartsV_no hr)
    have HL := Lib.hid H0
    obtain ⟨kb0, kb1⟩ := H0.box2
    clear H0
    go_enter Tryz.func19, Tryz.ntmps19
    go_wp2_with (first | (go_at_call 39; refine (specCells_any _ _ _ _ (h1.mono (HL.out.to (by repeat first | apply wxr | with_reducible assumption | apply wxe | apply wxa | apply wxd)).bel)).mono ?_; rintro e w' ⟨u, rfl, K⟩; have HX := Lib.hid (ext_of K.bel); obtain ⟨ua, uc, rfl⟩ := K.rowCV))
    have HE := Lib.hid (show (cellsV wd rows).length = 0 by rw [HF.out]; rfl)
    obtain ⟨n0, hn0⟩ : ∃ n0, n0 = (cellsV wd rows).length := ⟨_, rfl⟩
    rw [← hn0]
    obtain rfl : n0 = 0 := by rw [hn0]; exact HE.out
    clear hn0 K
    go_loopw [3, 4] (fun u l wr => u = .slice (some ⟨w.heap.size + 1, 0, none⟩) 0 0 ∧ l = .slice ua 0 uc ∧ wr = w') (fun _ _ _ => 0)
    case atStart => exact ⟨rfl, rfl, rfl⟩
    case round =>
      obtain ⟨rfl, rfl, rfl⟩ := hrel
      have HK := Lib.hid (HL.out.unbox.to HX.out)
      go_wp2_with fail
      go_ret
      exact ⟨[], HP.out, by simp, by simp, _, [], rfl, rfl, rfl, HK.out⟩
  obtain ⟨W, rfl, hW1, hW2, hl1, hl2, hrow⟩ := regB_bd hr
  have HR := Lib.hid hr
  have HO := Lib.hid (OutOK.first hr)
  have HC := Lib.hid (show cellsV W rows = castP (cellsN W rows) by rw [cellsV_yes hr, cellsN_cast])
  have HL := Lib.hid H0
  obtain ⟨kb0, kb1⟩ := H0.box2
  clear H0 hrow hr
  have SC := Lib.hid (fun v w h => (specCells_any W rows v w h))
  rw [HC.out] at SC
  go_enter Tryz.func19, Tryz.ntmps19
  go_wp2_with (first | (go_at_call 39; refine (SC.out _ _ (h1.mono (HL.out.to (by repeat first | apply wxr | with_reducible assumption | apply wxe | apply wxa | apply wxd)).bel)).mono ?_; rintro e w' ⟨u, rfl, K⟩; have H1 := Lib.hid ((HL.out.to (by repeat first | apply wxr | with_reducible assumption | apply wxe | apply wxa | apply wxd)).join K); obtain ⟨ua, uc, rfl⟩ := K.rowCV; clear K))
  rw [castP_len]
  have hlc := castP_len (cellsN W rows)
  go_loopw [3, 4] (fun u l wr => ∃ (vo : Value) (vs : List Value) (ps : List (List Int)) (lv : Value) (left : List (Nat × Nat)), vo = u ∧ lv = l ∧ slLen l = left.length ∧ vs.length = ps.length ∧ Hid (OutOK W rows.length (inL (cellsN W rows)) ps left) ∧ Held (w.alloc (.cells #[.int .i64 W, .slice a rows.length cap] 26)) wr (grpG vo (List.replicate ps.length (W : Int)) vs ps ++ [rowC lv (castP left)])) (fun _ l _ => slLen l)
  case atStart =>
    refine ⟨_, [], [], _, cellsN W rows, rfl, rfl, rfl, rfl, HO, ?_⟩
    have := H1.out.swap
    rw [hlc] at this
    exact this
  case round =>
    clear H1 HO kb0 kb1 hlc
    obtain ⟨vo, vs, ps, lv, left, rfl, rfl, hln, hvs, HO, H⟩ := hrel
    have hmem0 : rowC lv (castP left) ∈ grpG vo (List.replicate ps.length (W : Int)) vs ps ++ [rowC lv (castP left)] := List.mem_append_right _ List.mem_cons_self
    obtain ⟨al, bl, ol, cl, rfl, l1, l2, l3, lcell⟩ := (H.cells hmem0).opnP
    obtain ⟨kb0, kb1⟩ := H.box2
    have hbo := H.boxOld
    have hle36 : left.length ≤ 36 := by have := HO.out.len; omega
    have hps36 : ps.length ≤ 36 := by have := HO.out.len; omega
    by_cases h0 : 0 < left.length
    · obtain ⟨s1, s2, s3, s4⟩ := lcell 0 h0
      rw [show ol + 0 * 2 = ol by omega] at s3 s4
      replace s2 : ∀ w', (Instr.indexAt 41 (.slice al left.length cl) (.int .i64 0)).run Tryz.prog w' = .ok (.pointer (some ⟨bl, ol, none⟩)) w' := fun w' => by have := s2 w'; rwa [show ol + 0 * 2 = ol by omega] at this
      obtain ⟨fa, hfa⟩ : ∃ fa, fa = pxN left 0 := ⟨_, rfl⟩
      obtain ⟨fb, hfb⟩ : ∃ fb, fb = pyN left 0 := ⟨_, rfl⟩
      rw [← hfa] at s3
      rw [← hfb] at s4
      have HG0 := Lib.hid (show Grow left fa fb [(fa, fb)] from Grow.start (by rw [hfa, hfb]; exact pN_mem h0))
      have HBD := Lib.hid HO.out.bd
      have HFA := Lib.hid (And.intro hfa hfb)
      obtain ⟨X, hX⟩ : ∃ X, X = grpG vo (List.replicate ps.length (W : Int)) vs ps ++ [rowC (.slice al left.length cl) (castP left)] := ⟨_, rfl⟩
      rw [← hX] at H hmem0
      have HXE := Lib.hid hX
      have HM := Lib.hid hmem0
      have HP1 := Lib.hid (H.newCells (castP [(fa, fb)]) (by simp [castP, maxLen]))
      clear lcell H hX hmem0 hfa hfb
      go_wp2_with fail
      go_loopw [5, 6] (fun u i wr2 => ∃ (pv : Value) (part : List (Nat × Nat)) (q : Nat), pv = u ∧ i = .int .i64 q ∧ q ≤ part.length ∧ Hid (Grow left fa fb part) ∧ Hid (SeenG left part q) ∧ Held (w.alloc (.cells #[.int .i64 W, .slice a rows.length cap] 26)) wr2 (rowC pv (castP part) :: X)) (fun _ i _ => left.length - (intOf i).toNat)
      case atStart => exact ⟨_, [(fa, fb)], 0, rfl, rfl, Nat.zero_le _, HG0, Lib.hid (fun j hj => absurd hj (by omega)), HP1.out⟩
      case round =>
        clear HP1 s1 s2 s3 s4 kb0 kb1 hbo
        obtain ⟨pv, part, q, rfl, rfl, hq, HG, HSG, H⟩ := hrel
        have hpl := HG.out.len
        by_cases hlt : q < part.length
        · obtain ⟨ap, cp, hpv⟩ := H.rowCV
          rw [castP_len] at hpv
          subst hpv
          have HH := Lib.hid H
          clear H
          go_wp2_with fail
          go_loopw [5, 7] (fun u k wr3 => ∃ (pv : Value) (part : List (Nat × Nat)) (kk : Nat), pv = u ∧ k = .int .i64 kk ∧ kk ≤ left.length ∧ q < part.length ∧ Hid (Grow left fa fb part) ∧ Hid (SeenG left part q) ∧ Hid (SeenK left part q kk) ∧ Held (w.alloc (.cells #[.int .i64 W, .slice a rows.length cap] 26)) wr3 (rowC pv (castP part) :: X)) (fun _ k _ => left.length - (intOf k).toNat)
          case atStart => exact ⟨_, part, 0, rfl, rfl, Nat.zero_le _, hlt, HG, HSG, Lib.hid (fun j hj => absurd hj (by omega)), HH.out⟩
          case round =>
            clear HH HG HSG hpl hq hlt
            obtain ⟨pv, part, kk, rfl, rfl, hkk, hlt, HG, HSG, HSK, H⟩ := hrel
            have hpl := HG.out.len
            by_cases hlk : kk < left.length
            · have hcp := H.cells0
              obtain ⟨ap, bp, op, cp, rfl, p1, p2, p3, pcell⟩ := hcp.opnP
              obtain ⟨al2, bl2, ol2, cl2, e3, _, _, _, lcell⟩ := (H.cells (List.mem_cons_of_mem _ HM.out)).opnP
              simp only [Value.slice.injEq] at e3
              obtain ⟨rfl, _, rfl⟩ := e3
              obtain ⟨r1, r2, r3, r4⟩ := pcell q hlt
              obtain ⟨t1, t2, t3, t4⟩ := lcell kk hlk
              have hbp := HBD.out _ (HG.out.sub _ (pN_mem hlt))
              have hbl := HBD.out _ (pN_mem hlk)
              simp only at hbp hbl
              have HH := Lib.hid H
              have HCP := Lib.hid hcp
              have HN := Lib.hid (fun h1 h2 => HG.out.push (x := pxN left kk) (y := pyN left kk) hlt h1 (pN_mem hlk) h2)
              have HSK2 := Lib.hid (fun (part2 : List (Nat × Nat)) (hs : SeenK left part2 q kk) (h : nearP (pxN part2 q) (pyN part2 q) (pxN left kk) (pyN left kk) → (pxN left kk, pyN left kk) ∈ part2) => (show SeenK left part2 q (kk + 1) from fun j hj hn => by
                by_cases e : j = kk
                · subst e; exact h hn
                · exact hs j (by omega) hn))
              have hhc := hcB_cast (l := part) (x := pxN left kk) (y := pyN left kk)
              clear pcell lcell H hcp
              by_cases hn : nearP (pxN part q) (pyN part q) (pxN left kk) (pyN left kk)
              · have hnb : decide (nearP (pxN part q) (pyN part q) (pxN left kk) (pyN left kk)) = true := decide_eq_true hn
                by_cases hh : (pxN left kk, pyN left kk) ∈ part
                · rw [decide_eq_true hh] at hhc
                  have HK2 := Lib.hid (HSK2.out part HSK.out (fun _ => hh))
                  clear hn hh
                  go_wp2_with fail
                  refine wp_region_ext_lit (by kernel_rfl) (by kernel_rfl) ?_
                  repeat (go_big_quiet_step ((first | (go_at_call 92; first | exact Calls_ext_of2 (l2Near_b _ _ _ _ _ hnb (by omega) (by omega) (by omega) (by omega) _) | exact Calls_ext_of (l2Near_b _ _ _ _ _ hnb (by omega) (by omega) (by omega) (by omega) _)) | (go_at_call 93; first | exact Calls_ext_of2 (specHas_b _ _ _ _ hhc _ _ (HCP.out.mono (bel_of_ext (by repeat first | apply wxr | with_reducible assumption | apply wxe | apply wxa | apply wxd)))) | exact Calls_ext_of (specHas_b _ _ _ _ hhc _ _ (HCP.out.mono (bel_of_ext (by repeat first | apply wxr | with_reducible assumption | apply wxe | apply wxa | apply wxd))))))))
                  refine wpQuiet_nil ?_
                  intro _ hwq
                  obtain ⟨xq, hwq⟩ := hwq
                  subst hwq
                  go_wp2_with fail
                  go_roundw
                  case rel => exact ⟨_, part, kk + 1, rfl, int_succ kk, hlk, hlt, HG, HSG, HK2, HH.out.to (by repeat first | apply wxr | with_reducible assumption | apply wxe | apply wxa | apply wxd)⟩
                  case measure => simp [intOf]; omega
                · rw [decide_eq_false hh] at hhc
                  have HG2 := Lib.hid (HN.out hn hh)
                  have HSG2 := Lib.hid (SeenG.app (m := [(pxN left kk, pyN left kk)]) HSG.out (by omega))
                  have HK2 := Lib.hid (HSK2.out _ (SeenK.app (m := [(pxN left kk, pyN left kk)]) HSK.out hlt) (fun _ => List.mem_append_right _ List.mem_cons_self))
                  clear hn hh
                  go_wp2_with fail
                  refine wp_region_ext_lit (by kernel_rfl) (by kernel_rfl) ?_
                  repeat (go_big_quiet_step ((first | (go_at_call 92; first | exact Calls_ext_of2 (l2Near_b _ _ _ _ _ hnb (by omega) (by omega) (by omega) (by omega) _) | exact Calls_ext_of (l2Near_b _ _ _ _ _ hnb (by omega) (by omega) (by omega) (by omega) _)) | (go_at_call 93; first | exact Calls_ext_of2 (specHas_b _ _ _ _ hhc _ _ (HCP.out.mono (bel_of_ext (by repeat first | apply wxr | with_reducible assumption | apply wxe | apply wxa | apply wxd)))) | exact Calls_ext_of (specHas_b _ _ _ _ hhc _ _ (HCP.out.mono (bel_of_ext (by repeat first | apply wxr | with_reducible assumption | apply wxe | apply wxa | apply wxd))))))))
                  refine wpQuiet_nil ?_
                  intro _ hwq
                  obtain ⟨xq, hwq⟩ := hwq
                  subst hwq
                  go_wp2_with (first | (at_builtin; go_loud (refine wpList_append_held (m := 1) rfl _ _ _ rfl elemCell (HH.out.to (by repeat first | apply wxr | with_reducible assumption | apply wxe | apply wxa | apply wxd)) rfl rfl (Sl_cell _ _ _ _) (one_cell _ _) (by rw [castP_len]; unfold maxLen; omega) (by rw [castP_len]; omega) ?_; intro v' w' H7; have H8 := Lib.hid H7.snocC; clear H7)))
                  go_roundw
                  case rel =>
                    refine ⟨v', part ++ [(pxN left kk, pyN left kk)], kk + 1, rfl, int_succ kk, hlk, by simp; omega, HG2, HSG2, HK2, ?_⟩
                    rw [castP_snoc]; exact H8.out
                  case measure => simp [intOf]; omega
              · have hnb : decide (nearP (pxN part q) (pyN part q) (pxN left kk) (pyN left kk)) = false := decide_eq_false hn
                have HK2 := Lib.hid (HSK2.out part HSK.out (fun h => absurd h hn))
                clear hn hhc
                go_wp2_with fail
                refine wp_region_ext_lit (by kernel_rfl) (by kernel_rfl) ?_
                repeat (go_big_quiet_step ((first | (go_at_call 92; first | exact Calls_ext_of2 (l2Near_b _ _ _ _ _ hnb (by omega) (by omega) (by omega) (by omega) _) | exact Calls_ext_of (l2Near_b _ _ _ _ _ hnb (by omega) (by omega) (by omega) (by omega) _)))))
                refine wpQuiet_nil ?_
                intro _ hwq
                obtain ⟨xq, hwq⟩ := hwq
                subst hwq
                go_wp2_with fail
                go_roundw
                case rel => exact ⟨_, part, kk + 1, rfl, int_succ kk, hlk, hlt, HG, HSG, HK2, HH.out.to (by repeat first | apply wxr | with_reducible assumption | apply wxe | apply wxa | apply wxd)⟩
                case measure => simp [intOf]; omega
            · have HH := Lib.hid H
              have HSG2 := Lib.hid (SeenG.next HSG.out (show SeenK left part q left.length by have := HSK.out; rwa [show kk = left.length by omega] at this))
              clear H
              go_wp2_with fail
              go_roundw
              case rel => exact ⟨_, part, q + 1, rfl, int_succ q, hlt, HG, HSG2, HH.out⟩
              case measure => simp [intOf]; omega
        · have hqe : q = part.length := by omega
          have HSG2 := Lib.hid (show SeenG left part part.length by have := HSG.out; rwa [hqe] at this)
          have HON := Lib.hid (OutOK.nextL HO.out h0 (by rw [← HFA.out.1, ← HFA.out.2]; exact HG.out) HSG2.out)
          have hp36 : part.length ≤ 36 := by omega
          have HND := Lib.hid HG.out.nd
          have HOWN := Lib.hid HG.out.own
          have HPB := Lib.hid (fun (k : Nat) (hk : k < part.length) => HBD.out _ (HG.out.sub _ (pN_mem hk)))
          have HFIT := Lib.hid (fun k hk => rwF_fit (W := W) (H := rows.length) (l := part) (fun c hc => (HBD.out c (HG.out.sub c hc)).1) k hk)
          obtain ⟨ap, cp, hpv⟩ := H.rowCV
          rw [castP_len] at hpv
          subst hpv
          obtain ⟨kb0, kb1⟩ := H.box2
          have hbo := H.boxOld
          have HH := Lib.hid H
          clear H hqe HSG HG
          go_wp2_with (first | (go_at_call 94; go_loud (refine (l6Empty_any _ _ _ _ (h1.mono HH.out.bel) hl2).mono ?_; rintro e w' ⟨gx, rfl, K⟩; have HE1 := Lib.hid ((HH.out.join K).newBox2 26 (.int .i64 W) (.slice (some ⟨gx, 0, none⟩) rows.length rows.length)); clear K)))
          obtain ⟨B8, hB8⟩ : ∃ B8, B8 = w'.heap.size := ⟨_, rfl⟩
          rw [← hB8] at HE1 ⊢
          clear hB8
          have HE2 := Lib.hid (HE1.out.swap)
          clear HE1
          go_loopw [9] (fun i wr4 => ∃ m : Nat, m ≤ part.length ∧ i = .int .i64 m ∧ Held (w.alloc (.cells #[.int .i64 W, .slice a rows.length cap] 26)) wr4 (rowT gx rows.length (intF (rwF part m)) :: boxR2 B8 26 (.int .i64 W) (.slice (some ⟨gx, 0, none⟩) rows.length rows.length) :: rowC (.slice ap part.length cp) (castP part) :: X)) (fun i _ => part.length - (intOf i).toNat)
          case atStart => exact ⟨0, Nat.zero_le _, rfl, HE2.out⟩
          case round =>
            clear HE2 HH kb0 kb1 hbo
            obtain ⟨m, hm, rfl, H⟩ := hrel
            obtain ⟨k0, k1, k2, k3, k4⟩ := H.readB2 1 rfl
            by_cases hlm : m < part.length
            · obtain ⟨hX6, hY6⟩ := HPB.out m hlm
              obtain ⟨ap2, bp, op, cp2, e3, _, _, _, pcell⟩ := (H.cells (by simp : rowC (.slice ap part.length cp) (castP part) ∈ _)).opnP
              simp only [Value.slice.injEq] at e3
              obtain ⟨rfl, _, rfl⟩ := e3
              obtain ⟨r1, r2, r3, r4⟩ := pcell m hlm
              obtain ⟨m1, m2, _⟩ := rwStep H hY6
              have hog := H.oldRow
              have hfit := HFIT.out m (by omega) _ hY6
              have hf64 : rwF part m (pyN part m) < 64 := Nat.lt_of_lt_of_le hfit (Nat.pow_le_pow_right (n := 2) (by omega) hW2)
              have hs64 : shlN 1 (pxN part m) ≤ 64 := by rw [shlN, Nat.one_mul]; exact Nat.pow_le_pow_right (n := 2) (by omega) (show pxN part m ≤ 6 by omega)
              haveI : Le6 (pxN part m) := ⟨by omega⟩
              haveI : AddOK (rwF part m (pyN part m)) (shlN 1 (pxN part m)) := ⟨by omega⟩
              have HAD := Lib.hid (rwF_add HND.out hlm)
              have HL := Lib.hid H
              clear pcell H hfit
              go_wp2_with fail
              go_still_tail 24, (by kernel_rfl)
              change wpList _ _ _ _ _ wr.drew
              have H := HL.out.to (w' := wr.drew) (by repeat first | apply wxr | with_reducible assumption | apply wxe | apply wxa | apply wxd)
              clear k0 k1 k2 k3 k4 r1 r2 r3 r4 m1 m2 hog
              generalize wr.drew = w3 at H ⊢
              obtain ⟨m1, m2, H3⟩ := rwStep H hY6
              rw [← HAD.out] at H3
              have HH3 := Lib.hid H3
              clear H3 H
              go_wp2_with fail
              go_roundw
              case rel => exact ⟨m + 1, hlm, int_succ m, HH3.out⟩
              case measure => simp [intOf]; omega
            · have hme : m = part.length := by omega
              rw [hme] at H
              clear hme
              rw [HXE.out] at H
              have HL := Lib.hid (H.pull 3 rfl)
              clear H
              have hws : (List.replicate ps.length (W : Int)).length = ps.length := List.length_replicate ..
              have hca := HL.out.own _ List.mem_cons_self
              simp only at hca
              obtain ⟨oa, oc, rfl⟩ := own_slice hca
              clear hca
              go_wp2_with (first | (at_builtin; go_loud (refine wpList_append_held (m := 1) rfl _ _ _ rfl elemReg (HL.out.to (by repeat first | apply wxr | with_reducible assumption | apply wxe | apply wxa | apply wxd)) rfl rfl (Sl_new _ #[.int .i64 W, .slice (some ⟨gx, 0, none⟩) rows.length rows.length] _ 2 1 rfl (by simp [maxLen]) (by omega)) (one_reg _ _ _ _) (by unfold maxLen; omega) (by omega) ?_; intro v' w' H7; have H8 := Lib.hid H7; clear H7)))
              have HQ := Lib.hid (Held.snocG (L := [rowC (.slice al left.length cl) (castP left), boxR2 B8 26 (.int .i64 W) (.slice (some ⟨gx, 0, none⟩) rows.length rows.length), rowC (.slice ap part.length cp) (castP part)]) (u := .slice (some ⟨gx, 0, none⟩) rows.length rows.length) (xs := tab rows.length (intF (rwF part part.length))) (wd := (W : Int)) hvs hws (H8.out.front (by
                refine List.Perm.cons _ (List.Perm.cons _ ?_)
                have := List.perm_append_comm (l₁ := [boxR2 B8 26 (.int .i64 W) (.slice (some ⟨gx, 0, none⟩) rows.length rows.length), rowC (.slice ap part.length cp) (castP part)]) (l₂ := rowsI vs ps ++ [rowC (.slice al left.length cl) (castP left)])
                rwa [List.append_assoc] at this)))
              obtain ⟨Y, hY⟩ : ∃ Y, Y = grpG v' (List.replicate ps.length (W : Int) ++ [(W : Int)]) (vs ++ [.slice (some ⟨gx, 0, none⟩) rows.length rows.length]) (ps ++ [tab rows.length (intF (rwF part part.length))]) ++ [rowC (.slice al left.length cl) (castP left), boxR2 B8 26 (.int .i64 W) (.slice (some ⟨gx, 0, none⟩) rows.length rows.length), rowC (.slice ap part.length cp) (castP part)] := ⟨_, rfl⟩
              have HQ2 := HQ.out
              rw [← hY] at HQ2
              have hm1 : rowC (.slice al left.length cl) (castP left) ∈ Y := by rw [hY]; simp
              have hm2 : rowC (.slice ap part.length cp) (castP part) ∈ Y := by rw [hY]; simp
              have HYE := Lib.hid hY
              have HM1 := Lib.hid hm1
              have HM2 := Lib.hid hm2
              have HE := Lib.hid (HQ2.empty 95 2)
              clear HQ HQ2 H8 HL hY hm1 hm2 k0 k1 k2 k3 k4
              go_wp2_with fail
              go_loopw [10, 11] (fun u k wr5 => ∃ (rv : Value) (kk : Nat), rv = u ∧ k = .int .i64 kk ∧ kk ≤ left.length ∧ Held (w.alloc (.cells #[.int .i64 W, .slice a rows.length cap] 26)) wr5 (rowC rv (castP (restTo left part kk)) :: Y)) (fun _ k _ => left.length - (intOf k).toNat)
              case atStart => exact ⟨_, 0, rfl, rfl, Nat.zero_le _, HE.out⟩
              case round =>
                clear HE
                obtain ⟨rv, kk, rfl, rfl, hkk, H⟩ := hrel
                by_cases hlk : kk < left.length
                · obtain ⟨al2, bl2, ol2, cl2, e3, _, _, _, lcell⟩ := (H.cells (List.mem_cons_of_mem _ HM1.out)).opnP
                  simp only [Value.slice.injEq] at e3
                  obtain ⟨rfl, _, rfl⟩ := e3
                  obtain ⟨t1, t2, t3, t4⟩ := lcell kk hlk
                  have hbl := HBD.out _ (pN_mem hlk)
                  simp only at hbl
                  have HCP := Lib.hid (H.cells (List.mem_cons_of_mem _ HM2.out))
                  have hhc := hcB_cast (l := part) (x := pxN left kk) (y := pyN left kk)
                  obtain ⟨ra, rc, hrv⟩ := H.rowCV
                  have hrl := restTo_len left part kk
                  rw [castP_len] at hrv
                  subst hrv
                  have HH := Lib.hid H
                  clear H lcell
                  by_cases hh : (pxN left kk, pyN left kk) ∈ part
                  · rw [decide_eq_true hh] at hhc
                    have HR2 := Lib.hid (restTo_in hlk hh)
                    clear hh
                    go_wp2_with fail
                    refine wp_region_ext_lit (by kernel_rfl) (by kernel_rfl) ?_
                    repeat (go_big_quiet_step ((first | (go_at_call 93; first | exact Calls_ext_of2 (specHas_b _ _ _ _ hhc _ _ (HCP.out.mono (bel_of_ext (by repeat first | apply wxr | with_reducible assumption | apply wxe | apply wxa | apply wxd)))) | exact Calls_ext_of (specHas_b _ _ _ _ hhc _ _ (HCP.out.mono (bel_of_ext (by repeat first | apply wxr | with_reducible assumption | apply wxe | apply wxa | apply wxd))))))))
                    refine wpQuiet_nil ?_
                    intro _ hwq
                    obtain ⟨xq, hwq⟩ := hwq
                    subst hwq
                    go_wp2_with fail
                    go_roundw
                    case rel => exact ⟨_, kk + 1, rfl, int_succ kk, hlk, by rw [HR2.out]; exact HH.out.to (by repeat first | apply wxr | with_reducible assumption | apply wxe | apply wxa | apply wxd)⟩
                    case measure => simp [intOf]; omega
                  · rw [decide_eq_false hh] at hhc
                    have HR2 := Lib.hid (restTo_out hlk hh)
                    clear hh
                    go_wp2_with fail
                    refine wp_region_ext_lit (by kernel_rfl) (by kernel_rfl) ?_
                    repeat (go_big_quiet_step ((first | (go_at_call 93; first | exact Calls_ext_of2 (specHas_b _ _ _ _ hhc _ _ (HCP.out.mono (bel_of_ext (by repeat first | apply wxr | with_reducible assumption | apply wxe | apply wxa | apply wxd)))) | exact Calls_ext_of (specHas_b _ _ _ _ hhc _ _ (HCP.out.mono (bel_of_ext (by repeat first | apply wxr | with_reducible assumption | apply wxe | apply wxa | apply wxd))))))))
                    refine wpQuiet_nil ?_
                    intro _ hwq
                    obtain ⟨xq, hwq⟩ := hwq
                    subst hwq
                    go_wp2_with (first | (at_builtin; go_loud (refine wpList_append_held (m := 1) rfl _ _ _ rfl elemCell (HH.out.to (by repeat first | apply wxr | with_reducible assumption | apply wxe | apply wxa | apply wxd)) rfl rfl (Sl_cell _ _ _ _) (one_cell _ _) (by rw [castP_len]; unfold maxLen; omega) (by rw [castP_len]; omega) ?_; intro v' w' H7; have H8 := Lib.hid H7.snocC; clear H7)))
                    go_roundw
                    case rel => exact ⟨_, kk + 1, rfl, int_succ kk, hlk, by rw [HR2.out, castP_snoc]; exact H8.out⟩
                    case measure => simp [intOf]; omega
                · have hke : kk = left.length := by omega
                  rw [hke, restTo_all] at H
                  clear hke
                  rw [HYE.out] at H
                  have hdec : (left.filter fun c => decide (c ∉ part)).length < left.length := by
                    refine List.length_filter_lt_length_iff_exists.2 ⟨(fa, fb), ?_, ?_⟩
                    · rw [HFA.out.1, HFA.out.2]; exact pN_mem h0
                    · have := HOWN.out
                      simp [this]
                  obtain ⟨ra, rc, hrv⟩ := H.rowCV
                  rw [castP_len] at hrv
                  subst hrv
                  have HH := Lib.hid (Held.sub (Held.front H List.perm_middle.symm) (List.Sublist.append_left (List.sublist_append_left [_] [_, _, _]) _))
                  clear H
                  go_wp2_with fail
                  go_roundw
                  case rel =>
                    refine ⟨_, vs ++ [.slice (some ⟨gx, 0, none⟩) rows.length rows.length], ps ++ [tab rows.length (intF (rwF part part.length))], _, left.filter (fun c => decide (c ∉ part)), rfl, rfl, rfl, by simp [hvs], HON, ?_⟩
                    rw [List.length_append, List.length_singleton, List.replicate_succ']
                    exact HH.out
                  case measure => exact hdec
    · have hl0 : left = [] := List.length_eq_zero_iff.1 (by omega)
      subst hl0
      have HPV := Lib.hid (PartsV_yes HR.out HO.out.done)
      have hrow := HO.out.row
      have HK := Lib.hid (Held.sub H.unbox (List.sublist_append_left (grpG vo (List.replicate ps.length (W : Int)) vs ps) _))
      clear H
      go_wp2_with fail
      go_ret
      exact ⟨ps, HPV.out, hps36, fun p hp => by rw [hrow p hp]; exact hl2, _, vs, rfl, hvs, List.length_replicate .., HK.out⟩
end
section
open Go.ChangeShapes Go.WideShapes Go.ChangeAt Go.RowKit
theorem Rch_idem {S : Nat → Nat → Prop} {a b x y : Nat} (h : Rch S a b x y) : Rch (Rch S a b) a b x y :=
  h (Rch (Rch S a b) a b) (Rch.base _ _ _) fun u v u' v' h1 hn hs => h1.step hn ((h1.sub (Rch.base S a b)).step hn hs)
/-- one part, by itself -/
def PartOne (W H : Nat) (p : List Int) : Prop := ∃ (T : Nat → Nat → Prop) (a b : Nat), RowsOf W H p T ∧ First T a b ∧ (∀ x y, T x y → x < W ∧ y < H) ∧ ∀ x y, T x y → Rch T a b x y
theorem parts_each {W H : Nat} : ∀ {ps : List (List Int)} {S : Nat → Nat → Prop}, PartsR W H ps S → (∀ x y, S x y → x < W ∧ y < H) → ∀ p ∈ ps, PartOne W H p
  | [], _, _, _, p, hp => by cases hp
  | q :: ps, S, ⟨a, b, hf, hq, hr⟩, hb, p, hp => by
    rcases List.mem_cons.1 hp with rfl | hp
    · exact ⟨Rch S a b, a, b, hq, ⟨Rch.base _ _ _, fun x y h => hf.2 x y (h.sub hf.1)⟩, fun x y h => hb x y (h.sub hf.1), fun x y h => Rch_idem h⟩
    · exact parts_each hr (fun x y h => hb x y h.1) p hp
theorem rowsOf_cells {W H : Nat} {p : List Int} {T : Nat → Nat → Prop} (h : RowsOf W H p T) (hb : ∀ x y, T x y → x < W ∧ y < H) (x y : Nat) : inL (cellsN W p) x y ↔ T x y := by
  unfold inL
  rw [cellsN_mem, h.1]
  constructor
  · rintro ⟨h1, h2, h3⟩
    exact ((h.2 y h1).2.2 x h2).1 h3
  · intro ht
    obtain ⟨h1, h2⟩ := hb x y ht
    exact ⟨h2, h1, ((h.2 y h2).2.2 x h1).2 ht⟩
theorem PartOne.reg {W H : Nat} {p : List Int} (h : PartOne W H p) (h1 : 1 ≤ W) (h2 : W ≤ 6) (h3 : 1 ≤ H) (h4 : H ≤ 6) : regB W p = true := by
  obtain ⟨T, a, b, hr, _⟩ := h
  simp only [regB, Bool.and_eq_true, btw_iff, hr.1]
  refine ⟨⟨by omega, by omega⟩, allTo_true.2 fun k hk => ?_⟩
  obtain ⟨e1, e2, _⟩ := hr.2 k hk
  rw [e1]
  simp only [rowB, Bool.and_eq_true, decide_eq_true_eq, Int.toNat_natCast, shlN, Nat.one_mul]
  exact ⟨Int.natCast_nonneg _, by exact_mod_cast e2⟩
theorem PartOne.parts {W H : Nat} {p : List Int} (h : PartOne W H p) : PartsR W H [p] (inL (cellsN W p)) := by
  obtain ⟨T, a, b, hr, hf, hb, ht⟩ := h
  have hm := rowsOf_cells hr hb
  refine PartsR_congr (S := T) ⟨a, b, hf, hr.congr fun x y _ _ => ⟨ht x y, fun h => h.sub hf.1⟩, fun x y h => h.2 (ht x y h.1)⟩ fun x y => (hm x y).symm
/-- the only part of a part -/
theorem PartsV_part {W : Nat} {rows : List Int} {ps : List (List Int)} (h : PartsV W rows ps) {p : List Int} (hp : p ∈ ps) : regB W p = true ∧ p.length = rows.length ∧ ∀ qs, PartsV W p qs → qs.length = 1 := by
  cases hr : regB W rows
  · simp [PartsV, hr] at h; subst h; cases hp
  · obtain ⟨W', e, h1, h2, h3, h4, _⟩ := regB_bd hr
    obtain rfl : W = W' := by omega
    simp only [PartsV, hr, if_true, Int.toNat_natCast] at h
    have hone := parts_each h (fun x y hxy => by
      have := cellsN_mem.1 hxy
      exact ⟨this.2.1, this.1⟩) p hp
    have hreg := hone.reg h1 h2 h3 h4
    have hlen : p.length = rows.length := by obtain ⟨T, a, b, hr, _⟩ := hone; exact hr.1
    refine ⟨hreg, hlen, fun qs hq => ?_⟩
    simp only [PartsV, hreg, if_true, Int.toNat_natCast, hlen] at hq
    rw [hq.one hone.parts]; rfl
def arL (W : Nat) (p : List Int) : Nat := (cellsN W p).length
theorem cellsN_nodup (W : Nat) (rows : List Int) : (cellsN W rows).Nodup := ord_nodup (cellsN_ord W rows)
theorem parts_area {W H : Nat} : ∀ {ps : List (List Int)} {S : Nat → Nat → Prop}, PartsR W H ps S → (∀ x y, S x y → x < W ∧ y < H) → ∃ L : List (Nat × Nat), L.Nodup ∧ (∀ x y, (x, y) ∈ L ↔ S x y) ∧ L.length = (ps.map (arL W)).sum
  | [], S, h, _ => ⟨[], by simp, fun x y => by simpa using h x y, rfl⟩
  | p :: ps, S, ⟨a, b, hf, hp, hr⟩, hb => by
    obtain ⟨L, h1, h2, h3⟩ := parts_area hr fun x y h => hb x y h.1
    have hm := rowsOf_cells hp fun x y h => hb x y (h.sub hf.1)
    refine ⟨cellsN W p ++ L, ?_, fun x y => ?_, ?_⟩
    · rw [List.nodup_append]
      refine ⟨cellsN_nodup W p, h1, fun c hc d hd e => ?_⟩
      subst e
      obtain ⟨x, y⟩ := c
      exact ((h2 x y).1 hd).2 ((hm x y).1 hc)
    · rw [List.mem_append, h2]
      have := hm x y
      unfold inL at this
      rw [this]
      constructor
      · rintro (h | h)
        · exact h.sub hf.1
        · exact h.1
      · intro h
        by_cases hr : Rch S a b x y
        · exact .inl hr
        · exact .inr ⟨h, hr⟩
    · rw [List.length_append, h3, List.map_cons, List.sum_cons]; rfl
theorem PartsV_area {W : Nat} {rows : List Int} {ps : List (List Int)} (h : PartsV W rows ps) (hr : regB W rows = true) : (ps.map (arL W)).sum = arL W rows := by
  simp only [PartsV, hr, if_true, Int.toNat_natCast] at h
  obtain ⟨L, h1, h2, h3⟩ := parts_area h (fun x y hxy => by
      have := cellsN_mem.1 hxy
      exact ⟨this.2.1, this.1⟩)
  rw [← h3]
  refine Nat.le_antisymm (length_le_of_sub h1 fun c hc => ?_) (length_le_of_sub (cellsN_nodup W rows) fun c hc => ?_)
  · obtain ⟨x, y⟩ := c
    exact (h2 x y).1 hc
  · obtain ⟨x, y⟩ := c
    exact (h2 x y).2 hc
end
section
open Go.ChangeShapes Go.WideShapes Go.ChangeAt Go.RowKit
def areaV (wd : Int) (rows : List Int) : Int := if regB wd rows then (cellsV wd rows).length else -1
theorem specIsReg_bA (wd : Int) (rows : List Int) (b : Bool) (hb : regB wd rows = b) (v : Value) (w : World) (h : IntsAt w v rows) :
    Calls Tryz.prog 14 #[.agg #[.int .i64 wd, v]] w fun e w' => e = .returned (.bool b) ∧ ∃ x, w' = ext w x := hb ▸ specIsRegion_any wd rows v w h
theorem specArea_any (wd : Int) (rows : List Int) (v : Value) (w : World) (h : IntsAt w v rows) :
    Calls Tryz.prog 21 #[.agg #[.int .i64 wd, v]] w fun e w' => e = .returned (.int .i64 (areaV wd rows)) ∧ Held w w' [] := by
  have h0 := h
  obtain ⟨a, b, o, cap, rfl, hc1, hc2, hc3, hcell⟩ := h.opn
  have HI := Lib.hid h0
  have H0 := (Held.start w).newBox2 26 (.int .i64 wd) (.slice a rows.length cap)
  clear hcell h h0
  cases hr : regB wd rows
  · have HF := Lib.hid (show areaV wd rows = -1 by simp [areaV, hr])
    rw [HF.out]
    go_enter Tryz.func21, Tryz.ntmps21
    go_wp2_with (first | (go_at_call 14; refine (specIsReg_bA _ _ _ hr _ _ (HI.out.mono (bel_of_ext (by repeat first | apply wxr | with_reducible assumption | apply wxe | apply wxa | apply wxd)))).mono ?_; rintro e w' ⟨rfl, xe, rfl⟩))
    go_ret
    exact ⟨rfl, ⟨(H0.to (by repeat first | apply wxr | with_reducible assumption | apply wxe | apply wxa | apply wxd)).bel, fun r hr => (nomatch hr), .nil⟩⟩
  · have HF := Lib.hid (show areaV wd rows = ((cellsV wd rows).length : Nat) by simp [areaV, hr])
    rw [HF.out]
    go_enter Tryz.func21, Tryz.ntmps21
    go_wp2_with (first | (go_at_call 14; refine (specIsReg_bA _ _ _ hr _ _ (HI.out.mono (bel_of_ext (by repeat first | apply wxr | with_reducible assumption | apply wxe | apply wxa | apply wxd)))).mono ?_; rintro e w' ⟨rfl, xe, rfl⟩) | (go_at_call 39; refine (specCells_any _ _ _ _ (HI.out.mono (bel_of_ext (by repeat first | apply wxr | with_reducible assumption | apply wxe | apply wxa | apply wxd)))).mono ?_; rintro e w5 ⟨u, rfl, K⟩; obtain ⟨ua, uc, rfl⟩ := K.rowCV))
    go_ret
    exact ⟨rfl, ⟨((H0.to (by repeat first | apply wxr | with_reducible assumption | apply wxe | apply wxa | apply wxd)).join K).bel, fun r hr => (nomatch hr), .nil⟩⟩
end
section
open Go.ChangeShapes Go.WideShapes Go.ChangeAt Go.RowKit
theorem l6In_b2 (W : Nat) (rows : List Int) (x y : Nat) (b : Bool) (v : Value) (w : World) (h : IntsAt w v rows) (hr : regB W rows = true) (hx : x < W) (hy : y < rows.length) (hb : (rowN rows y).testBit x = b) :
    Calls Tryz.prog 84 #[.agg #[.int .i64 W, v], .int .i64 x, .int .i64 y] w fun e w' => e = .returned (.bool b) ∧ ∃ x, w' = ext w x := by
  have := l6In_any W rows x y v w h hr
  rwa [hasB_at hx hy, hb] at this
theorem has_b2 (W : Nat) (rows : List Int) (x y : Nat) (b : Bool) (v : Value) (w : World) (h : IntsAt w v rows) (hr : regB W rows = true) (hx : x < W) (hy : y < rows.length) (hb : (rowN rows y).testBit x = b) :
    Calls Tryz.prog 78 #[.agg #[.int .i64 W, v], .int .i64 x, .int .i64 y] w fun e w' => e = .returned (.bool b) ∧ ∃ x, w' = ext w x := by
  have := has_any W rows x y v w h hr
  rwa [hasB_at hx hy, hb] at this
end
section
open Go.ChangeShapes Go.WideShapes Go.ChangeAt Go.RowKit
def ch (b : Bool) : UInt8 := if b then 35 else 46
def txTo (rows : List Int) (y x : Nat) : List UInt8 := (List.range x).map fun i => ch ((rowN rows y).testBit i)
theorem txTo_len (rows : List Int) (y x : Nat) : (txTo rows y x).length = x := by simp [txTo]
theorem txTo_t {rows : List Int} {y x : Nat} (h : (rowN rows y).testBit x = true) : txTo rows y (x + 1) = txTo rows y x ++ [35] := by simp [txTo, List.range_succ, h, ch]
theorem txTo_f {rows : List Int} {y x : Nat} (h : (rowN rows y).testBit x = false) : txTo rows y (x + 1) = txTo rows y x ++ [46] := by simp [txTo, List.range_succ, h, ch]
def lsTo (W : Nat) (rows : List Int) (k : Nat) : List (List UInt8) := (List.range k).map fun y => txTo rows y W
theorem lsTo_len (W : Nat) (rows : List Int) (k : Nat) : (lsTo W rows k).length = k := by simp [lsTo]
theorem lsTo_succ (W : Nat) (rows : List Int) (k : Nat) : lsTo W rows (k + 1) = lsTo W rows k ++ [txTo rows k W] := by simp [lsTo, List.range_succ]
def ftTo (W : Nat) (rows : List Int) (k : Nat) : List UInt8 := Lib.join (lsTo W rows k) [47]
/-- what stands ahead of row k -/
def ftHd (W : Nat) (rows : List Int) (k : Nat) : List UInt8 := if k = 0 then [] else ftTo W rows k ++ [47]
theorem ftTo_succ (W : Nat) (rows : List Int) (k : Nat) : ftTo W rows (k + 1) = ftHd W rows k ++ txTo rows k W := by
  unfold ftHd ftTo
  rw [lsTo_succ]
  by_cases h : k = 0
  · subst h; simp [lsTo, Lib.join_one]
  · rw [if_neg h, join_snoc _ _ _ (by intro e; have := lsTo_len W rows k; rw [e] at this; exact h this.symm)]
theorem ftTo_len (W : Nat) (rows : List Int) (k : Nat) : (ftTo W rows k).length ≤ k * (W + 1) := by
  induction k with
  | zero => simp [ftTo, lsTo, Lib.join_nil]
  | succ k ih =>
    rw [ftTo_succ, List.length_append, txTo_len, Nat.succ_mul]
    unfold ftHd
    split
    · simp; omega
    · simp; omega
theorem ftHd_len {W : Nat} {rows : List Int} {k : Nat} (hW : W ≤ 6) (hk : k ≤ 6) : (ftHd W rows k).length ≤ 43 ∧ (ftTo W rows k).length ≤ 42 := by
  have h1 := ftTo_len W rows k
  have h2 : k * (W + 1) ≤ 6 * 7 := Nat.mul_le_mul hk (by omega)
  unfold ftHd
  split
  · simp; omega
  · simp; omega
def fmtV (wd : Int) (rows : List Int) : List UInt8 := if regB wd rows then ftTo wd.toNat rows rows.length else []
theorem fmtV_no {wd : Int} {rows : List Int} (h : regB wd rows = false) : fmtV wd rows = [] := by simp [fmtV, h]
theorem fmtV_yes {W : Nat} {rows : List Int} (h : regB W rows = true) : fmtV W rows = ftTo W rows rows.length := by simp [fmtV, h]
theorem ret_str {a b : List UInt8} (h : a = b) : Ending.returned (.string (bsOf a)) = .returned (.string (bsOf b)) := by rw [h]
set_option maxHeartbeats 2000000 in
theorem specFmt_any (wd : Int) (rows : List Int) (v : Value) (w : World) (h : IntsAt w v rows) :
    Calls Tryz.prog 13 #[.agg #[.int .i64 wd, v]] w fun e w' => e = .returned (.string (bsOf (fmtV wd rows))) ∧ ∃ x, w' = ext w x := by
  have h0 := h
  obtain ⟨a, b, o, cap, rfl, hc1, hc2, hc3, hcell⟩ := h.opn
  have h1 := h0.alloc (.cells #[.int .i64 wd, .slice a rows.length cap] 26)
  clear hcell h h0
  cases hr : regB wd rows
  · have HF := Lib.hid (fmtV_no hr)
    go_enter Tryz.func13, Tryz.ntmps13
    go_wp2_with fail
    go_loopw [3, 4] (fun u i wr => u = .string ⟨#[]⟩ ∧ i = .int .i64 0 ∧ ∃ x, wr = ext (w.alloc (.cells #[.int .i64 wd, .slice a rows.length cap] 26)) x) (fun _ _ _ => 0)
    case atStart => exact ⟨rfl, rfl, (by repeat first | apply wxr | with_reducible assumption | apply wxe | apply wxa | apply wxd)⟩
    case round =>
      obtain ⟨rfl, rfl, x, rfl⟩ := hrel
      by_cases hp : 0 < rows.length
      · go_wp2_with (first | (go_at_call 14; refine (specIsRegion_any _ _ _ _ (by first | (with_reducible assumption) | (with_reducible exact IntsAt.mono (by assumption) (bel_of_ext (by repeat first | apply wxr | with_reducible assumption | apply wxe | apply wxa | apply wxd))) | (with_reducible exact RegionAt.mono (by assumption) (bel_of_ext (by repeat first | apply wxr | with_reducible assumption | apply wxe | apply wxa | apply wxd))) | (with_reducible exact TextsAt.mono (by assumption) (bel_of_ext (by repeat first | apply wxr | with_reducible assumption | apply wxe | apply wxa | apply wxd))))).mono ?_; rintro e w' ⟨rfl, xe, rfl⟩))
        go_ret
        exact ⟨by rw [HF.out]; rfl, (by repeat first | apply wxr | with_reducible assumption | apply wxe | apply wxa | apply wxd)⟩
      · have hz : rows.length ≤ 0 := by omega
        go_wp2_with fail
        go_ret
        exact ⟨by rw [HF.out]; rfl, (by repeat first | apply wxr | with_reducible assumption | apply wxe | apply wxa | apply wxd)⟩
  obtain ⟨W, rfl, hW1, hW2, hl1, hl2, hrow⟩ := regB_bd hr
  have HF := Lib.hid (fmtV_yes hr)
  have HR := Lib.hid hr
  clear hrow
  go_enter Tryz.func13, Tryz.ntmps13
  go_wp2_with fail
  go_loopw [3, 4] (fun u i wr => ∃ k : Nat, k ≤ rows.length ∧ u = .string (bsOf (ftTo W rows k)) ∧ i = .int .i64 k ∧ ∃ x, wr = ext (w.alloc (.cells #[.int .i64 W, .slice a rows.length cap] 26)) x) (fun _ i _ => rows.length - (intOf i).toNat)
  case atStart => exact ⟨0, Nat.zero_le _, rfl, rfl, (by repeat first | apply wxr | with_reducible assumption | apply wxe | apply wxa | apply wxd)⟩
  case round =>
    obtain ⟨y, hy, rfl, rfl, x, rfl⟩ := hrel
    obtain ⟨l1, l2⟩ := ftHd_len (W := W) (rows := rows) (k := y) hW2 (by omega)
    haveI : LenOK (ftTo W rows y) := ⟨by omega⟩
    by_cases hlt : y < rows.length
    · by_cases hy0 : y = 0
      · subst hy0
        have HH := Lib.hid (show ftHd W rows 0 = [] from rfl)
        have HS := Lib.hid (ftTo_succ W rows 0)
        go_wp2_with (first | (go_at_call 14; refine (specIsRegion_any _ _ _ _ (by first | (with_reducible assumption) | (with_reducible exact IntsAt.mono (by assumption) (bel_of_ext (by repeat first | apply wxr | with_reducible assumption | apply wxe | apply wxa | apply wxd))) | (with_reducible exact RegionAt.mono (by assumption) (bel_of_ext (by repeat first | apply wxr | with_reducible assumption | apply wxe | apply wxa | apply wxd))) | (with_reducible exact TextsAt.mono (by assumption) (bel_of_ext (by repeat first | apply wxr | with_reducible assumption | apply wxe | apply wxa | apply wxd))))).mono ?_; rintro e w' ⟨rfl, xe, rfl⟩))
        go_loopw [3, 5] (fun u i wr2 => ∃ q : Nat, q ≤ W ∧ u = .string (bsOf (ftHd W rows 0 ++ txTo rows 0 q)) ∧ i = .int .i64 q ∧ ∃ x, wr2 = ext (w.alloc (.cells #[.int .i64 W, .slice a rows.length cap] 26)) x) (fun _ i _ => W - (intOf i).toNat)
        case atStart => exact ⟨0, Nat.zero_le _, rfl, rfl, (by repeat first | apply wxr | with_reducible assumption | apply wxe | apply wxa | apply wxd)⟩
        case round =>
          obtain ⟨q, hq, rfl, rfl, x2, rfl⟩ := hrel
          haveI : LenOK (ftHd W rows 0 ++ txTo rows 0 q) := ⟨by rw [List.length_append, txTo_len]; omega⟩
          by_cases hlt2 : q < W
          · cases hb : (rowN rows 0).testBit q
            all_goals
              have HB := Lib.hid hb
              clear hb
              go_wp2_with (first | (go_at_call 84; refine (l6In_b2 W rows _ _ _ _ _ (by first | (with_reducible assumption) | (with_reducible exact IntsAt.mono (by assumption) (bel_of_ext (by repeat first | apply wxr | with_reducible assumption | apply wxe | apply wxa | apply wxd))) | (with_reducible exact RegionAt.mono (by assumption) (bel_of_ext (by repeat first | apply wxr | with_reducible assumption | apply wxe | apply wxa | apply wxd))) | (with_reducible exact TextsAt.mono (by assumption) (bel_of_ext (by repeat first | apply wxr | with_reducible assumption | apply wxe | apply wxa | apply wxd)))) HR.out hlt2 hlt HB.out).mono ?_; rintro e w' ⟨rfl, xe, rfl⟩))
              go_roundw
              case rel => exact ⟨q + 1, hlt2, by first | rw [txTo_f HB.out, ← List.append_assoc] | rw [txTo_t HB.out, ← List.append_assoc], int_succ q, (by repeat first | apply wxr | with_reducible assumption | apply wxe | apply wxa | apply wxd)⟩
              case measure => simp [intOf]; omega
          · have HQ := Lib.hid (show q = W by omega)
            go_wp2_with fail
            go_roundw
            case rel => exact ⟨0 + 1, hlt, by rw [HS.out, HQ.out], int_succ 0, (by repeat first | apply wxr | with_reducible assumption | apply wxe | apply wxa | apply wxd)⟩
            case measure => simp [intOf]; omega
      · have hy1 : 0 < y := by omega
        have HH := Lib.hid (show ftHd W rows y = ftTo W rows y ++ [47] by unfold ftHd; rw [if_neg hy0])
        have HS := Lib.hid (ftTo_succ W rows y)
        go_wp2_with (first | (go_at_call 14; refine (specIsRegion_any _ _ _ _ (by first | (with_reducible assumption) | (with_reducible exact IntsAt.mono (by assumption) (bel_of_ext (by repeat first | apply wxr | with_reducible assumption | apply wxe | apply wxa | apply wxd))) | (with_reducible exact RegionAt.mono (by assumption) (bel_of_ext (by repeat first | apply wxr | with_reducible assumption | apply wxe | apply wxa | apply wxd))) | (with_reducible exact TextsAt.mono (by assumption) (bel_of_ext (by repeat first | apply wxr | with_reducible assumption | apply wxe | apply wxa | apply wxd))))).mono ?_; rintro e w' ⟨rfl, xe, rfl⟩))
        go_loopw [3, 5] (fun u i wr2 => ∃ q : Nat, q ≤ W ∧ u = .string (bsOf (ftHd W rows y ++ txTo rows y q)) ∧ i = .int .i64 q ∧ ∃ x, wr2 = ext (w.alloc (.cells #[.int .i64 W, .slice a rows.length cap] 26)) x) (fun _ i _ => W - (intOf i).toNat)
        case atStart => exact ⟨0, Nat.zero_le _, by rw [HH.out]; simp [txTo], rfl, (by repeat first | apply wxr | with_reducible assumption | apply wxe | apply wxa | apply wxd)⟩
        case round =>
          obtain ⟨q, hq, rfl, rfl, x2, rfl⟩ := hrel
          haveI : LenOK (ftHd W rows y ++ txTo rows y q) := ⟨by rw [List.length_append, txTo_len]; omega⟩
          by_cases hlt2 : q < W
          · cases hb : (rowN rows y).testBit q
            all_goals
              have HB := Lib.hid hb
              clear hb
              go_wp2_with (first | (go_at_call 84; refine (l6In_b2 W rows _ _ _ _ _ (by first | (with_reducible assumption) | (with_reducible exact IntsAt.mono (by assumption) (bel_of_ext (by repeat first | apply wxr | with_reducible assumption | apply wxe | apply wxa | apply wxd))) | (with_reducible exact RegionAt.mono (by assumption) (bel_of_ext (by repeat first | apply wxr | with_reducible assumption | apply wxe | apply wxa | apply wxd))) | (with_reducible exact TextsAt.mono (by assumption) (bel_of_ext (by repeat first | apply wxr | with_reducible assumption | apply wxe | apply wxa | apply wxd)))) HR.out hlt2 hlt HB.out).mono ?_; rintro e w' ⟨rfl, xe, rfl⟩))
              go_roundw
              case rel => exact ⟨q + 1, hlt2, by first | rw [txTo_f HB.out, ← List.append_assoc] | rw [txTo_t HB.out, ← List.append_assoc], int_succ q, (by repeat first | apply wxr | with_reducible assumption | apply wxe | apply wxa | apply wxd)⟩
              case measure => simp [intOf]; omega
          · have HQ := Lib.hid (show q = W by omega)
            go_wp2_with fail
            go_roundw
            case rel => exact ⟨y + 1, hlt, by rw [HS.out, HQ.out], int_succ y, (by repeat first | apply wxr | with_reducible assumption | apply wxe | apply wxa | apply wxd)⟩
            case measure => simp [intOf]; omega
    · have HY := Lib.hid (show y = rows.length by omega)
      go_wp2_with fail
      go_ret
      exact ⟨ret_str (by rw [HF.out, HY.out]), (by repeat first | apply wxr | with_reducible assumption | apply wxe | apply wxa | apply wxd)⟩
end
section
open Go.ChangeShapes Go.WideShapes Go.ChangeAt Go.RowKit
theorem tx_get {rows : List Int} {y W i : Nat} (h : i < W) : (txTo rows y W).getD i 0 = ch ((rowN rows y).testBit i) := by
  simp [txTo, List.getD, h]
theorem ch_35 (b : Bool) : decide (ch b = 35) = b := by cases b <;> decide
theorem rv_tx {rows : List Int} {y W : Nat} (hW : W ≤ 6) (h : rowN rows y < 2 ^ W) : rv (txTo rows y W) = rowN rows y := by
  apply Nat.eq_of_testBit_eq
  intro i
  rw [rv, txTo_len, rvTo_bit, show min W 6 = W by omega]
  by_cases hi : i < W
  · rw [tx_get hi, ch_35]; simp [hi]
  · rw [Nat.testBit_lt_two_pow (Nat.lt_of_lt_of_le h (Nat.pow_le_pow_right (by omega) (by omega)))]
    simp [hi]
theorem ch_47 (b : Bool) : ch b ≠ 47 := by cases b <;> decide
theorem tx_47 (rows : List Int) (y W : Nat) : (47 : UInt8) ∉ txTo rows y W := by
  intro h
  simp only [txTo, List.mem_map] at h
  obtain ⟨i, _, e⟩ := h
  exact ch_47 _ e
theorem prI_fmt {W : Nat} {rows : List Int} (h : regB W rows = true) : prI (ftTo W rows rows.length) = (W, rows) := by
  obtain ⟨W', e, h1, h2, h3, h4, hk⟩ := regB_bd h
  obtain rfl : W = W' := by omega
  have hs : Lib.split (ftTo W rows rows.length) [47] = lsTo W rows rows.length := by
    refine split_join 47 (fun e => ?_) fun q hq => ?_
    · have := lsTo_len W rows rows.length
      rw [e] at this; simp at this; omega
    · simp only [lsTo, List.mem_map] at hq
      obtain ⟨y, _, e⟩ := hq
      rw [← e]; exact tx_47 rows y W
  have hl : (lsTo W rows rows.length).map (fun r => ((rv r : Nat) : Int)) = rows := by
    apply List.ext_getElem
    · simp [lsTo_len]
    · intro i g1 g2
      have hi := hk i g2
      simp only [lsTo, List.getElem_map, List.getElem_range]
      rw [rv_tx h2 hi.2, nth_get g2, hi.1]
  have hd : ((lsTo W rows rows.length).getLastD []).length = W := by
    obtain ⟨n, hn⟩ : ∃ n, rows.length = n + 1 := ⟨rows.length - 1, by omega⟩
    rw [hn, lsTo_succ]
    simp [txTo_len]
  simp only [prI, hs, hl, hd]
end
section
open Go.ChangeShapes Go.WideShapes Go.ChangeAt Go.RowKit
/-- the rows that are done, the row at hand, the place in it, the width -/
structure PS where
  rs : List Int
  cur : Nat
  x : Nat
  W : Nat
def PS.all (s : PS) : List Int := s.rs ++ [(s.cur : Int)]
def psStep (c : UInt8) (s : PS) : Option PS :=
  if c = 47 then some ⟨s.all, 0, 0, s.W⟩ else if c = 35 then some ⟨s.rs, orN s.cur (shlN 1 s.x), s.x + 1, max s.W (s.x + 1)⟩ else if c = 46 then some ⟨s.rs, s.cur, s.x + 1, max s.W (s.x + 1)⟩ else none
def psRun : List UInt8 → PS → Option PS
  | [], s => some s
  | c :: l, s => (psStep c s).bind (psRun l)
theorem psRun_app : ∀ (l m : List UInt8) (s : PS), psRun (l ++ m) s = (psRun l s).bind (psRun m)
  | [], m, s => rfl
  | c :: l, m, s => by
    rw [List.cons_append, psRun, psRun]
    cases psStep c s with
    | none => rfl
    | some t => exact psRun_app l m t
def ps0 : PS := ⟨[], 0, 0, 0⟩
theorem mod_bit {n q : Nat} : n % 2 ^ (q + 1) = if n.testBit q then orN (n % 2 ^ q) (shlN 1 q) else n % 2 ^ q := by
  apply Nat.eq_of_testBit_eq
  intro i
  rw [Nat.testBit_mod_two_pow]
  by_cases hb : n.testBit q = true
  · rw [if_pos hb, orN, shlN, Nat.one_mul, Nat.testBit_or, Nat.testBit_mod_two_pow, Nat.testBit_two_pow]
    by_cases e : q = i
    · subst e; simp [hb]
    · have e2 : decide (i < q + 1) = decide (i < q) := by simp; omega
      rw [e2]; simp [e]
  · rw [if_neg hb, Nat.testBit_mod_two_pow]
    by_cases e : i = q
    · subst e; simp at hb; simp [hb]
    · have e2 : decide (i < q + 1) = decide (i < q) := by simp; omega
      rw [e2]
theorem psRun_tx (rows : List Int) (y : Nat) (rs : List Int) (W0 : Nat) : ∀ q, psRun (txTo rows y q) ⟨rs, 0, 0, W0⟩ = some ⟨rs, rowN rows y % 2 ^ q, q, max W0 q⟩
  | 0 => by simp [txTo, psRun, Nat.mod_one]
  | q + 1 => by
    have ih := psRun_tx rows y rs W0 q
    rw [mod_bit]
    cases hb : (rowN rows y).testBit q
    · rw [txTo_f hb, psRun_app, ih]
      simp [psRun, psStep]
    · rw [txTo_t hb, psRun_app, ih]
      simp [psRun, psStep]
theorem psRun_ft {W : Nat} {rows : List Int} (h : regB W rows = true) : ∀ k, k < rows.length → psRun (ftTo W rows (k + 1)) ps0 = some ⟨rows.take k, rowN rows k, W, W⟩ := by
  obtain ⟨W', e, h1, h2, h3, h4, hk⟩ := regB_bd h
  obtain rfl : W = W' := by omega
  intro k
  induction k with
  | zero =>
    intro h0
    have := psRun_tx rows 0 [] 0 W
    rw [ftTo_succ]
    show psRun (txTo rows 0 W) ⟨[], 0, 0, 0⟩ = _
    rw [this, Nat.mod_eq_of_lt (hk 0 h0).2]
    simp
  | succ k ih =>
    intro hlt
    have ih := ih (by omega)
    have e1 : ftHd W rows (k + 1) = ftTo W rows (k + 1) ++ [47] := by unfold ftHd; rw [if_neg (by omega)]
    have e2 : rows.take (k + 1) = rows.take k ++ [((rowN rows k : Nat) : Int)] := by
      rw [List.take_add_one, List.getElem?_eq_getElem (by omega), nth_get (by omega), (hk k (by omega)).1]; rfl
    have := psRun_tx rows (k + 1) (rows.take (k + 1)) W W
    rw [ftTo_succ, e1, psRun_app, psRun_app, ih]
    simp only [Option.bind_some]
    rw [psRun, psStep, if_pos rfl]
    simp only [Option.bind_some, psRun, PS.all]
    rw [← e2, this, Nat.mod_eq_of_lt (hk (k + 1) hlt).2]
    simp
/-- both readings in one: the region whose text this is -/
def pB (s : List UInt8) : Bool := regB (prI s).1 (prI s).2 && decide (fmtV (prI s).1 (prI s).2 = s)
def pW (s : List UInt8) : Int := if pB s then ((prI s).1 : Int) else 0
def pR (s : List UInt8) : List Int := if pB s then (prI s).2 else []
theorem pB_no1 {s : List UInt8} (h : regB (prI s).1 (prI s).2 = false) : pB s = false := by simp [pB, h]
theorem pB_no2 {s : List UInt8} (h : fmtV (prI s).1 (prI s).2 ≠ s) : pB s = false := by simp [pB, h]
theorem pB_yes {s : List UInt8} (h : regB (prI s).1 (prI s).2 = true) (h2 : fmtV (prI s).1 (prI s).2 = s) : pB s = true := by simp [pB, h, h2]
/-- a text that is read is a region's text -/
theorem pB_fmt {s : List UInt8} (h : pB s = true) : ∃ (W : Nat) (rows : List Int), regB W rows = true ∧ s = ftTo W rows rows.length ∧ prI s = (W, rows) := by
  simp only [pB, Bool.and_eq_true, decide_eq_true_eq] at h
  refine ⟨(prI s).1, (prI s).2, h.1, ?_, rfl⟩
  have := h.2
  rw [fmtV_yes h.1] at this
  exact this.symm
theorem pB_run {s : List UInt8} (h : pB s = true) : ∃ t, psRun s ps0 = some t ∧ ((t.W : Int), t.all) = (((prI s).1 : Int), (prI s).2) ∧ regB t.W t.all = true := by
  obtain ⟨W, rows, hr, hs, hp⟩ := pB_fmt h
  obtain ⟨W', e, h1, h2, h3, h4, hk⟩ := regB_bd hr
  obtain ⟨n, hn⟩ : ∃ n, rows.length = n + 1 := ⟨rows.length - 1, by omega⟩
  have hrun := psRun_ft hr n (by omega)
  rw [← hn, ← hs] at hrun
  have e2 : rows.take n ++ [((rowN rows n : Nat) : Int)] = rows := by
    have : rows.take (n + 1) = rows.take n ++ [((rowN rows n : Nat) : Int)] := by
      rw [List.take_add_one, List.getElem?_eq_getElem (by omega), nth_get (by omega), (hk n (by omega)).1]; rfl
    rw [← this, List.take_of_length_le (by omega)]
  refine ⟨_, hrun, ?_, ?_⟩
  · rw [hp]; simp only [PS.all, e2]
  · simp only [PS.all, e2]; exact hr
theorem ft_hd (W : Nat) (rows : List Int) : ∀ k, (ftHd W rows k).length ≤ k * (W + 1)
  | 0 => by simp [ftHd]
  | k + 1 => by
    have ih := ft_hd W rows k
    unfold ftHd
    rw [if_neg (by omega), ftTo_succ, Nat.succ_mul]
    simp only [List.length_append, txTo_len, List.length_cons, List.length_nil]
    omega
theorem ft_len_le {W : Nat} {rows : List Int} (h : regB W rows = true) : (ftTo W rows rows.length).length ≤ 41 := by
  obtain ⟨W', e, h1, h2, h3, h4, hk⟩ := regB_bd h
  obtain ⟨n, hn⟩ : ∃ n, rows.length = n + 1 := ⟨rows.length - 1, by omega⟩
  rw [hn, ftTo_succ, List.length_append, txTo_len]
  have h5 := ft_hd W rows n
  have h6 : n * (W + 1) ≤ 5 * 7 := Nat.mul_le_mul (by omega) (by omega)
  omega
theorem pB_len {s : List UInt8} (h : pB s = true) : s.length ≤ 41 := by
  obtain ⟨W, rows, hr, hs, _⟩ := pB_fmt h
  rw [hs]; exact ft_len_le hr
/-- what the reference says at the end of its reading -/
theorem pB_end {s : List UInt8} {t : PS} (h : psRun s ps0 = some t) (hf : fmtV t.W t.all = s) (hn : s ≠ []) : pB s = true ∧ pW s = t.W ∧ pR s = t.all := by
  have hr : regB t.W t.all = true := by
    cases hr : regB t.W t.all
    · rw [fmtV_no hr] at hf; exact absurd hf.symm hn
    · rfl
  have hp : prI s = (t.W, t.all) := by rw [← hf, fmtV_yes hr]; exact prI_fmt hr
  have hb : pB s = true := pB_yes (by rw [hp]; exact hr) (by rw [hp]; exact hf)
  exact ⟨hb, by rw [pW, if_pos hb, hp], by rw [pR, if_pos hb, hp]⟩
theorem pB_end_no {s : List UInt8} {t : PS} (h : psRun s ps0 = some t) (hf : fmtV t.W t.all ≠ s) : pB s = false := by
  cases hb : pB s
  · rfl
  · obtain ⟨t', h1, h2, h3⟩ := pB_run hb
    rw [h] at h1
    cases h1
    have h4 := hb
    simp only [pB, Bool.and_eq_true, decide_eq_true_eq] at h4
    simp only [Prod.mk.injEq] at h2
    rw [← h2.1, ← h2.2] at h4
    exact absurd h4.2 hf
theorem pB_bad {s : List UInt8} {k : Nat} (h : psRun (s.take k) ps0 = none) : pB s = false := by
  cases hb : pB s
  · rfl
  · obtain ⟨t, h1, _⟩ := pB_run hb
    rw [← List.take_append_drop k s, psRun_app, h] at h1
    cases h1
theorem pB_nil : pB [] = false := by
  cases hb : pB []
  · rfl
  · obtain ⟨t, h1, _, h3⟩ := pB_run hb
    cases h1
    cases h3
theorem ps_take {s : List UInt8} {k : Nat} (h : k < s.length) {t : PS} (ht : psRun (s.take k) ps0 = some t) : psRun (s.take (k + 1)) ps0 = psStep (s.getD k 0) t := by
  have e : s.take (k + 1) = s.take k ++ [s.getD k 0] := by rw [List.take_add_one, List.getElem?_eq_getElem h, List.getD, List.getElem?_eq_getElem h]; rfl
  rw [e, psRun_app, ht]
  simp only [Option.bind_some, psRun]
  cases psStep (s.getD k 0) t <;> rfl
end
end Go.Proofs.YtchcepihmphdmaaGreatDoor
