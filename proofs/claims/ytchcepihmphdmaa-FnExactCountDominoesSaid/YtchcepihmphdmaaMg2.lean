/- Part 2 of a proof: bitops, addor, domino, ways, region, mask, domval, has, cdplain, fillspec, transfer, strip, cmap, cdimpl. -/
import Derived.Test.YtchcepihmphdmaaRows
import Derived.WalkKit
import Derived.ProofKit
import Derived.OpenShut
import Derived.BigQuiet
import Derived.Lib.Hide
import Derived.Deep.QuietTactic
import Derived.Outline
import Derived.Laws.EntriesVeiled
import Derived.Maps.RangeWalk
import Derived.Maps.OwnOps
import Derived.StillTailTactics
import Derived.Test.YtchcepihmphdmaaMg1
namespace Go.Proofs.Ytchcepihmphdmaa
set_option linter.unusedVariables false
section
open Go.ChangeShapes Go.WideShapes Go.ChangeAt Go.RowKit
def shlN (a k : Nat) : Nat := a * 2 ^ k
def shrN (a k : Nat) : Nat := a / 2 ^ k
def orN (a b : Nat) : Nat := a ||| b
def andN (a b : Nat) : Nat := a &&& b
def butN (a b : Nat) : Nat := a ^^^ (a &&& b)
theorem wrap_nat (a : Nat) (h : a < 9223372036854775808) : IntKind.i64.wrap (a : Int) = a := IntWalk.i64_in _ (by omega)
theorem op_shl (a k : Nat) (yk : IntKind) (hk : k ≤ 64) (h : shlN a k < 9223372036854775808) : Op.shift .shl .i64 (a : Int) yk (k : Int) = pure (.int .i64 (shlN a k : Nat)) := by
  have e : ((a : Int) * 2 ^ (k : Int).toNat) = ((shlN a k : Nat) : Int) := by simp [shlN]
  have h1 : ¬ ((k : Int) < 0) := by omega
  have h2 : min (k : Int).toNat IntKind.i64.bits = (k : Int).toNat := by simp [IntKind.bits]; omega
  unfold Op.shift
  rw [if_neg h1, h2]
  show pure (Value.int IntKind.i64 (IntKind.i64.wrap ((a : Int) * 2 ^ (k : Int).toNat))) = _
  rw [e, wrap_nat _ h]
theorem op_shr (a k : Nat) (yk : IntKind) (hk : k ≤ 64) : Op.shift .shr .i64 (a : Int) yk (k : Int) = pure (.int .i64 (shrN a k : Nat)) := by
  have h1 : ¬ ((k : Int) < 0) := by omega
  have h2 : min (k : Int).toNat IntKind.i64.bits = k := by simp [IntKind.bits]; omega
  unfold Op.shift
  rw [if_neg h1, h2]
  show pure (Value.int IntKind.i64 ((a : Int).fdiv (2 ^ k))) = _
  have e : (a : Int).fdiv (2 ^ k) = ((shrN a k : Nat) : Int) := by
    rw [Int.fdiv_eq_ediv_of_nonneg _ (by exact_mod_cast Nat.zero_le _)]
    simp [shrN]
  rw [e]
theorem ofNat_bits (a : Nat) (h : a < 9223372036854775808) : (BitVec.ofInt IntKind.i64.bits (a : Int)).toNat = a := by
  show (BitVec.ofInt 64 (a : Int)).toNat = a
  rw [BitVec.ofInt_natCast, BitVec.toNat_ofNat, Nat.mod_eq_of_lt (by omega)]
theorem and_lt (a b : Nat) (h : a < 9223372036854775808) : andN a b < 9223372036854775808 := Nat.lt_of_le_of_lt Nat.and_le_left h
theorem or_lt (a b : Nat) (h : a < 9223372036854775808) (h' : b < 9223372036854775808) : orN a b < 9223372036854775808 := Nat.or_lt_two_pow (n := 63) h h'
theorem but_lt (a b : Nat) (h : a < 9223372036854775808) : butN a b < 9223372036854775808 := Nat.xor_lt_two_pow (n := 63) h (and_lt a b h)
theorem op_or (a b : Nat) (h : a < 9223372036854775808) (h' : b < 9223372036854775808) : Op.intBits .or .i64 (a : Int) (b : Int) = pure (.int .i64 (orN a b : Nat)) := by
  unfold Op.intBits
  simp only [BitVec.toNat_or, ofNat_bits a h, ofNat_bits b h']
  show pure (Value.int IntKind.i64 (IntKind.i64.wrap ((orN a b : Nat) : Int))) = _
  rw [wrap_nat _ (or_lt a b h h')]
theorem op_and (a b : Nat) (h : a < 9223372036854775808) (h' : b < 9223372036854775808) : Op.intBits .and .i64 (a : Int) (b : Int) = pure (.int .i64 (andN a b : Nat)) := by
  unfold Op.intBits
  simp only [BitVec.toNat_and, ofNat_bits a h, ofNat_bits b h']
  show pure (Value.int IntKind.i64 (IntKind.i64.wrap ((andN a b : Nat) : Int))) = _
  rw [wrap_nat _ (and_lt a b h)]
theorem but_bits (a b : Nat) (h : a < 9223372036854775808) (h' : b < 9223372036854775808) : (BitVec.ofInt IntKind.i64.bits (a : Int) &&& ~~~ BitVec.ofInt IntKind.i64.bits (b : Int)).toNat = butN a b := by
  apply Nat.eq_of_testBit_eq
  intro i
  show (BitVec.ofInt 64 (a : Int) &&& ~~~ BitVec.ofInt 64 (b : Int)).getLsbD i = _
  have ha : (BitVec.ofInt 64 (a : Int)).getLsbD i = a.testBit i := congrArg (fun n => Nat.testBit n i) (ofNat_bits a h)
  have hb : (BitVec.ofInt 64 (b : Int)).getLsbD i = b.testBit i := congrArg (fun n => Nat.testBit n i) (ofNat_bits b h')
  rw [BitVec.getLsbD_and, BitVec.getLsbD_not, ha, hb, butN, Nat.testBit_xor, Nat.testBit_and]
  by_cases hi : i < 64
  · cases a.testBit i <;> cases b.testBit i <;> simp [hi]
  · have : a.testBit i = false := Nat.testBit_lt_two_pow (Nat.lt_of_lt_of_le h (by exact Nat.pow_le_pow_right (n := 2) (by omega) (show 63 ≤ i by omega)))
    simp [this]
theorem op_but (a b : Nat) (h : a < 9223372036854775808) (h' : b < 9223372036854775808) : Op.intBits .andNot .i64 (a : Int) (b : Int) = pure (.int .i64 (butN a b : Nat)) := by
  unfold Op.intBits
  simp only [but_bits a b h h', wrap_nat _ (but_lt a b h)]
theorem bit_of (m k : Nat) : andN (shrN m k) 1 = if m.testBit k then 1 else 0 := by
  rw [andN, shrN, Nat.and_one_is_mod, ← Nat.shiftRight_eq_div_pow, Nat.testBit_eq_decide_div_mod_eq, Nat.shiftRight_eq_div_pow]
  have := Nat.mod_two_eq_zero_or_one (m / 2 ^ k)
  rcases this with e | e <;> simp [e]
theorem bit_test (m k : Nat) : (((andN (shrN m k) 1 : Nat) : Int) == 1) = m.testBit k := by
  rw [bit_of]
  cases m.testBit k <;> rfl
theorem bit_test0 (m k : Nat) : (((andN (shrN m k) 1 : Nat) : Int) == 0) = !m.testBit k := by
  rw [bit_of]
  cases m.testBit k <;> rfl
theorem shr_zero (m k : Nat) : (((shrN m k : Nat) : Int) != 0) = !decide (m < 2 ^ k) := by
  have : shrN m k = 0 ↔ m < 2 ^ k := Nat.div_eq_zero_iff_lt (Nat.two_pow_pos k)
  by_cases h : m < 2 ^ k
  · have h2 := this.2 h
    simp [h2, h]
  · have h2 : ¬ shrN m k = 0 := fun e => h (this.1 e)
    simp [h2, h]
/-! the walk's own rules, ahead of the kit's -/
class Lt63 (a : Nat) : Prop where
  lt : a < 9223372036854775808
class ShlOK (a k : Nat) : Prop where
  le : k ≤ 64
  lt : shlN a k < 9223372036854775808
class Le64 (k : Nat) : Prop where
  le : k ≤ 64
class Le6 (k : Nat) : Prop where
  le : k ≤ 6
instance lt63_one : Lt63 1 := ⟨by omega⟩
instance lt63_zero : Lt63 0 := ⟨by omega⟩
instance lt63_and (a b : Nat) [h : Lt63 a] : Lt63 (andN a b) := ⟨and_lt a b h.lt⟩
instance lt63_but (a b : Nat) [h : Lt63 a] : Lt63 (butN a b) := ⟨but_lt a b h.lt⟩
instance lt63_or (a b : Nat) [h : Lt63 a] [h' : Lt63 b] : Lt63 (orN a b) := ⟨or_lt a b h.lt h'.lt⟩
instance lt63_shr (a k : Nat) [h : Lt63 a] : Lt63 (shrN a k) := ⟨Nat.lt_of_le_of_lt (Nat.div_le_self _ _) h.lt⟩
instance lt63_shl (a k : Nat) [h : ShlOK a k] : Lt63 (shlN a k) := ⟨h.lt⟩
@[go_sem ↓ 20000] theorem w_shl (a k : Nat) (yk : IntKind) [h : ShlOK a k] : Op.shift .shl .i64 (a : Int) yk (k : Int) = pure (.int .i64 (shlN a k : Nat)) := op_shl a k yk h.le h.lt
@[go_sem ↓ 20000] theorem w_shl1 (k : Nat) (yk : IntKind) [h : ShlOK 1 k] : Op.shift .shl .i64 (1 : Int) yk (k : Int) = pure (.int .i64 (shlN 1 k : Nat)) := op_shl 1 k yk h.le h.lt
@[go_sem ↓ 20000] theorem w_shr (a k : Nat) (yk : IntKind) [h : Le64 k] : Op.shift .shr .i64 (a : Int) yk (k : Int) = pure (.int .i64 (shrN a k : Nat)) := op_shr a k yk h.le
@[go_sem 20000] theorem w_or (a b : Nat) [h : Lt63 a] [h' : Lt63 b] : Op.intBits .or .i64 (a : Int) (b : Int) = pure (.int .i64 (orN a b : Nat)) := op_or a b h.lt h'.lt
@[go_sem 20000] theorem w_and (a b : Nat) [h : Lt63 a] [h' : Lt63 b] : Op.intBits .and .i64 (a : Int) (b : Int) = pure (.int .i64 (andN a b : Nat)) := op_and a b h.lt h'.lt
@[go_sem 20000] theorem w_and1 (a : Nat) [h : Lt63 a] : Op.intBits .and .i64 (a : Int) (1 : Int) = pure (.int .i64 (andN a 1 : Nat)) := op_and a 1 h.lt (by omega)
@[go_sem 20000] theorem w_but (a b : Nat) [h : Lt63 a] [h' : Lt63 b] : Op.intBits .andNot .i64 (a : Int) (b : Int) = pure (.int .i64 (butN a b : Nat)) := op_but a b h.lt h'.lt
@[go_sem 20000] theorem w_bit (m k : Nat) : (((andN (shrN m k) 1 : Nat) : Int) == 1) = m.testBit k := bit_test m k
@[go_sem 20000] theorem w_bit0 (m k : Nat) : (((andN (shrN m k) 1 : Nat) : Int) == 0) = !m.testBit k := bit_test0 m k
instance shlOK_one6 (W : Nat) [h : Le6 W] : ShlOK 1 W := ⟨by have := h.le; omega, by
  have : shlN 1 W ≤ 2 ^ 6 := by rw [shlN, Nat.one_mul]; exact Nat.pow_le_pow_right (by omega) h.le
  omega⟩
def mulN (a b : Nat) : Nat := a * b
def addN (a b : Nat) : Nat := a + b
class MulOK (a b : Nat) : Prop where
  lt : a * b < 9223372036854775808
class AddOK (a b : Nat) : Prop where
  lt : a + b < 9223372036854775808
@[go_sem ↓ 20000] theorem w_mul (a b : Nat) [h : MulOK a b] : Op.intArith .mul .i64 (a : Int) (b : Int) = pure (.int .i64 (mulN a b : Nat)) := by
  show pure (Value.int IntKind.i64 (IntKind.i64.wrap ((a : Int) * (b : Int)))) = _
  rw [← Int.natCast_mul, wrap_nat _ h.lt]; rfl
@[go_sem ↓ 20000] theorem w_add (a b : Nat) [h : AddOK a b] : Op.intArith .add .i64 (a : Int) (b : Int) = pure (.int .i64 (addN a b : Nat)) := by
  show pure (Value.int IntKind.i64 (IntKind.i64.wrap ((a : Int) + (b : Int)))) = _
  rw [← Int.natCast_add, wrap_nat _ h.lt]; rfl
instance mulOK6 (a b : Nat) [h : Le6 a] [h' : Le6 b] : MulOK a b := ⟨Nat.lt_of_le_of_lt (Nat.mul_le_mul h.le h'.le) (by omega)⟩
end
section
open Go.ChangeShapes Go.WideShapes Go.ChangeAt Go.RowKit
theorem add_or {n k : Nat} (h : n.testBit k = false) : n + 2 ^ k = n ||| 2 ^ k := by
  have hr : n % 2 ^ (k + 1) < 2 ^ k := by
    rw [Nat.testBit_eq_decide_div_mod_eq, decide_eq_false_iff_not] at h
    have h1 : n / 2 ^ k % 2 = 0 := by omega
    rw [Nat.pow_succ, Nat.mod_mul, h1]
    have := Nat.mod_lt n (Nat.two_pow_pos k)
    omega
  have e0 := Nat.div_add_mod n (2 ^ (k + 1))
  have h1 := Nat.two_pow_add_eq_or_of_lt (i := k) hr 1
  have h2 := Nat.two_pow_add_eq_or_of_lt (i := k + 1) (Nat.mod_lt n (Nat.two_pow_pos _)) (n / 2 ^ (k + 1))
  have hlt : 2 ^ k * 1 + n % 2 ^ (k + 1) < 2 ^ (k + 1) := by rw [Nat.pow_succ]; rw [Nat.pow_succ] at hr; omega
  have h3 := Nat.two_pow_add_eq_or_of_lt (i := k + 1) hlt (n / 2 ^ (k + 1))
  rw [Nat.mul_one] at h1 h3
  generalize 2 ^ (k + 1) * (n / 2 ^ (k + 1)) = q at e0 h2 h3
  generalize n % 2 ^ (k + 1) = r at e0 h1 h2 h3
  have e1 : n + 2 ^ k = q + (2 ^ k + r) := by omega
  rw [e1, h3, h1, Nat.or_comm (2 ^ k), ← Nat.or_assoc, ← h2, e0]
theorem addN_or {n k : Nat} (h : n.testBit k = false) : addN n (shlN 1 k) = orN n (shlN 1 k) := by
  unfold addN orN shlN; rw [Nat.one_mul]; exact add_or h
theorem or_bit_lt {down x : Nat} (h : down < 2 ^ (x + 1)) : orN down (shlN 1 x) < 2 ^ (x + 1) := by
  unfold orN shlN
  exact Nat.or_lt_two_pow h (by rw [Nat.one_mul]; exact Nat.pow_lt_pow_right (by omega) (by omega))
end
section
open Go.ChangeShapes Go.WideShapes Go.ChangeAt Go.RowKit
def bump (f : Nat → Int) (d : Nat) : Nat → Int := upd f d (wrap64 (f d + 1))
/-- the counts after the places from w - r on have been filled -/
def dmF (w used : Nat) : Nat → Nat → (Nat → Int) → Nat → Int
  | 0, down, f => bump f down
  | 1, down, f => if used.testBit (w - 1) then bump f down else bump f (orN down (shlN 1 (w - 1)))
  | r + 2, down, f =>
    if used.testBit (w - (r + 2)) then dmF w used (r + 1) down f
    else if used.testBit (w - (r + 2) + 1) then dmF w used (r + 1) (orN down (shlN 1 (w - (r + 2)))) f
    else dmF w used r down (dmF w used (r + 1) (orN down (shlN 1 (w - (r + 2)))) f)
def waysTo (w used : Nat) : List Int := tab (2 ^ w) (dmF w used w 0 fun _ => 0)
def fillV (A B C : Nat) : Value := .func (Fn.func 78) #[] #[.pointer (some ⟨A, 0, none⟩), .pointer (some ⟨B, 0, none⟩), .pointer (some ⟨C, 0, none⟩)]
def fillT : TypeId := 91
def FillSt (W0 w : World) (A B C g wd : Nat) (f : Nat → Int) : Prop :=
  Held W0 w [rowI (.slice (some ⟨g, 0, none⟩) (2 ^ wd) (2 ^ wd)) (tab (2 ^ wd) f), boxR A 3 (.int .i64 wd), boxR B 22 (.slice (some ⟨g, 0, none⟩) (2 ^ wd) (2 ^ wd)), boxR C fillT (fillV A B C)]
theorem FillSt.kA {W0 w : World} {A B C g wd : Nat} {f : Nat → Int} (H : FillSt W0 w A B C g wd f) : w.cell? ⟨A, 0, none⟩ = some (.int .i64 wd) := (Held.box H (List.mem_cons_of_mem _ List.mem_cons_self)).1
theorem FillSt.kB {W0 w : World} {A B C g wd : Nat} {f : Nat → Int} (H : FillSt W0 w A B C g wd f) : w.cell? ⟨B, 0, none⟩ = some (.slice (some ⟨g, 0, none⟩) (2 ^ wd) (2 ^ wd)) := (Held.box H (List.mem_cons_of_mem _ (List.mem_cons_of_mem _ List.mem_cons_self))).1
theorem FillSt.kC {W0 w : World} {A B C g wd : Nat} {f : Nat → Int} (H : FillSt W0 w A B C g wd f) : w.cell? ⟨C, 0, none⟩ = some (fillV A B C) := (Held.box H (List.mem_cons_of_mem _ (List.mem_cons_of_mem _ (List.mem_cons_of_mem _ List.mem_cons_self)))).1
set_option maxHeartbeats 1000000 in
theorem dmfill_zero (W0 : World) (A B C g wd used down : Nat) (f : Nat → Int) (w : World) (hd : down < 2 ^ wd) (hw : wd ≤ 6) (H : FillSt W0 w A B C g wd f) :
    Calls Try.prog 78 #[.int .i64 wd, .int .i64 used, .int .i64 down, .pointer (some ⟨A, 0, none⟩), .pointer (some ⟨B, 0, none⟩), .pointer (some ⟨C, 0, none⟩)] w fun e w' => e = .returned (.tuple #[]) ∧ FillSt W0 w' A B C g wd (bump f down) := by
  have kA := H.kA
  have kB := H.kB
  obtain ⟨k1, k2⟩ := Held.cellRow H hd
  have HS := Lib.hid (Held.storeRow H down (wrap64 (f down + 1)))
  have hlen : 2 ^ wd ≤ 64 := Nat.pow_le_pow_right (n := 2) (by omega) (show wd ≤ 6 from hw)
  have HH := Lib.hid H
  clear H
  obtain ⟨n, hn⟩ : ∃ n, n = 2 ^ wd := ⟨_, rfl⟩
  rw [← hn] at kB hd hlen
  have HN := Lib.hid hn
  clear hn
  go_enter Try.func78, Try.ntmps78
  go_wp2_with fail
  go_end0
  exact ⟨rfl, HS.out⟩
theorem dmF_bit {w used r down : Nat} {f : Nat → Int} (h : used.testBit (w - (r + 1)) = true) : dmF w used (r + 1) down f = dmF w used r down f := by
  cases r with
  | zero => simp [dmF, h]
  | succ r => rw [dmF, if_pos h]
theorem HeldTo {W0 w w' : World} {A B C g wd : Nat} {f : Nat → Int} (H : FillSt W0 w A B C g wd f) (h : ∃ x, w' = ext w x) : FillSt W0 w' A B C g wd f := Held.to H h
theorem FillSt.drew {W0 w : World} {A B C g wd : Nat} {f : Nat → Int} (H : FillSt W0 w A B C g wd f) (x : Ext) : FillSt W0 (ext w x) A B C g wd f := Held.ext H x
theorem fillSt_next {x : Nat} {u d p q r : Value} {w : World} {Q : Ending → World → Prop} (h : Calls Try.prog 78 #[.int .i64 ((x + 1 : Nat) : Int), u, d, p, q, r] w Q) : Calls Try.prog 78 #[.int .i64 ((x : Int) + 1), u, d, p, q, r] w Q := h
theorem fillSt_next2 {x : Nat} {u d p q r : Value} {w : World} {Q : Ending → World → Prop} (h : Calls Try.prog 78 #[.int .i64 ((x + 2 : Nat) : Int), u, d, p, q, r] w Q) : Calls Try.prog 78 #[.int .i64 ((x : Int) + 2), u, d, p, q, r] w Q := h
@[go_sem ↓ 20000] theorem w_shr1 (a k : Nat) (yk : IntKind) [h : Le64 (k + 1)] : Op.shift .shr .i64 (a : Int) yk ((k : Int) + 1) = pure (.int .i64 (shrN a (k + 1) : Nat)) := op_shr a (k + 1) yk h.le
set_option maxRecDepth 100000 in
set_option maxHeartbeats 2000000 in
theorem dmfill_any (W0 : World) (A B C g wd used : Nat) [Lt63 used] (hw : wd ≤ 6) : ∀ (r x down : Nat) (f : Nat → Int) (w : World), x + r = wd → down < 2 ^ x → FillSt W0 w A B C g wd f →
    Calls Try.prog 78 #[.int .i64 x, .int .i64 used, .int .i64 down, .pointer (some ⟨A, 0, none⟩), .pointer (some ⟨B, 0, none⟩), .pointer (some ⟨C, 0, none⟩)] w fun e w' => e = .returned (.tuple #[]) ∧ FillSt W0 w' A B C g wd (dmF wd used r down f) := by
  intro r
  induction r using Nat.strongRecOn with
  | ind r ih =>
    intro x down f w hx hd H
    cases r with
    | zero =>
      obtain rfl : x = wd := by omega
      exact dmfill_zero W0 A B C g x used down f w hd hw H
    | succ r =>
      have hlt : x < wd := by omega
      have hx6 : x ≤ 6 := by omega
      have hbt := bit_test used x
      haveI : Le64 x := ⟨by omega⟩
      haveI : Le6 x := ⟨by omega⟩
      have kA := H.kA
      have kC := H.kC
      unfold fillV at kC
      have HX := Lib.hid (show x = wd - (r + 1) by omega)
      have hd2 : down < 2 ^ (x + 1) := Nat.lt_of_lt_of_le hd (Nat.pow_le_pow_right (by omega) (by omega))
      haveI : Lt63 down := ⟨by have : 2 ^ x ≤ 2 ^ 6 := Nat.pow_le_pow_right (by omega) hx6; omega⟩
      have IH := Lib.hid fun d f hd w H => fillSt_next (ih r (by omega) (x + 1) d f w (by omega) hd H)
      have IH2 := Lib.hid fun (s : Nat) (hs : r = s + 1) d f hd w H => fillSt_next2 (ih s (by omega) (x + 2) d f w (by omega) hd H)
      cases hb : used.testBit x
      · rw [hb] at hbt
        have hle : decide (wd ≤ x) = false := decide_eq_false (by omega)
        haveI : ShlOK 1 x := inferInstance
        have hor := or_bit_lt hd2
        have HB := Lib.hid hb
        clear hb
        cases r with
        | zero =>
          have hx1 : decide ((x : Int) + 1 < wd) = false := decide_eq_false (by omega)
          have ex : wd - 1 = x := by have := HX.out; omega
          have HF := Lib.hid (show dmF wd used (0 + 1) down f = dmF wd used 0 (orN down (shlN 1 x)) f by simp [dmF, ex, HB.out])
          clear ex
          have HH := Lib.hid H
          clear H hx
          go_enter Try.func78, Try.ntmps78
          go_wp2_with fail
          go_still_tail 8, (by kernel_rfl)
          change wpList _ _ _ _ _ w.drew
          have H := HeldTo HH.out (show ∃ x, w.drew = ext w x from (by repeat (first | exact ext_refl _ | (with_reducible assumption) | refine ext_ext' ?_ _ | refine ext_alloc' ?_ _ | refine ext_drew' ?_)))
          clear kA kC
          generalize w.drew = w2 at H ⊢
          go_wp2_with (first | (go_at_call 78; go_loud (refine (IH.out (orN down (shlN 1 x)) f hor _ H).mono ?_; rintro e w' ⟨rfl, H2⟩; have kA := H2.kA)))
          go_end0
          exact ⟨rfl, by rw [HF.out]; assumption⟩
        | succ r =>
          have hx1 : decide ((x : Int) + 1 < wd) = true := decide_eq_true (by omega)
          haveI : Le64 (x + 1) := ⟨by omega⟩
          have hd3 : down < 2 ^ (x + 2) := Nat.lt_of_lt_of_le hd (Nat.pow_le_pow_right (by omega) (by omega))
          have hbt2 := bit_test0 used (x + 1)
          have ex : wd - (r + 2) = x := by have := HX.out; omega
          cases hb2 : used.testBit (x + 1)
          · rw [hb2] at hbt2
            have HF := Lib.hid (show dmF wd used (r + 1 + 1) down f = dmF wd used r down (dmF wd used (r + 1) (orN down (shlN 1 x)) f) by rw [dmF, ex, if_neg (by simp [HB.out]), if_neg (by simp [hb2])])
            clear ex
            have HH := Lib.hid H
            have HB2 := Lib.hid hb2
            clear H hx hb2
            go_enter Try.func78, Try.ntmps78
            go_wp2_with fail
            go_still_tail 8, (by kernel_rfl)
            change wpList _ _ _ _ _ w.drew
            have H := HeldTo HH.out (show ∃ x, w.drew = ext w x from (by repeat (first | exact ext_refl _ | (with_reducible assumption) | refine ext_ext' ?_ _ | refine ext_alloc' ?_ _ | refine ext_drew' ?_)))
            clear kA kC
            generalize w.drew = w2 at H ⊢
            go_wp2_with (first | (go_at_call 78; refine (IH.out (orN down (shlN 1 x)) f hor _ H).mono ?_; rintro e w' ⟨rfl, H2⟩; have kA := H2.kA; have kC := H2.kC; unfold fillV at kC; clear H) | (go_at_call 78; go_loud (refine (IH2.out r rfl down _ hd3 _ H2).mono ?_; rintro e w' ⟨rfl, H3⟩)))
            go_end0
            exact ⟨rfl, by rw [HF.out]; assumption⟩
          · rw [hb2] at hbt2
            have HF := Lib.hid (show dmF wd used (r + 1 + 1) down f = dmF wd used (r + 1) (orN down (shlN 1 x)) f by rw [dmF, ex, if_neg (by simp [HB.out]), if_pos (by simp [hb2])])
            clear ex
            have HH := Lib.hid H
            have HB2 := Lib.hid hb2
            clear H hx hb2
            go_enter Try.func78, Try.ntmps78
            go_wp2_with fail
            go_still_tail 8, (by kernel_rfl)
            change wpList _ _ _ _ _ w.drew
            have H := HeldTo HH.out (show ∃ x, w.drew = ext w x from (by repeat (first | exact ext_refl _ | (with_reducible assumption) | refine ext_ext' ?_ _ | refine ext_alloc' ?_ _ | refine ext_drew' ?_)))
            clear kA kC
            generalize w.drew = w2 at H ⊢
            go_wp2_with (first | (go_at_call 78; go_loud (refine (IH.out (orN down (shlN 1 x)) f hor _ H).mono ?_; rintro e w' ⟨rfl, H2⟩; have kA := H2.kA; clear H)))
            go_end0
            exact ⟨rfl, by rw [HF.out]; assumption⟩
      · rw [hb] at hbt
        have HF := Lib.hid (dmF_bit (w := wd) (used := used) (r := r) (down := down) (f := f) (by rw [← HX.out]; exact hb))
        have hle : decide (wd ≤ x) = false := decide_eq_false (by omega)
        have HH := Lib.hid H
        clear H hx
        go_enter Try.func78, Try.ntmps78
        go_wp2_with (first | (go_at_call 78; go_loud (refine (IH.out down f hd2 _ HH.out).mono ?_; rintro e w' ⟨rfl, H2⟩)))
        go_end0
        exact ⟨rfl, by rw [HF.out]; assumption⟩
end
section
open Go.ChangeShapes Go.WideShapes Go.ChangeAt Go.RowKit
theorem pow6 {wd : Nat} (hw : wd ≤ 6) : 2 ^ wd ≤ 64 := Nat.pow_le_pow_right (n := 2) (by omega) hw
def dW (wd a b : Nat) : Int := nth (waysTo wd a) b
theorem waysTo_tab {wd N a : Nat} (hN : N = 2 ^ wd) : waysTo wd a = tab N (dW wd a) := by
  have h := tab_nths (waysTo wd a)
  have hl : (waysTo wd a).length = N := by rw [hN]; exact tab_len _ _
  rw [hl] at h
  exact h.symm
theorem fillSt_mk {W0 w1 : World} {A g wd : Nat} {f : Nat → Int} (H : Held W0 w1 [rowI (.slice (some ⟨g, 0, none⟩) (2 ^ wd) (2 ^ wd)) (tab (2 ^ wd) f), boxR A 3 (.int .i64 wd)]) :
    FillSt W0 ((w1.alloc (.cells #[.slice (some ⟨g, 0, none⟩) (2 ^ wd) (2 ^ wd)] 22)).alloc (.cells #[fillV A w1.heap.size (w1.heap.size + 1)] fillT)) A w1.heap.size (w1.heap.size + 1) g wd f := by
  have h := (H.newBox 22 (.slice (some ⟨g, 0, none⟩) (2 ^ wd) (2 ^ wd))).newBox fillT (fillV A w1.heap.size (w1.heap.size + 1))
  rw [World.size_alloc] at h
  refine h.front ?_
  refine (List.perm_append_comm (l₁ := [_, _])).trans ?_
  exact List.Perm.cons _ (List.Perm.cons _ (List.Perm.swap _ _ _))
theorem dmfill_start (W0 : World) (A B C g wd used : Nat) [Lt63 used] (hw : wd ≤ 6) (w : World) (H : FillSt W0 w A B C g wd fun _ => 0) :
    Calls Try.prog 78 #[.int .i64 0, .int .i64 used, .int .i64 0, .pointer (some ⟨A, 0, none⟩), .pointer (some ⟨B, 0, none⟩), .pointer (some ⟨C, 0, none⟩)] w fun e w' => e = .returned (.tuple #[]) ∧ FillSt W0 w' A B C g wd (dmF wd used wd 0 fun _ => 0) :=
  dmfill_any W0 A B C g wd used hw wd 0 0 _ w (by omega) (by simp) H
set_option maxHeartbeats 1000000 in
theorem dominoWays_row (wd used N : Nat) [Lt63 used] (hw : wd ≤ 6) (hN : N = 2 ^ wd) (w : World) :
    Calls Try.prog 56 #[.int .i64 wd, .int .i64 used] w fun e w' => ∃ g, e = .returned (.slice (some ⟨g, 0, none⟩) N N) ∧ Held w w' [rowI (.slice (some ⟨g, 0, none⟩) N N) (tab N (dW wd used))] := by
  rw [← waysTo_tab hN]
  subst hN
  haveI : Le6 wd := ⟨hw⟩
  have hlen := pow6 hw
  have H := (Held.start w).newBox 3 (.int .i64 wd)
  have hsh : ((shlN 1 wd : Nat) : Int) = ((2 ^ wd : Nat) : Int) := by simp [shlN]
  have HS := Lib.hid hsh
  clear hsh
  go_enter Try.func56, Try.ntmps56
  go_wp2_with (first | (at_make; refine wpList_make_held rfl _ _ _ rfl elemInt H .i64 .i64 _ _ (2 ^ wd) rfl rfl HS.out HS.out (by omega) (by unfold maxLen; omega) ?_; intro w1 H1; rw [World.size_alloc] at H1; have HF := Lib.hid (fillSt_mk H1.zeros); clear H H1) | (go_at_call 78; go_loud (refine (dmfill_start _ _ _ _ _ _ _ hw _ HF.out).mono ?_; rintro e w' ⟨rfl, H2⟩; have kB := H2.kB)))
  go_ret
  exact ⟨_, rfl, H2.first⟩
theorem dominoWays_any (wd used : Nat) [Lt63 used] (hw : wd ≤ 6) (w : World) :
    Calls Try.prog 56 #[.int .i64 wd, .int .i64 used] w fun e w' => ∃ v', e = .returned v' ∧ Held w w' [rowI v' (waysTo wd used)] :=
  (dominoWays_row wd used _ hw rfl w).mono fun _ _ ⟨_, he, H⟩ => ⟨_, he, by rw [waysTo_tab rfl]; exact H⟩
end
section
open Go.ChangeShapes Go.WideShapes Go.ChangeAt Go.RowKit
def rowB (wd x : Int) : Bool := decide (0 ≤ x) && decide (x < (shlN 1 wd.toNat : Nat))
def regB (wd : Int) (rows : List Int) : Bool := btw wd 1 6 && btw rows.length 1 6 && allTo (fun k => rowB wd (nth rows k)) rows.length
theorem regB_w {wd : Int} {rows : List Int} (h : btw wd 1 6 = false) : regB wd rows = false := by simp [regB, h]
theorem regB_h {wd : Int} {rows : List Int} (h : btw rows.length 1 6 = false) : regB wd rows = false := by simp [regB, h]
theorem regB_row {wd : Int} {rows : List Int} {k : Nat} (h : k < rows.length) (hk : rowB wd (nth rows k) = false) : regB wd rows = false := by
  simp [regB, allTo_false (p := fun k => rowB wd (nth rows k)) h hk]
theorem isSide_any (n : Int) (w : World) : Calls Try.prog 76 #[.int .i64 n] w fun e w' => e = .returned (.bool (btw n 1 6)) ∧ ∃ x, w' = ext w x := by
  go_enter Try.func76, Try.ntmps76
  go_wp2_with (first | (go_at_call 65; refine (between_any _ _ _ _).mono ?_; rintro e w' ⟨rfl, xe, rfl⟩))
  go_ret
  exact ⟨rfl, (by repeat (first | exact ext_refl _ | (with_reducible assumption) | refine ext_ext' ?_ _ | refine ext_alloc' ?_ _ | refine ext_drew' ?_))⟩
theorem isSide_b (n : Int) (b : Bool) (h : btw n 1 6 = b) (w : World) : Calls Try.prog 76 #[.int .i64 n] w fun e w' => e = .returned (.bool b) ∧ ∃ x, w' = ext w x := h ▸ isSide_any n w
theorem isRegion_any (wd : Int) (rows : List Int) (v : Value) (w : World) (h : IntsAt w v rows) :
    Calls Try.prog 45 #[.agg #[.int .i64 wd, v]] w fun e w' => e = .returned (.bool (regB wd rows)) ∧ ∃ x, w' = ext w x := by
  obtain ⟨a, b, o, cap, rfl, hc1, hc2, hc3, hcell⟩ := h.opn
  cases h1 : btw wd 1 6
  · clear hcell
    go_enter Try.func45, Try.ntmps45
    go_wp2_with (first | (go_at_call 76; refine (isSide_b _ _ (by assumption) _).mono ?_; rintro e w' ⟨rfl, xe, rfl⟩))
    go_ret
    exact ⟨ret_bool (regB_w h1).symm, (by repeat (first | exact ext_refl _ | (with_reducible assumption) | refine ext_ext' ?_ _ | refine ext_alloc' ?_ _ | refine ext_drew' ?_))⟩
  obtain ⟨b1, b2⟩ := btw_iff.1 h1
  cases h2 : btw rows.length 1 6
  · clear hcell
    go_enter Try.func45, Try.ntmps45
    go_wp2_with (first | (go_at_call 76; refine (isSide_b _ _ (by assumption) _).mono ?_; rintro e w' ⟨rfl, xe, rfl⟩))
    go_ret
    exact ⟨ret_bool (regB_h h2).symm, (by repeat (first | exact ext_refl _ | (with_reducible assumption) | refine ext_ext' ?_ _ | refine ext_alloc' ?_ _ | refine ext_drew' ?_))⟩
  obtain ⟨W, rfl⟩ : ∃ W : Nat, wd = W := ⟨wd.toNat, by omega⟩
  have h6 : Le6 W := ⟨by omega⟩
  have HF := Lib.hid (show regB W rows = (btw W 1 6 && btw rows.length 1 6 && allTo (fun k => rowB W (nth rows k)) rows.length) from rfl)
  go_enter Try.func45, Try.ntmps45
  go_wp2_with (first | (go_at_call 76; refine (isSide_b _ _ (by assumption) _).mono ?_; rintro e w' ⟨rfl, xe, rfl⟩))
  go_loopw [19] (fun i wr => ∃ k : Nat, k ≤ rows.length ∧ i = .int .i64 k ∧ allTo (fun k => rowB W (nth rows k)) k = true ∧ ∃ x, wr = ext (w.alloc (.cells #[.int .i64 W, .slice a rows.length cap] 28)) x) (fun i _ => rows.length - (intOf i).toNat)
  case atStart => exact ⟨0, Nat.zero_le _, rfl, rfl, (by repeat (first | exact ext_refl _ | (with_reducible assumption) | refine ext_ext' ?_ _ | refine ext_alloc' ?_ _ | refine ext_drew' ?_))⟩
  case round =>
    obtain ⟨k, hk, rfl, hall, x, rfl⟩ := hrel
    have HA := Lib.hid hall
    clear hall
    by_cases hlt : k < rows.length
    · obtain ⟨hb, hi, hck⟩ := hcell k hlt
      clear hcell
      by_cases hneg : nth rows k < 0
      · go_wp2_with fail
        go_ret
        exact ⟨ret_bool (regB_row hlt (by simp [rowB]; omega)).symm, (by repeat (first | exact ext_refl _ | (with_reducible assumption) | refine ext_ext' ?_ _ | refine ext_alloc' ?_ _ | refine ext_drew' ?_))⟩
      by_cases hbig : ((shlN 1 W : Nat) : Int) ≤ nth rows k
      · go_wp2_with fail
        go_ret
        exact ⟨ret_bool (regB_row hlt (by simp [rowB]; omega)).symm, (by repeat (first | exact ext_refl _ | (with_reducible assumption) | refine ext_ext' ?_ _ | refine ext_alloc' ?_ _ | refine ext_drew' ?_))⟩
      · go_wp2_with fail
        go_roundw
        case rel => exact ⟨k + 1, hlt, int_succ k, allTo_succ HA.out (by simp [rowB]; omega), (by repeat (first | exact ext_refl _ | (with_reducible assumption) | refine ext_ext' ?_ _ | refine ext_alloc' ?_ _ | refine ext_drew' ?_))⟩
        case measure => simp [intOf]; omega
    · have hks := Lib.hid (show k = rows.length by omega)
      go_wp2_with fail
      go_ret
      exact ⟨ret_bool (by rw [HF.out, h1, h2, ← hks.out, HA.out]; rfl), (by repeat (first | exact ext_refl _ | (with_reducible assumption) | refine ext_ext' ?_ _ | refine ext_alloc' ?_ _ | refine ext_drew' ?_))⟩
theorem specIsRegion_any (wd : Int) (rows : List Int) (v : Value) (w : World) (h : IntsAt w v rows) :
    Calls Try.prog 54 #[.agg #[.int .i64 wd, v]] w fun e w' => e = .returned (.bool (regB wd rows)) ∧ ∃ x, w' = ext w x := by
  obtain ⟨a, b, o, cap, rfl, hc1, hc2, hc3, hcell⟩ := h.opn
  cases h1 : btw wd 1 6
  · clear hcell
    go_enter Try.func54, Try.ntmps54
    go_wp2_with (first | (go_at_call 67; refine (l1In_b _ _ _ _ (by assumption) _).mono ?_; rintro e w' ⟨rfl, xe, rfl⟩))
    go_ret
    exact ⟨ret_bool (regB_w h1).symm, (by repeat (first | exact ext_refl _ | (with_reducible assumption) | refine ext_ext' ?_ _ | refine ext_alloc' ?_ _ | refine ext_drew' ?_))⟩
  obtain ⟨b1, b2⟩ := btw_iff.1 h1
  cases h2 : btw rows.length 1 6
  · clear hcell
    go_enter Try.func54, Try.ntmps54
    go_wp2_with (first | (go_at_call 67; refine (l1In_b _ _ _ _ (by assumption) _).mono ?_; rintro e w' ⟨rfl, xe, rfl⟩))
    go_ret
    exact ⟨ret_bool (regB_h h2).symm, (by repeat (first | exact ext_refl _ | (with_reducible assumption) | refine ext_ext' ?_ _ | refine ext_alloc' ?_ _ | refine ext_drew' ?_))⟩
  obtain ⟨W, rfl⟩ : ∃ W : Nat, wd = W := ⟨wd.toNat, by omega⟩
  have h6 : Le6 W := ⟨by omega⟩
  have HF := Lib.hid (show regB W rows = (btw W 1 6 && btw rows.length 1 6 && allTo (fun k => rowB W (nth rows k)) rows.length) from rfl)
  go_enter Try.func54, Try.ntmps54
  go_wp2_with (first | (go_at_call 67; refine (l1In_b _ _ _ _ (by assumption) _).mono ?_; rintro e w' ⟨rfl, xe, rfl⟩))
  go_loopw [3] (fun i wr => ∃ k : Nat, k ≤ rows.length ∧ i = .int .i64 k ∧ allTo (fun k => rowB W (nth rows k)) k = true ∧ ∃ x, wr = ext (w.alloc (.cells #[.int .i64 W, .slice a rows.length cap] 28)) x) (fun i _ => rows.length - (intOf i).toNat)
  case atStart => exact ⟨0, Nat.zero_le _, rfl, rfl, (by repeat (first | exact ext_refl _ | (with_reducible assumption) | refine ext_ext' ?_ _ | refine ext_alloc' ?_ _ | refine ext_drew' ?_))⟩
  case round =>
    obtain ⟨k, hk, rfl, hall, x, rfl⟩ := hrel
    have HA := Lib.hid hall
    clear hall
    by_cases hlt : k < rows.length
    · obtain ⟨hb, hi, hck⟩ := hcell k hlt
      clear hcell
      by_cases hneg : nth rows k < 0
      · go_wp2_with fail
        refine wp_region_ext_lit (by kernel_rfl) (by kernel_rfl) ?_
        repeat (go_big_quiet_step (fail))
        refine wpQuiet_nil ?_
        intro _ hwq
        obtain ⟨xq, hwq⟩ := hwq
        subst hwq
        go_wp2_with fail
        go_ret
        exact ⟨ret_bool (regB_row hlt (by simp [rowB]; omega)).symm, (by repeat (first | exact ext_refl _ | (with_reducible assumption) | refine ext_ext' ?_ _ | refine ext_alloc' ?_ _ | refine ext_drew' ?_))⟩
      have hneg' : decide (nth rows k < 0) = false := decide_eq_false hneg
      by_cases hbig : ((shlN 1 W : Nat) : Int) ≤ nth rows k
      · go_wp2_with fail
        refine wp_region_ext_lit (by kernel_rfl) (by kernel_rfl) ?_
        repeat (go_big_quiet_step (fail))
        refine wpQuiet_nil ?_
        intro _ hwq
        obtain ⟨xq, hwq⟩ := hwq
        subst hwq
        go_wp2_with fail
        go_ret
        exact ⟨ret_bool (regB_row hlt (by simp [rowB]; omega)).symm, (by repeat (first | exact ext_refl _ | (with_reducible assumption) | refine ext_ext' ?_ _ | refine ext_alloc' ?_ _ | refine ext_drew' ?_))⟩
      · have hbig' : decide (((shlN 1 W : Nat) : Int) ≤ nth rows k) = false := decide_eq_false hbig
        go_wp2_with fail
        refine wp_region_ext_lit (by kernel_rfl) (by kernel_rfl) ?_
        repeat (go_big_quiet_step (fail))
        refine wpQuiet_nil ?_
        intro _ hwq
        obtain ⟨xq, hwq⟩ := hwq
        subst hwq
        go_wp2_with fail
        go_roundw
        case rel => exact ⟨k + 1, hlt, int_succ k, allTo_succ HA.out (by simp [rowB]; omega), (by repeat (first | exact ext_refl _ | (with_reducible assumption) | refine ext_ext' ?_ _ | refine ext_alloc' ?_ _ | refine ext_drew' ?_))⟩
        case measure => simp [intOf]; omega
    · have hks := Lib.hid (show k = rows.length by omega)
      go_wp2_with fail
      go_ret
      exact ⟨ret_bool (by rw [HF.out, h1, h2, ← hks.out, HA.out]; rfl), (by repeat (first | exact ext_refl _ | (with_reducible assumption) | refine ext_ext' ?_ _ | refine ext_alloc' ?_ _ | refine ext_drew' ?_))⟩
end
section
open Go.ChangeShapes Go.WideShapes Go.ChangeAt Go.RowKit
def rowN (rows : List Int) (k : Nat) : Nat := (nth rows k).toNat
/-- the mask of the first k rows -/
def maskTo (W : Nat) (rows : List Int) : Nat → Nat := iter (fun k m => m + shlN (rowN rows k) (mulN k W)) 0
theorem maskTo_succ (W : Nat) (rows : List Int) (k : Nat) : maskTo W rows (k + 1) = maskTo W rows k + shlN (rowN rows k) (mulN k W) := rfl
def maskR (wd : Int) (rows : List Int) : Nat := maskTo wd.toNat rows rows.length
def maskV (wd : Int) (rows : List Int) : Nat := if regB wd rows then maskR wd rows else 0
theorem regB_bd {wd : Int} {rows : List Int} (h : regB wd rows = true) : ∃ W : Nat, wd = W ∧ 1 ≤ W ∧ W ≤ 6 ∧ 1 ≤ rows.length ∧ rows.length ≤ 6 ∧ ∀ k, k < rows.length → nth rows k = (rowN rows k : Nat) ∧ rowN rows k < 2 ^ W := by
  simp only [regB, Bool.and_eq_true, btw_iff] at h
  refine ⟨wd.toNat, by omega, by omega, by omega, by omega, by omega, fun k hk => ?_⟩
  have := allTo_true.1 h.2 k hk
  simp [rowB, shlN] at this
  have h2 : ((2 ^ wd.toNat : Nat) : Int) = 2 ^ wd.toNat := by simp
  refine ⟨by unfold rowN; omega, ?_⟩
  unfold rowN
  omega
theorem maskTo_lt {W : Nat} {rows : List Int} (h : ∀ k, k < rows.length → rowN rows k < 2 ^ W) : ∀ k, k ≤ rows.length → maskTo W rows k < 2 ^ (k * W) := by
  intro k
  induction k with
  | zero => intro _; simp [maskTo, iter]
  | succ k ih =>
    intro hk
    have h1 := ih (by omega)
    have h2 := h k (by omega)
    rw [maskTo_succ, shlN, mulN]
    have e : 2 ^ ((k + 1) * W) = 2 ^ W * 2 ^ (k * W) := by rw [Nat.add_mul, Nat.one_mul, Nat.pow_add, Nat.mul_comm]
    rw [e]
    have h3 : (rowN rows k + 1) * 2 ^ (k * W) ≤ 2 ^ W * 2 ^ (k * W) := Nat.mul_le_mul_right _ h2
    rw [Nat.add_mul, Nat.one_mul] at h3
    omega
theorem maskTo_or {W : Nat} {rows : List Int} (h : ∀ k, k < rows.length → rowN rows k < 2 ^ W) {k : Nat} (hk : k < rows.length) : orN (maskTo W rows k) (shlN (rowN rows k) (mulN k W)) = maskTo W rows (k + 1) := by
  have h1 := maskTo_lt h k (by omega)
  rw [maskTo_succ, orN, shlN, mulN, Nat.mul_comm (rowN rows k), Nat.or_comm, ← Nat.two_pow_add_eq_or_of_lt h1, Nat.add_comm]
theorem pow36 {k W : Nat} (hk : k ≤ 6) (hW : W ≤ 6) : 2 ^ (k * W) ≤ 68719476736 := by
  have : k * W ≤ 36 := Nat.mul_le_mul hk hW
  calc 2 ^ (k * W) ≤ 2 ^ 36 := Nat.pow_le_pow_right (by omega) this
    _ = 68719476736 := by decide
theorem shl_row_lt {r k W : Nat} (hr : r < 2 ^ W) (hk : k < 6) (hW : W ≤ 6) : shlN r (mulN k W) < 68719476736 := by
  have e : 2 ^ ((k + 1) * W) = 2 ^ W * 2 ^ (k * W) := by rw [Nat.add_mul, Nat.one_mul, Nat.pow_add, Nat.mul_comm]
  have h3 : (r + 1) * 2 ^ (k * W) ≤ 2 ^ W * 2 ^ (k * W) := Nat.mul_le_mul_right _ hr
  have h4 := pow36 (k := k + 1) (by omega) hW
  have h5 := Nat.two_pow_pos (k * W)
  rw [Nat.add_mul, Nat.one_mul, ← e] at h3
  unfold shlN mulN
  omega
theorem shlOK_row {r k W : Nat} (hr : r < 2 ^ W) (hk : k < 6) (hW : W ≤ 6) : ShlOK r (mulN k W) :=
  ⟨by have : k * W ≤ 6 * 6 := Nat.mul_le_mul (by omega) hW
      unfold mulN; omega, by have := shl_row_lt hr hk hW; omega⟩
theorem specMaskOf_any (wd : Int) (rows : List Int) (v : Value) (w : World) (h : IntsAt w v rows) :
    Calls Try.prog 63 #[.agg #[.int .i64 wd, v]] w fun e w' => e = .returned (.int .i64 (maskV wd rows : Nat)) ∧ ∃ x, w' = ext w x := by
  have h0 := h
  obtain ⟨a, b, o, cap, rfl, hc1, hc2, hc3, hcell⟩ := h.opn
  have HF := Lib.hid (show maskV wd rows = if regB wd rows then maskR wd rows else 0 from rfl)
  cases hr : regB wd rows
  · clear hcell
    by_cases hpos : 0 < rows.length
    all_goals
      go_enter Try.func63, Try.ntmps63
      go_wp2_with fail
      go_loopw [3, 4] (fun n i wr => i = .int .i64 0 ∧ n = .int .i64 0 ∧ ∃ x, wr = ext (w.alloc (.cells #[.int .i64 wd, .slice a rows.length cap] 28)) x) (fun n i _ => 0)
      case atStart => exact ⟨rfl, rfl, (by repeat (first | exact ext_refl _ | (with_reducible assumption) | refine ext_ext' ?_ _ | refine ext_alloc' ?_ _ | refine ext_drew' ?_))⟩
      case round =>
        obtain ⟨rfl, rfl, x, rfl⟩ := hrel
        go_wp2_with (first | (go_at_call 54; refine (specIsRegion_any _ _ _ _ (by first | (with_reducible assumption) | (with_reducible exact IntsAt.mono (by assumption) (bel_of_ext (by repeat (first | exact ext_refl _ | (with_reducible assumption) | refine ext_ext' ?_ _ | refine ext_alloc' ?_ _ | refine ext_drew' ?_)))) | (with_reducible exact RegionAt.mono (by assumption) (bel_of_ext (by repeat (first | exact ext_refl _ | (with_reducible assumption) | refine ext_ext' ?_ _ | refine ext_alloc' ?_ _ | refine ext_drew' ?_)))))).mono ?_; rintro e w' ⟨rfl, xe, rfl⟩))
        go_ret
        exact ⟨ret_int (by rw [HF.out, hr]; rfl), (by repeat (first | exact ext_refl _ | (with_reducible assumption) | refine ext_ext' ?_ _ | refine ext_alloc' ?_ _ | refine ext_drew' ?_))⟩
  obtain ⟨W, rfl, hW1, hW2, hl1, hl2, hrow⟩ := regB_bd hr
  have HF2 := Lib.hid (show maskR W rows = maskTo W rows rows.length from rfl)
  have HR := Lib.hid hrow
  have h6 : Le6 W := ⟨hW2⟩
  clear hrow
  go_enter Try.func63, Try.ntmps63
  go_wp2_with fail
  go_loopw [3, 4] (fun n i wr => ∃ k : Nat, k ≤ rows.length ∧ i = .int .i64 k ∧ n = .int .i64 (maskTo W rows k : Nat) ∧ ∃ x, wr = ext (w.alloc (.cells #[.int .i64 W, .slice a rows.length cap] 28)) x) (fun n i _ => rows.length - (intOf i).toNat)
  case atStart => exact ⟨0, Nat.zero_le _, rfl, rfl, (by repeat (first | exact ext_refl _ | (with_reducible assumption) | refine ext_ext' ?_ _ | refine ext_alloc' ?_ _ | refine ext_drew' ?_))⟩
  case round =>
    obtain ⟨k, hk, rfl, rfl, x, rfl⟩ := hrel
    by_cases hlt : k < rows.length
    · obtain ⟨hb, hi, hck⟩ := hcell k hlt
      obtain ⟨e1, e2⟩ := HR.out k hlt
      rw [e1] at hck
      have h6k : Le6 k := ⟨by omega⟩
      have hok : ShlOK (rowN rows k) (mulN k W) := shlOK_row e2 (by omega) hW2
      have hsl := shl_row_lt e2 (show k < 6 by omega) hW2
      have hml : maskTo W rows k < 68719476736 := by
        have h1 := maskTo_lt (fun k hk => (HR.out k hk).2) k (by omega)
        have h2 := pow36 (k := k) (W := W) (by omega) hW2
        omega
      have HO := Lib.hid (maskTo_succ W rows k)
      have hadd : AddOK (maskTo W rows k) (shlN (rowN rows k) (mulN k W)) := ⟨by omega⟩
      clear hcell e1
      go_wp2_with (first | (go_at_call 54; refine (specIsRegion_any _ _ _ _ (by first | (with_reducible assumption) | (with_reducible exact IntsAt.mono (by assumption) (bel_of_ext (by repeat (first | exact ext_refl _ | (with_reducible assumption) | refine ext_ext' ?_ _ | refine ext_alloc' ?_ _ | refine ext_drew' ?_)))) | (with_reducible exact RegionAt.mono (by assumption) (bel_of_ext (by repeat (first | exact ext_refl _ | (with_reducible assumption) | refine ext_ext' ?_ _ | refine ext_alloc' ?_ _ | refine ext_drew' ?_)))))).mono ?_; rintro e w' ⟨rfl, xe, rfl⟩))
      refine wp_region_ext_lit (by kernel_rfl) (by kernel_rfl) ?_
      repeat (go_big_quiet_step (fail))
      refine wpQuiet_nil ?_
      intro _ hwq
      obtain ⟨xq, hwq⟩ := hwq
      subst hwq
      go_wp2_with fail
      go_roundw
      case rel => exact ⟨k + 1, hlt, int_succ k, by rw [HO.out]; rfl, (by repeat (first | exact ext_refl _ | (with_reducible assumption) | refine ext_ext' ?_ _ | refine ext_alloc' ?_ _ | refine ext_drew' ?_))⟩
      case measure => simp [intOf]; omega
    · have hks := Lib.hid (show k = rows.length by omega)
      go_wp2_with fail
      go_ret
      exact ⟨ret_int (by rw [HF.out, hr, if_pos rfl, HF2.out, ← hks.out]), (by repeat (first | exact ext_refl _ | (with_reducible assumption) | refine ext_ext' ?_ _ | refine ext_alloc' ?_ _ | refine ext_drew' ?_))⟩
end
section
open Go.ChangeShapes Go.WideShapes Go.ChangeAt Go.RowKit
/-! ### numbers modulo 2^64 -/
def Cg (a b : Int) : Prop := ∃ q : Int, a = b + q * 18446744073709551616
theorem Cg.refl (a : Int) : Cg a a := ⟨0, by omega⟩
theorem Cg.symm {a b : Int} (h : Cg a b) : Cg b a := by obtain ⟨q, h⟩ := h; exact ⟨-q, by omega⟩
theorem Cg.trans {a b c : Int} (h : Cg a b) (k : Cg b c) : Cg a c := by obtain ⟨q, h⟩ := h; obtain ⟨p, k⟩ := k; exact ⟨q + p, by omega⟩
theorem Cg.add {a b c d : Int} (h : Cg a b) (k : Cg c d) : Cg (a + c) (b + d) := by obtain ⟨q, h⟩ := h; obtain ⟨p, k⟩ := k; exact ⟨q + p, by omega⟩
theorem Cg.mulL {a b : Int} (c : Int) (h : Cg a b) : Cg (c * a) (c * b) := by
  obtain ⟨q, rfl⟩ := h
  exact ⟨c * q, by rw [Int.mul_add, Int.mul_assoc]⟩
theorem Cg.mulR {a b : Int} (c : Int) (h : Cg a b) : Cg (a * c) (b * c) := by rw [Int.mul_comm a, Int.mul_comm b]; exact h.mulL c
theorem Cg.wrap (a : Int) : Cg (wrap64 a) a := ⟨-((a + 9223372036854775808) / 18446744073709551616), by simp only [wrap64]; omega⟩
theorem Cg.eq {a b : Int} (h : Cg a b) : wrap64 a = wrap64 b := by obtain ⟨q, h⟩ := h; simp only [wrap64]; omega
theorem wrap_wrap (a : Int) : wrap64 (wrap64 a) = wrap64 a := (Cg.wrap a).eq
theorem wrap_in {a : Int} (h : -9223372036854775808 ≤ a) (h2 : a < 9223372036854775808) : wrap64 a = a := by simp only [wrap64]; omega
/-! ### sums -/
def sm (f : Nat → Int) : Nat → Int
  | 0 => 0
  | n + 1 => sm f n + f n
theorem sm_congr {f g : Nat → Int} : ∀ {n : Nat}, (∀ k, k < n → f k = g k) → sm f n = sm g n
  | 0, _ => rfl
  | n + 1, h => by rw [sm, sm, sm_congr (fun k hk => h k (by omega)), h n (by omega)]
theorem sm_zero (n : Nat) : sm (fun _ => 0) n = 0 := by induction n with
  | zero => rfl
  | succ n ih => rw [sm, ih]; rfl
theorem sm_mul (c : Int) (f : Nat → Int) (n : Nat) : sm (fun k => c * f k) n = c * sm f n := by induction n with
  | zero => simp [sm]
  | succ n ih => rw [sm, sm, ih, Int.mul_add]
theorem sm_upd (f e : Nat → Int) (d : Nat) (v : Int) : ∀ n, sm (fun b => upd f d v b * e b) n = sm (fun b => f b * e b) n + if d < n then (v - f d) * e d else 0
  | 0 => by simp [sm]
  | n + 1 => by
    rw [sm, sm, sm_upd f e d v n]
    by_cases h1 : d < n
    · rw [if_pos h1, if_pos (by omega)]
      have : upd f d v n = f n := by unfold upd; rw [if_neg (by omega)]
      rw [this]; omega
    · rw [if_neg h1]
      by_cases h2 : d = n
      · subst h2
        rw [if_pos (by omega)]
        have : upd f d v d = v := by unfold upd; rw [if_pos rfl]
        rw [this, Int.sub_mul]; omega
      · have : upd f d v n = f n := by unfold upd; rw [if_neg (by omega)]
        rw [this, if_neg (by omega)]; omega
theorem sm_bump (f e : Nat → Int) (d : Nat) (c : Int) {n : Nat} (h : d < n) : Cg (sm (fun b => upd f d (wrap64 (f d + c)) b * e b) n) (sm (fun b => f b * e b) n + c * e d) := by
  rw [sm_upd, if_pos h]
  refine (Cg.refl _).add (Cg.mulR _ ?_)
  obtain ⟨q, hq⟩ := Cg.wrap (f d + c)
  exact ⟨q, by omega⟩
theorem sm_pick (f : Nat → Int) {n : Nat} (h : 0 < n) : sm (fun b => f b * (if b = 0 then 1 else 0)) n = f 0 := by
  induction n with
  | zero => omega
  | succ n ih =>
    rw [sm]
    by_cases h0 : n = 0
    · subst h0; simp [sm]
    · rw [ih (by omega), if_neg h0]; omega
/-! ### a row -/
/-- the sum of e over the ways to fill a row from place w - r on, where down stand out already -/
def ph (w used : Nat) (e : Nat → Nat) : Nat → Nat → Nat
  | 0, d => e d
  | 1, d => if used.testBit (w - 1) then e d else e (orN d (shlN 1 (w - 1)))
  | r + 2, d => if used.testBit (w - (r + 2)) then ph w used e (r + 1) d
    else ph w used e (r + 1) (orN d (shlN 1 (w - (r + 2)))) + if used.testBit (w - (r + 2) + 1) then 0 else ph w used e r d
theorem ph_bit {w used r d x : Nat} {e : Nat → Nat} (hx : w - (r + 1) = x) (h : used.testBit x = true) : ph w used e (r + 1) d = ph w used e r d := by
  subst hx; cases r <;> simp [ph, h]
theorem ph_one {w used d x : Nat} {e : Nat → Nat} (hx : w - (0 + 1) = x) (h : used.testBit x = false) : ph w used e (0 + 1) d = e (orN d (shlN 1 x)) := by
  subst hx; simp [ph, h]
theorem ph_two {w used r d x : Nat} {e : Nat → Nat} (hx : w - (r + 1 + 1) = x) (h : used.testBit x = false) : ph w used e (r + 1 + 1) d = ph w used e (r + 1) (orN d (shlN 1 x)) + if used.testBit (x + 1) then 0 else ph w used e r d := by
  subst hx; rw [ph, if_neg (by simp [h])]
theorem down_lt {d x : Nat} (h : d < 2 ^ x) : orN d (shlN 1 x) < 2 ^ (x + 1) := or_bit_lt (Nat.lt_of_lt_of_le h (Nat.pow_le_pow_right (by omega) (by omega)))
/-- dominoWays' counts, summed against e -/
theorem fill_sum (w used : Nat) (e : Nat → Nat) : ∀ (r d : Nat) (f : Nat → Int), r ≤ w → d < 2 ^ (w - r) →
    Cg (sm (fun b => dmF w used r d f b * (e b : Int)) (2 ^ w)) (sm (fun b => f b * (e b : Int)) (2 ^ w) + (ph w used e r d : Int)) := by
  intro r
  induction r using Nat.strongRecOn with
  | ind r ih =>
    intro d f hr hd
    have hbump : ∀ (d : Nat) (f : Nat → Int), d < 2 ^ w → Cg (sm (fun b => bump f d b * (e b : Int)) (2 ^ w)) (sm (fun b => f b * (e b : Int)) (2 ^ w) + (e d : Int)) := by
      intro d f h
      have := sm_bump f (fun b => (e b : Int)) d 1 h
      rw [Int.one_mul] at this
      exact this
    match r, hr, hd, ih with
    | 0, hr, hd, ih => exact hbump d f hd
    | 1, hr, hd, ih =>
      have h2 := down_lt hd
      rw [show w - 1 + 1 = w by omega] at h2
      have h3 : d < 2 ^ w := Nat.lt_of_lt_of_le hd (Nat.pow_le_pow_right (by omega) (by omega))
      unfold dmF ph
      split
      · exact hbump d f h3
      · exact hbump _ f h2
    | r + 2, hr, hd, ih =>
      have hd1 : d < 2 ^ (w - (r + 1)) := Nat.lt_of_lt_of_le hd (Nat.pow_le_pow_right (by omega) (by omega))
      have hd2 : d < 2 ^ (w - r) := Nat.lt_of_lt_of_le hd (Nat.pow_le_pow_right (by omega) (by omega))
      have h2 := down_lt hd
      rw [show w - (r + 2) + 1 = w - (r + 1) by omega] at h2
      rw [dmF, ph]
      by_cases hb : used.testBit (w - (r + 2)) = true
      · rw [if_pos hb, if_pos hb]
        exact ih (r + 1) (by omega) d f (by omega) hd1
      · rw [if_neg hb, if_neg hb]
        by_cases hb2 : used.testBit (w - (r + 2) + 1) = true
        · rw [if_pos hb2, if_pos hb2, Nat.add_zero]
          exact ih (r + 1) (by omega) _ f (by omega) h2
        · rw [if_neg hb2, if_neg hb2]
          have k1 := ih (r + 1) (by omega) (orN d (shlN 1 (w - (r + 2)))) f (by omega) h2
          have k2 := ih r (by omega) d (dmF w used (r + 1) (orN d (shlN 1 (w - (r + 2)))) f) (by omega) hd2
          refine k2.trans ?_
          rw [Int.natCast_add, ← Int.add_assoc]
          exact k1.add (Cg.refl _)
theorem ways_sum (w used : Nat) (e : Nat → Nat) : Cg (sm (fun b => dW w used b * (e b : Int)) (2 ^ w)) (ph w used e w 0 : Int) := by
  have h := fill_sum w used e w 0 (fun _ => 0) (Nat.le_refl _) (by simp)
  have h0 : sm (fun b => (0 : Int) * (e b : Int)) (2 ^ w) = 0 := (sm_congr fun k _ => Int.zero_mul _).trans (sm_zero _)
  rw [h0, Int.zero_add] at h
  refine Cg.trans ?_ h
  rw [sm_congr (g := fun b => dmF w used w 0 (fun _ => 0) b * (e b : Int)) (fun k hk => by rw [dW, waysTo, tab_nth _ hk])]
  exact Cg.refl _
/-- the counts are small -/
theorem fill_bd (w used : Nat) : ∀ (r d : Nat) (f : Nat → Int) (c : Nat), c + 2 ^ r < 1000000 → (∀ b, 0 ≤ f b ∧ f b ≤ c) → ∀ b, 0 ≤ dmF w used r d f b ∧ dmF w used r d f b ≤ ((c + 2 ^ r : Nat) : Int) := by
  intro r
  induction r using Nat.strongRecOn with
  | ind r ih =>
    intro d f c hc hf
    have hbump : ∀ (d : Nat) b, 0 ≤ bump f d b ∧ bump f d b ≤ ((c + 1 : Nat) : Int) := by
      intro d b
      unfold bump upd
      have h1 := hf d
      have h2 := hf b
      have h4 : 1 ≤ 2 ^ r := Nat.one_le_two_pow
      split
      · rw [wrap_in (by omega) (by omega)]; omega
      · omega
    match r, hc, ih with
    | 0, hc, ih => intro b; exact hbump d b
    | 1, hc, ih =>
      intro b
      unfold dmF
      split
      · have := hbump d b; simp only [Nat.pow_one]; omega
      · have := hbump (orN d (shlN 1 (w - 1))) b; simp only [Nat.pow_one]; omega
    | r + 2, hc, ih =>
      have e1 : 2 ^ (r + 2) = 2 ^ r * 4 := by rw [Nat.pow_add]
      have e2 : 2 ^ (r + 1) = 2 ^ r * 2 := by rw [Nat.pow_add]
      intro b
      rw [dmF]
      split
      · have := ih (r + 1) (by omega) d f c (by omega) hf b; omega
      · split
        · have := ih (r + 1) (by omega) (orN d (shlN 1 (w - (r + 2)))) f c (by omega) hf b; omega
        · have k1 := ih (r + 1) (by omega) (orN d (shlN 1 (w - (r + 2)))) f c (by omega) hf
          have := ih r (by omega) d _ (c + 2 ^ (r + 1)) (by omega) k1 b; omega
theorem dW_nonneg {w used b : Nat} (hw : w ≤ 6) (hb : b < 2 ^ w) : 0 ≤ dW w used b := by
  rw [dW, waysTo, tab_nth _ hb]
  have h6 : 2 ^ w ≤ 2 ^ 6 := Nat.pow_le_pow_right (by omega) hw
  exact (fill_bd w used w 0 (fun _ => 0) 0 (by omega) (fun b => by simp) b).1
/-! ### the value of what stands out over a row, counted from below -/
def subN (s row : Nat) : Bool := decide (butN s row = 0)
theorem butN_bit (a b i : Nat) : (butN a b).testBit i = (a.testBit i && !b.testBit i) := by
  rw [butN, Nat.testBit_xor, Nat.testBit_and]
  cases a.testBit i <;> cases b.testBit i <;> rfl
theorem subN_iff {s row : Nat} : subN s row = true ↔ ∀ i, s.testBit i = true → row.testBit i = true := by
  rw [subN, decide_eq_true_eq]
  constructor
  · intro h i hi
    have := butN_bit s row i
    rw [h, Nat.zero_testBit, hi] at this
    simpa using this.symm
  · intro h
    apply Nat.eq_of_testBit_eq
    intro i
    rw [butN_bit, Nat.zero_testBit]
    cases hs : s.testBit i
    · rfl
    · rw [h i hs]; rfl
def usedN (W s row : Nat) : Nat := orN s (butN (2 ^ W - 1) row)
theorem usedN_bit {W s row i : Nat} (hi : i < W) : (usedN W s row).testBit i = (s.testBit i || !row.testBit i) := by
  rw [usedN, orN, Nat.testBit_or, butN_bit, Nat.testBit_two_pow_sub_one]; simp [hi]
def rowE (W row : Nat) (e : Nat → Nat) (s : Nat) : Nat := if subN s row then ph W (usedN W s row) e W 0 else 0
/-- the value of what stands out over the last k rows -/
def domE (W : Nat) (rows : List Int) : Nat → Nat → Nat
  | 0 => fun s => if s = 0 then 1 else 0
  | k + 1 => rowE W (rowN rows (rows.length - (k + 1))) (domE W rows k)
def domV (W : Nat) (rows : List Int) : Nat := domE W rows rows.length 0
/-- e is nothing but on sets of places of nrow -/
def Supp (nrow : Nat) (e : Nat → Nat) : Prop := ∀ s, subN s nrow = false → e s = 0
theorem domE_supp {W : Nat} {rows : List Int} {y : Nat} (h : y ≤ rows.length) : Supp (rowN rows y) (domE W rows (rows.length - y)) := by
  intro s hs
  obtain ⟨k, hk⟩ : ∃ k, rows.length - y = k := ⟨_, rfl⟩
  rw [hk]
  cases k with
  | zero =>
    have hy : y = rows.length := by omega
    have h0 : rowN rows y = 0 := by rw [hy]; simp [rowN, nth]
    rw [h0] at hs
    show (if s = 0 then 1 else 0) = 0
    split
    · rename_i e
      subst e
      rw [subN] at hs
      simp [butN] at hs
    · rfl
  | succ k =>
    rw [domE, show rows.length - (k + 1) = y by omega, rowE, hs]
    simp
theorem ph_zero {W used nrow : Nat} {e : Nat → Nat} (he : Supp nrow e) {i : Nat} (hn : nrow.testBit i = false) : ∀ r d, d.testBit i = true → ph W used e r d = 0 := by
  have hz : ∀ d, d.testBit i = true → e d = 0 := by
    intro d hd
    apply he
    cases h : subN d nrow
    · rfl
    · rw [subN_iff.1 h i hd] at hn; cases hn
  have hor : ∀ d x, d.testBit i = true → (orN d (shlN 1 x)).testBit i = true := by intro d x h; rw [orN, Nat.testBit_or, h]; rfl
  intro r
  induction r using Nat.strongRecOn with
  | ind r ih =>
    intro d hd
    match r, ih with
    | 0, _ => exact hz d hd
    | 1, _ =>
      unfold ph
      split
      · exact hz d hd
      · exact hz _ (hor _ _ hd)
    | r + 2, ih =>
      rw [ph]
      split
      · exact ih (r + 1) (by omega) d hd
      · rw [ih (r + 1) (by omega) _ (hor _ _ hd)]
        split
        · rfl
        · rw [ih r (by omega) d hd]
/-! ### the reference, place by place -/
/-- the value of a state ahead of place W - r of a row -/
def vv (W row nrow : Nat) (e : Nat → Nat) : Nat → Nat → Nat
  | 0, s => e s
  | r + 1, s =>
    if row.testBit (W - (r + 1)) then
      (if s.testBit 0 then vv W row nrow e r (shrN s 1)
       else (if nrow.testBit (W - (r + 1)) then vv W row nrow e r (orN (shrN s 1) (shlN 1 (W - 1))) else 0) +
         (if W - (r + 1) + 1 < W ∧ row.testBit (W - (r + 1) + 1) = true ∧ (shrN s 1).testBit 0 = false then vv W row nrow e r (orN (shrN s 1) 1) else 0))
    else if s.testBit 0 then 0 else vv W row nrow e r (shrN s 1)
theorem st_bit0 (a d r : Nat) : (a + d * 2 ^ (r + 1)).testBit 0 = a.testBit 0 := by
  rw [Nat.testBit_zero, Nat.testBit_zero]
  have : d * 2 ^ (r + 1) = 2 * (d * 2 ^ r) := by rw [Nat.pow_succ, Nat.mul_comm (2 ^ r), Nat.mul_left_comm]
  congr 2
  omega
theorem st_half (a d r : Nat) : shrN (a + d * 2 ^ (r + 1)) 1 = a / 2 + d * 2 ^ r := by
  have : d * 2 ^ (r + 1) = 2 * (d * 2 ^ r) := by rw [Nat.pow_succ, Nat.mul_comm (2 ^ r), Nat.mul_left_comm]
  rw [shrN, Nat.pow_one]; omega
theorem st_lt {a d r x : Nat} (ha : a < 2 ^ r) (hd : d < 2 ^ x) : a + d * 2 ^ r < 2 ^ (x + r) := by
  rw [Nat.pow_add]
  have : (d + 1) * 2 ^ r ≤ 2 ^ x * 2 ^ r := Nat.mul_le_mul_right _ hd
  rw [Nat.add_mul, Nat.one_mul] at this
  omega
theorem st_top {a d r x : Nat} (ha : a < 2 ^ r) (hd : d < 2 ^ x) : orN (a + d * 2 ^ r) (shlN 1 (x + r)) = a + orN d (shlN 1 x) * 2 ^ r := by
  have h1 := st_lt ha hd
  have e1 : orN (a + d * 2 ^ r) (shlN 1 (x + r)) = 2 ^ (x + r) + (a + d * 2 ^ r) := by
    rw [orN, shlN, Nat.one_mul, Nat.or_comm]
    have := Nat.two_pow_add_eq_or_of_lt h1 1
    rw [Nat.mul_one] at this
    exact this.symm
  have e2 : orN d (shlN 1 x) = 2 ^ x + d := by
    rw [orN, shlN, Nat.one_mul, Nat.or_comm]
    have := Nat.two_pow_add_eq_or_of_lt hd 1
    rw [Nat.mul_one] at this
    exact this.symm
  rw [e1, e2, Nat.pow_add, Nat.add_mul]
  omega
theorem or_one {n : Nat} (h : n.testBit 0 = false) : orN n 1 = n + 1 := by
  rw [Nat.testBit_zero] at h
  have h2 : n % 2 = 0 := by
    have := Nat.mod_two_eq_zero_or_one n
    rcases this with e | e
    · exact e
    · rw [e] at h; simp at h
  apply Nat.eq_of_testBit_eq
  intro i
  rw [orN, Nat.testBit_or]
  cases i with
  | zero => simp [Nat.testBit_zero]; omega
  | succ i =>
    rw [Nat.testBit_succ, Nat.testBit_succ, Nat.testBit_succ]
    have : (n + 1) / 2 = n / 2 := by omega
    rw [this]; simp
theorem half_bit (a i : Nat) : (a / 2).testBit i = a.testBit (i + 1) := by rw [Nat.testBit_succ]
theorem half_lt {a r : Nat} (h : a < 2 ^ (r + 1)) : a / 2 < 2 ^ r := by rw [Nat.pow_succ] at h; omega
theorem add_low (a d r : Nat) (hr : 0 < r) : (a + d * 2 ^ r).testBit 0 = a.testBit 0 := by
  obtain ⟨q, rfl⟩ : ∃ q, r = q + 1 := ⟨r - 1, by omega⟩
  exact st_bit0 a d q
theorem vv_ph {W row nrow : Nat} {e : Nat → Nat} (he : Supp nrow e) : ∀ (r x a d used : Nat), x + r = W → a < 2 ^ r → d < 2 ^ x → (∀ j, j < r → a.testBit j = true → row.testBit (x + j) = true) →
    (∀ j, j < r → used.testBit (x + j) = (a.testBit j || !row.testBit (x + j))) → vv W row nrow e r (a + d * 2 ^ r) = ph W used e r d := by
  intro r
  induction r using Nat.strongRecOn with
  | ind r ih =>
    intro x a d used hx ha hd hrow hus
    cases r with
    | zero =>
      have : a = 0 := by simpa using ha
      subst this
      simp [vv, ph]
    | succ r =>
      have hX : W - (r + 1) = x := by omega
      have ha2 := half_lt ha
      have hd2 : d < 2 ^ (x + 1) := Nat.lt_of_lt_of_le hd (Nat.pow_le_pow_right (by omega) (by omega))
      have hrow2 : ∀ j, j < r → (a / 2).testBit j = true → row.testBit (x + 1 + j) = true := by
        intro j hj h
        rw [half_bit] at h
        have := hrow (j + 1) (by omega) h
        rwa [show x + 1 + j = x + (j + 1) by omega]
      have hus2 : ∀ j, j < r → used.testBit (x + 1 + j) = ((a / 2).testBit j || !row.testBit (x + 1 + j)) := by
        intro j hj
        rw [half_bit, show x + 1 + j = x + (j + 1) by omega]
        exact hus (j + 1) (by omega)
      have hu0 := hus 0 (by omega)
      rw [Nat.add_zero] at hu0
      rw [vv, hX, st_bit0, st_half]
      have step : vv W row nrow e r (a / 2 + d * 2 ^ r) = ph W used e r d := ih r (by omega) (x + 1) (a / 2) d used (by omega) ha2 hd2 hrow2 hus2
      cases hr : row.testBit x
      · have ha0 : a.testBit 0 = false := by
          cases h : a.testBit 0
          · rfl
          · have := hrow 0 (by omega) h; rw [Nat.add_zero, hr] at this; cases this
        rw [hr, ha0] at hu0
        rw [ha0]
        simp only [Bool.false_eq_true, if_false]
        rw [step, ph_bit hX hu0]
      · cases ha0 : a.testBit 0
        · rw [hr, ha0] at hu0
          simp only [Bool.false_eq_true, if_false, if_true]
          have hup : (if nrow.testBit x then vv W row nrow e r (orN (a / 2 + d * 2 ^ r) (shlN 1 (W - 1))) else 0) = ph W used e r (orN d (shlN 1 x)) := by
            have hdn := down_lt hd
            have := ih r (by omega) (x + 1) (a / 2) (orN d (shlN 1 x)) used (by omega) ha2 hdn hrow2 hus2
            split
            · rw [show W - 1 = x + r by omega, st_top ha2 hd, this]
            · rename_i hn
              rw [ph_zero he (i := x) (by simpa using hn)]
              rw [orN, shlN, Nat.one_mul, Nat.testBit_or, Nat.testBit_two_pow]; simp
          rw [hup]
          cases r with
          | zero =>
            rw [if_neg (by omega), ph_one hX (by simpa using hu0), Nat.add_zero]
            rfl
          | succ r =>
            have hu1 := hus 1 (by omega)
            rw [ph_two hX (by simpa using hu0), hu1, add_low _ _ _ (by omega), half_bit]
            congr 1
            by_cases hc : row.testBit (x + 1) = true ∧ a.testBit (0 + 1) = false
            · rw [if_pos ⟨by omega, hc⟩]
              have hc2 : a.testBit 1 = false := hc.2
              rw [hc.1, hc2]
              simp only [Bool.not_true, Bool.or_false, Bool.false_eq_true, if_false]
              have hb0 : (a / 2 + d * 2 ^ (r + 1)).testBit 0 = false := by rw [add_low _ _ _ (by omega), half_bit]; exact hc.2
              rw [or_one hb0, vv, show W - (r + 1) = x + 1 by omega, if_pos hc.1]
              have hb1 : (a / 2 + d * 2 ^ (r + 1) + 1).testBit 0 = true := by
                rw [← or_one hb0, orN, Nat.testBit_or]; simp
              rw [if_pos hb1]
              have hh : shrN (a / 2 + d * 2 ^ (r + 1) + 1) 1 = a / 2 / 2 + d * 2 ^ r := by
                have e1 := st_half (a / 2) d r
                rw [shrN, Nat.pow_one] at e1 ⊢
                rw [Nat.testBit_zero] at hb0
                have : (a / 2 + d * 2 ^ (r + 1)) % 2 = 0 := by
                  rcases Nat.mod_two_eq_zero_or_one (a / 2 + d * 2 ^ (r + 1)) with e | e
                  · exact e
                  · rw [e] at hb0; simp at hb0
                omega
              rw [hh]
              refine ih r (by omega) (x + 2) (a / 2 / 2) d used (by omega) (half_lt ha2) (Nat.lt_of_lt_of_le hd (Nat.pow_le_pow_right (by omega) (by omega))) (fun j hj h => ?_) fun j hj => ?_
              · rw [half_bit, half_bit] at h
                have := hrow (j + 1 + 1) (by omega) h
                rwa [show x + 2 + j = x + (j + 1 + 1) by omega]
              · rw [half_bit, half_bit, show x + 2 + j = x + (j + 1 + 1) by omega]
                exact hus (j + 1 + 1) (by omega)
            · rw [if_neg (fun h => hc h.2)]
              symm
              rw [if_pos]
              cases h1 : row.testBit (x + 1)
              · simp
              · cases h2 : a.testBit 1
                · exact absurd ⟨h1, h2⟩ hc
                · rfl
        · rw [hr, ha0] at hu0
          simp only [if_true]
          rw [step, ph_bit hX (by simpa using hu0)]
theorem vv_zero {W row nrow : Nat} {e : Nat → Nat} : ∀ (r x a d : Nat), x + r = W → a < 2 ^ r → d < 2 ^ x → (∃ j, j < r ∧ a.testBit j = true ∧ row.testBit (x + j) = false) → vv W row nrow e r (a + d * 2 ^ r) = 0 := by
  intro r
  induction r with
  | zero => intro x a d _ _ _ ⟨j, hj, _⟩; omega
  | succ r ih =>
    intro x a d hx ha hd ⟨j, hj, h1, h2⟩
    have hX : W - (r + 1) = x := by omega
    have ha2 := half_lt ha
    have hd2 : d < 2 ^ (x + 1) := Nat.lt_of_lt_of_le hd (Nat.pow_le_pow_right (by omega) (by omega))
    rw [vv, hX, st_bit0, st_half]
    by_cases hj0 : j = 0
    · subst hj0
      rw [Nat.add_zero] at h2
      rw [h1, h2]; simp
    · obtain ⟨i, rfl⟩ : ∃ i, j = i + 1 := ⟨j - 1, by omega⟩
      have hb : (a / 2).testBit i = true := by rw [half_bit]; exact h1
      have hb2 : row.testBit (x + 1 + i) = false := by rw [show x + 1 + i = x + (i + 1) by omega]; exact h2
      have step : ∀ d', d' < 2 ^ (x + 1) → vv W row nrow e r (a / 2 + d' * 2 ^ r) = 0 := fun d' hd' => ih (x + 1) (a / 2) d' (by omega) ha2 hd' ⟨i, by omega, hb, hb2⟩
      split
      · split
        · exact step d hd2
        · have k1 : (if nrow.testBit x then vv W row nrow e r (orN (a / 2 + d * 2 ^ r) (shlN 1 (W - 1))) else 0) = 0 := by
            split
            · rw [show W - 1 = x + r by omega, st_top ha2 hd]
              exact step _ (down_lt hd)
            · rfl
          rw [k1, Nat.zero_add]
          split
          · rename_i hc
            have hb0 := hc.2.2
            rw [or_one hb0]
            rw [add_low _ _ _ (by omega)] at hb0
            have hi0 : i ≠ 0 := by intro e; subst e; rw [hb] at hb0; cases hb0
            have e1 : a / 2 + d * 2 ^ r + 1 = (a / 2 + 1) + d * 2 ^ r := by omega
            rw [e1, ← or_one hb0]
            refine ih (x + 1) (orN (a / 2) 1) d (by omega) ?_ hd2 ⟨i, by omega, ?_, hb2⟩
            · exact Nat.or_lt_two_pow ha2 (by
                have : 2 ^ 1 ≤ 2 ^ r := Nat.pow_le_pow_right (by omega) (by omega)
                omega)
            · rw [orN, Nat.testBit_or, hb]; rfl
          · rfl
      · split
        · rfl
        · exact step d hd2
theorem vv_rowE {W row nrow : Nat} {e : Nat → Nat} (he : Supp nrow e) {s : Nat} (hs : s < 2 ^ W) : vv W row nrow e W s = rowE W row e s := by
  unfold rowE
  cases h : subN s row
  · simp only [Bool.false_eq_true, if_false]
    have : ∃ j, j < W ∧ s.testBit j = true ∧ row.testBit (0 + j) = false := by
      apply Classical.byContradiction
      intro hn
      have : subN s row = true := subN_iff.2 fun i hi => by
        cases hr : row.testBit i
        · exfalso
          refine hn ⟨i, ?_, hi, by rw [Nat.zero_add]; exact hr⟩
          apply Nat.lt_of_not_le
          intro hle
          rw [Nat.testBit_lt_two_pow (Nat.lt_of_lt_of_le hs (Nat.pow_le_pow_right (by omega) hle))] at hi
          cases hi
        · rfl
      rw [h] at this; cases this
    have k := vv_zero (W := W) (row := row) (nrow := nrow) (e := e) W 0 s 0 (by omega) hs (by simp) this
    simpa using k
  · simp only [if_true]
    have k := vv_ph (W := W) (row := row) he W 0 s 0 (usedN W s row) (by omega) hs (by simp) (fun j _ hj => by rw [Nat.zero_add]; exact subN_iff.1 h j hj) (fun j hj => by rw [Nat.zero_add]; exact usedN_bit hj)
    simpa using k
/-- the value of a state ahead of row y -/
theorem vv_domE {W : Nat} {rows : List Int} {y : Nat} (h : y < rows.length) {s : Nat} (hs : s < 2 ^ W) :
    vv W (rowN rows y) (rowN rows (y + 1)) (domE W rows (rows.length - (y + 1))) W s = domE W rows (rows.length - y) s := by
  rw [vv_rowE (domE_supp (by omega)) hs]
  obtain ⟨k, hk⟩ : ∃ k, rows.length - y = k + 1 := ⟨rows.length - y - 1, by omega⟩
  rw [hk, domE, show rows.length - (k + 1) = y by omega, show rows.length - (y + 1) = k by omega]
end
section
open Go.ChangeShapes Go.WideShapes Go.ChangeAt Go.RowKit
def hasB (W : Nat) (rows : List Int) (x y : Int) : Bool := btw x 0 ((W : Int) - 1) && (btw y 0 ((rows.length : Int) - 1) && (rowN rows y.toNat).testBit x.toNat)
theorem hasB_x {W : Nat} {rows : List Int} {x y : Int} (h : btw x 0 ((W : Int) - 1) = false) : hasB W rows x y = false := by simp [hasB, h]
theorem hasB_y {W : Nat} {rows : List Int} {x y : Int} (h : btw y 0 ((rows.length : Int) - 1) = false) : hasB W rows x y = false := by simp [hasB, h]
theorem hasB_in {W : Nat} {rows : List Int} {x y : Nat} (h : btw x 0 ((W : Int) - 1) = true) (h2 : btw y 0 ((rows.length : Int) - 1) = true) : hasB W rows x y = (rowN rows y).testBit x := by simp [hasB, h, h2]
theorem hasB_at {W : Nat} {rows : List Int} {x y : Nat} (h : x < W) (h2 : y < rows.length) : hasB W rows x y = (rowN rows y).testBit x := hasB_in (btw_iff.2 ⟨by omega, by omega⟩) (btw_iff.2 ⟨by omega, by omega⟩)
theorem row_lt63 {W : Nat} {rows : List Int} {y : Nat} (hW : W ≤ 6) (h : rowN rows y < 2 ^ W) : Lt63 (rowN rows y) := ⟨by have := Nat.pow_le_pow_right (n := 2) (by omega) hW; omega⟩
set_option maxHeartbeats 1000000 in
theorem has_any (W : Nat) (rows : List Int) (x y : Int) (v : Value) (w : World) (h : IntsAt w v rows) (hr : regB W rows = true) :
    Calls Try.prog 48 #[.agg #[.int .i64 W, v], .int .i64 x, .int .i64 y] w fun e w' => e = .returned (.bool (hasB W rows x y)) ∧ ∃ x, w' = ext w x := by
  obtain ⟨a, b, o, cap, rfl, hc1, hc2, hc3, hcell⟩ := h.opn
  obtain ⟨W', hWW, hW1, hW2, hl1, hl2, hrow⟩ := regB_bd hr
  obtain rfl : W = W' := by omega
  cases h1 : btw x 0 ((W : Int) - 1)
  · have HF := Lib.hid (hasB_x (rows := rows) (y := y) h1)
    clear hcell hrow hr hWW
    go_enter Try.func48, Try.ntmps48
    go_wp2_with (first | (go_at_call 65; refine (between_b _ _ _ _ h1 _).mono ?_; rintro e w' ⟨rfl, xe, rfl⟩))
    go_ret
    exact ⟨ret_bool HF.out.symm, (by repeat (first | exact ext_refl _ | (with_reducible assumption) | refine ext_ext' ?_ _ | refine ext_alloc' ?_ _ | refine ext_drew' ?_))⟩
  cases h2 : btw y 0 ((rows.length : Int) - 1)
  · have HF := Lib.hid (hasB_y (W := W) (x := x) h2)
    clear hcell hrow hr hWW
    go_enter Try.func48, Try.ntmps48
    go_wp2_with (first | (go_at_call 65; refine (between_any _ _ _ _).mono ?_; rintro e w' ⟨rfl, xe, rfl⟩))
    go_ret
    exact ⟨ret_bool HF.out.symm, (by repeat (first | exact ext_refl _ | (with_reducible assumption) | refine ext_ext' ?_ _ | refine ext_alloc' ?_ _ | refine ext_drew' ?_))⟩
  obtain ⟨x1, x2⟩ := btw_iff.1 h1
  obtain ⟨y1, y2⟩ := btw_iff.1 h2
  obtain ⟨X, rfl⟩ : ∃ X : Nat, x = X := ⟨x.toNat, by omega⟩
  obtain ⟨Y, rfl⟩ : ∃ Y : Nat, y = Y := ⟨y.toNat, by omega⟩
  have HF := Lib.hid (hasB_in h1 h2)
  have hY : Y < rows.length := by omega
  obtain ⟨hb, hi, hck⟩ := hcell Y hY
  obtain ⟨e1, e2⟩ := hrow Y hY
  rw [e1] at hck
  haveI := row_lt63 hW2 e2
  haveI : Le64 X := ⟨by omega⟩
  clear hcell hrow hr hWW e1
  go_enter Try.func48, Try.ntmps48
  go_wp2_with (first | (go_at_call 65; refine (between_any _ _ _ _).mono ?_; rintro e w' ⟨rfl, xe, rfl⟩))
  go_ret
  exact ⟨ret_bool HF.out.symm, (by repeat (first | exact ext_refl _ | (with_reducible assumption) | refine ext_ext' ?_ _ | refine ext_alloc' ?_ _ | refine ext_drew' ?_))⟩
set_option maxHeartbeats 1000000 in
theorem l6In_any (W : Nat) (rows : List Int) (x y : Int) (v : Value) (w : World) (h : IntsAt w v rows) (hr : regB W rows = true) :
    Calls Try.prog 55 #[.agg #[.int .i64 W, v], .int .i64 x, .int .i64 y] w fun e w' => e = .returned (.bool (hasB W rows x y)) ∧ ∃ x, w' = ext w x := by
  obtain ⟨a, b, o, cap, rfl, hc1, hc2, hc3, hcell⟩ := h.opn
  obtain ⟨W', hWW, hW1, hW2, hl1, hl2, hrow⟩ := regB_bd hr
  obtain rfl : W = W' := by omega
  by_cases x1 : 0 ≤ x
  case neg =>
    have HF := Lib.hid (hasB_x (W := W) (rows := rows) (x := x) (y := y) (by simp [btw]; omega))
    have x1' : decide (0 ≤ x) = false := decide_eq_false x1
    clear hcell hrow hr hWW
    go_enter Try.func55, Try.ntmps55
    go_wp2_with fail
    go_ret
    exact ⟨ret_bool HF.out.symm, (by repeat (first | exact ext_refl _ | (with_reducible assumption) | refine ext_ext' ?_ _ | refine ext_alloc' ?_ _ | refine ext_drew' ?_))⟩
  by_cases y1 : 0 ≤ y
  case neg =>
    have HF := Lib.hid (hasB_y (W := W) (rows := rows) (x := x) (y := y) (by simp [btw]; omega))
    have y1' : decide (0 ≤ y) = false := decide_eq_false y1
    clear hcell hrow hr hWW
    go_enter Try.func55, Try.ntmps55
    go_wp2_with fail
    go_ret
    exact ⟨ret_bool HF.out.symm, (by repeat (first | exact ext_refl _ | (with_reducible assumption) | refine ext_ext' ?_ _ | refine ext_alloc' ?_ _ | refine ext_drew' ?_))⟩
  obtain ⟨X, rfl⟩ : ∃ X : Nat, x = X := ⟨x.toNat, by omega⟩
  obtain ⟨Y, rfl⟩ : ∃ Y : Nat, y = Y := ⟨y.toNat, by omega⟩
  by_cases x2 : X < W
  case neg =>
    have HF := Lib.hid (hasB_x (W := W) (rows := rows) (x := X) (y := Y) (by simp [btw]; omega))
    have x2' : W ≤ X := by omega
    clear hcell hrow hr hWW
    go_enter Try.func55, Try.ntmps55
    go_wp2_with fail
    go_ret
    exact ⟨ret_bool HF.out.symm, (by repeat (first | exact ext_refl _ | (with_reducible assumption) | refine ext_ext' ?_ _ | refine ext_alloc' ?_ _ | refine ext_drew' ?_))⟩
  by_cases y2 : Y < rows.length
  case neg =>
    have HF := Lib.hid (hasB_y (W := W) (rows := rows) (x := X) (y := Y) (by simp [btw]; omega))
    have y2' : rows.length ≤ Y := by omega
    clear hcell hrow hr hWW
    go_enter Try.func55, Try.ntmps55
    go_wp2_with fail
    go_ret
    exact ⟨ret_bool HF.out.symm, (by repeat (first | exact ext_refl _ | (with_reducible assumption) | refine ext_ext' ?_ _ | refine ext_alloc' ?_ _ | refine ext_drew' ?_))⟩
  have HF := Lib.hid (hasB_at x2 y2)
  obtain ⟨hb, hi, hck⟩ := hcell Y y2
  obtain ⟨e1, e2⟩ := hrow Y y2
  rw [e1] at hck
  haveI := row_lt63 hW2 e2
  haveI : Le64 X := ⟨by omega⟩
  clear hcell hrow hr hWW e1
  go_enter Try.func55, Try.ntmps55
  go_wp2_with fail
  go_ret
  exact ⟨ret_bool HF.out.symm, (by repeat (first | exact ext_refl _ | (with_reducible assumption) | refine ext_ext' ?_ _ | refine ext_alloc' ?_ _ | refine ext_drew' ?_))⟩
end
section
open Go.ChangeShapes Go.WideShapes Go.ChangeAt Go.RowKit
def cdV (wd : Int) (rows : List Int) : Int := if regB wd rows then wrap64 (domV wd.toNat rows) else -1
theorem cdV_no {wd : Int} {rows : List Int} (h : regB wd rows = false) : cdV wd rows = -1 := by simp [cdV, h]
theorem cdV_yes {W : Nat} {rows : List Int} (h : regB W rows = true) : cdV W rows = wrap64 (domV W rows) := by simp [cdV, h]
/-- what a state is worth ahead of place k -/
def potN (W : Nat) (rows : List Int) (k s : Nat) : Nat :=
  if k < W * rows.length then vv W (rowN rows (k / W)) (rowN rows (k / W + 1)) (domE W rows (rows.length - (k / W + 1))) (W - k % W) s else domE W rows 0 s
def Wr (f : Nat → Int) : Prop := ∀ t, wrap64 (f t) = f t
theorem Wr.upd {f : Nat → Int} (h : Wr f) (t : Nat) (z : Int) : Wr (upd f t (wrap64 z)) := fun q => by
  unfold Proofs.Ytchcepihmphdmaa.upd
  split
  · exact wrap_wrap z
  · exact h q
def PotOK (W : Nat) (rows : List Int) (f : Nat → Int) (k : Nat) : Prop := Cg (sm (fun s => f s * (potN W rows k s : Int)) (2 ^ W)) (domV W rows : Int) ∧ Wr f
theorem pot_zero {W : Nat} {rows : List Int} (hW : 0 < W) (hl : 0 < rows.length) {s : Nat} (hs : s < 2 ^ W) : potN W rows 0 s = domE W rows rows.length s := by
  rw [potN, if_pos (Nat.mul_pos hW hl)]
  simp only [Nat.zero_div, Nat.zero_mod, Nat.sub_zero]
  have := vv_domE (W := W) (rows := rows) (y := 0) hl hs
  rw [Nat.sub_zero] at this
  exact this
theorem pot_next {W : Nat} {rows : List Int} (hW : 0 < W) {k : Nat} (hk : k < W * rows.length) {s : Nat} (hs : s < 2 ^ W) :
    potN W rows (k + 1) s = vv W (rowN rows (k / W)) (rowN rows (k / W + 1)) (domE W rows (rows.length - (k / W + 1))) (W - (k % W + 1)) s := by
  have hm := Nat.mod_lt k hW
  have hd := Nat.div_add_mod k W
  by_cases hx : k % W + 1 < W
  · have e1 : (k + 1) / W = k / W := by
      rw [Nat.div_eq_iff hW]
      generalize k / W = q at hd
      generalize k % W = r at hd hx
      have : q * W = W * q := Nat.mul_comm _ _
      constructor
      · omega
      · omega
    have e2 : (k + 1) % W = k % W + 1 := by
      have := Nat.div_add_mod (k + 1) W
      rw [e1] at this
      omega
    have hlt : k + 1 < W * rows.length := by
      have hy : k / W < rows.length := Nat.div_lt_of_lt_mul hk
      have h2 : W * (k / W + 1) ≤ W * rows.length := Nat.mul_le_mul_left _ hy
      rw [Nat.mul_add, Nat.mul_one] at h2
      omega
    rw [potN, if_pos hlt, e1, e2]
  · have hx2 : k % W + 1 = W := by omega
    have e1 : (k + 1) / W = k / W + 1 := by
      have : k + 1 = W * (k / W + 1) := by rw [Nat.mul_add, Nat.mul_one]; omega
      rw [this, Nat.mul_div_cancel_left _ hW]
    have e2 : (k + 1) % W = 0 := by
      have := Nat.div_add_mod (k + 1) W
      rw [e1, Nat.mul_add, Nat.mul_one] at this
      omega
    rw [hx2, Nat.sub_self]
    show _ = domE W rows (rows.length - (k / W + 1)) s
    have hy : k / W < rows.length := Nat.div_lt_of_lt_mul hk
    by_cases hl : k / W + 1 < rows.length
    · have hlt : k + 1 < W * rows.length := by
        have h2 : W * (k / W + 2) ≤ W * rows.length := Nat.mul_le_mul_left _ hl
        rw [Nat.mul_add] at h2
        omega
      rw [potN, if_pos hlt, e1, e2, Nat.sub_zero]
      exact vv_domE hl hs
    · have e3 : k + 1 = W * rows.length := by
        have : rows.length = k / W + 1 := by omega
        rw [this, Nat.mul_add, Nat.mul_one]; omega
      rw [potN, if_neg (by omega), show rows.length - (k / W + 1) = 0 by omega]
theorem pot_at {W : Nat} {rows : List Int} {k : Nat} (hk : k < W * rows.length) (s : Nat) :
    potN W rows k s = vv W (rowN rows (k / W)) (rowN rows (k / W + 1)) (domE W rows (rows.length - (k / W + 1))) (W - k % W) s := by rw [potN, if_pos hk]
theorem pot_end {W : Nat} {rows : List Int} {f : Nat → Int} (h : PotOK W rows f (W * rows.length)) : wrap64 (domV W rows : Int) = f 0 := by
  obtain ⟨h, hw⟩ := h
  have e : sm (fun s => f s * (potN W rows (W * rows.length) s : Int)) (2 ^ W) = f 0 := by
    rw [← sm_pick f (Nat.two_pow_pos W)]
    refine sm_congr fun s _ => ?_
    rw [potN, if_neg (by omega)]
    simp only [domE]
    split <;> rfl
  rw [e] at h
  rw [← hw 0]
  exact h.eq.symm
theorem pot_start {W : Nat} {rows : List Int} (hW : 0 < W) (hl : 0 < rows.length) : PotOK W rows (upd (fun _ => 0) 0 1) 0 := by
  refine ⟨?_, fun t => by unfold upd; split <;> simp [wrap64]⟩
  have hp := Nat.two_pow_pos W
  rw [sm_upd, if_pos hp, pot_zero hW hl hp]
  have : sm (fun b => (0 : Int) * (potN W rows 0 b : Int)) (2 ^ W) = 0 := (sm_congr fun k _ => Int.zero_mul _).trans (sm_zero _)
  rw [this]
  simp only [domV]
  exact ⟨0, by omega⟩
/-- one place, the first states done -/
def MidOK (W : Nat) (rows : List Int) (f h : Nat → Int) (k s : Nat) : Prop := Cg (sm (fun t => h t * (potN W rows (k + 1) t : Int)) (2 ^ W)) (sm (fun t => f t * (potN W rows k t : Int)) s) ∧ Wr h
theorem mid_start (W : Nat) (rows : List Int) (f : Nat → Int) (k : Nat) : MidOK W rows f (fun _ => 0) k 0 := by
  refine ⟨?_, fun t => by simp [wrap64]⟩
  have : sm (fun t => (0 : Int) * (potN W rows (k + 1) t : Int)) (2 ^ W) = 0 := (sm_congr fun k _ => Int.zero_mul _).trans (sm_zero _)
  rw [this]; exact Cg.refl 0
theorem mid_end {W : Nat} {rows : List Int} {f h : Nat → Int} {k : Nat} (hp : PotOK W rows f k) (hm : MidOK W rows f h k (2 ^ W)) : PotOK W rows h (k + 1) := ⟨hm.1.trans hp.1, hm.2⟩
theorem mid_skip {W : Nat} {rows : List Int} {f h : Nat → Int} {k s : Nat} (hm : MidOK W rows f h k s) (h0 : f s * (potN W rows k s : Int) = 0) : MidOK W rows f h k (s + 1) := by
  refine ⟨?_, hm.2⟩
  rw [sm, h0, Int.add_zero]; exact hm.1
theorem mid_one {W : Nat} {rows : List Int} {f h : Nat → Int} {k s t : Nat} (hm : MidOK W rows f h k s) (ht : t < 2 ^ W) (he : potN W rows k s = potN W rows (k + 1) t) : MidOK W rows f (upd h t (wrap64 (h t + f s))) k (s + 1) := by
  refine ⟨?_, hm.2.upd _ _⟩
  refine (sm_bump h (fun t => (potN W rows (k + 1) t : Int)) t (f s) ht).trans ?_
  rw [sm, he]
  exact hm.1.add (Cg.refl _)
theorem mid_two {W : Nat} {rows : List Int} {f h : Nat → Int} {k s t u : Nat} (hm : MidOK W rows f h k s) (ht : t < 2 ^ W) (hu : u < 2 ^ W) (he : potN W rows k s = potN W rows (k + 1) t + potN W rows (k + 1) u) :
    MidOK W rows f (upd (upd h t (wrap64 (h t + f s))) u (wrap64 (upd h t (wrap64 (h t + f s)) u + f s))) k (s + 1) := by
  refine ⟨?_, (hm.2.upd _ _).upd _ _⟩
  refine (sm_bump (upd h t (wrap64 (h t + f s))) (fun t => (potN W rows (k + 1) t : Int)) u (f s) hu).trans ?_
  refine ((sm_bump h (fun t => (potN W rows (k + 1) t : Int)) t (f s) ht).add (Cg.refl _)).trans ?_
  rw [sm, he, Int.natCast_add, Int.mul_add, ← Int.add_assoc]
  exact (hm.1.add (Cg.refl _)).add (Cg.refl _)
/-! the cases at a place -/
section
variable {W : Nat} {rows : List Int} {k s : Nat}
theorem pot_out0 (hk : k < W * rows.length) (hW : 0 < W) (hs : s < 2 ^ W) (hr : (rowN rows (k / W)).testBit (k % W) = false) (hf : s.testBit 0 = true) : potN W rows k s = 0 := by
  have hm := Nat.mod_lt k hW
  rw [pot_at hk]
  obtain ⟨r, hr2⟩ : ∃ r, W - k % W = r + 1 := ⟨W - k % W - 1, by omega⟩
  rw [hr2, vv, show W - (r + 1) = k % W by omega, hr, hf]; simp
theorem half_lt2 (hW : 0 < W) (hs : s < 2 ^ W) : shrN s 1 < 2 ^ (W - 1) := by
  obtain ⟨V, rfl⟩ : ∃ V, W = V + 1 := ⟨W - 1, by omega⟩
  rw [shrN, Nat.pow_one, Nat.add_sub_cancel]
  rw [Nat.pow_succ] at hs; omega
theorem half_lt3 (hW : 0 < W) (hs : s < 2 ^ W) : shrN s 1 < 2 ^ W := Nat.lt_of_lt_of_le (half_lt2 hW hs) (Nat.pow_le_pow_right (by omega) (by omega))
theorem pot_out1 (hk : k < W * rows.length) (hW : 0 < W) (hs : s < 2 ^ W) (hr : (rowN rows (k / W)).testBit (k % W) = false) (hf : s.testBit 0 = false) : potN W rows k s = potN W rows (k + 1) (shrN s 1) := by
  have hm := Nat.mod_lt k hW
  rw [pot_at hk, pot_next hW hk (half_lt3 hW hs)]
  obtain ⟨r, hr2⟩ : ∃ r, W - k % W = r + 1 := ⟨W - k % W - 1, by omega⟩
  rw [hr2, vv, show W - (r + 1) = k % W by omega, show W - (k % W + 1) = r by omega, hr, hf]; simp
theorem pot_full (hk : k < W * rows.length) (hW : 0 < W) (hs : s < 2 ^ W) (hr : (rowN rows (k / W)).testBit (k % W) = true) (hf : s.testBit 0 = true) : potN W rows k s = potN W rows (k + 1) (shrN s 1) := by
  have hm := Nat.mod_lt k hW
  rw [pot_at hk, pot_next hW hk (half_lt3 hW hs)]
  obtain ⟨r, hr2⟩ : ∃ r, W - k % W = r + 1 := ⟨W - k % W - 1, by omega⟩
  rw [hr2, vv, show W - (r + 1) = k % W by omega, show W - (k % W + 1) = r by omega, hr, hf]; simp
theorem top_lt (hW : 0 < W) (hs : s < 2 ^ W) : orN (shrN s 1) (shlN 1 (W - 1)) < 2 ^ W := by
  have := or_bit_lt (down := shrN s 1) (x := W - 1) (by rw [show W - 1 + 1 = W by omega]; exact half_lt3 hW hs)
  rwa [show W - 1 + 1 = W by omega] at this
theorem low_lt (hW : 1 < W) (hs : s < 2 ^ W) : orN (shrN s 1) 1 < 2 ^ W := Nat.or_lt_two_pow (half_lt3 (by omega) hs) (by
  have : 2 ^ 1 ≤ 2 ^ W := Nat.pow_le_pow_right (by omega) (by omega)
  omega)
/-- whether a domino lies to the right -/
def rightB (W : Nat) (rows : List Int) (k s : Nat) : Bool := decide (k % W + 1 < W) && (rowN rows (k / W)).testBit (k % W + 1) && !(shrN s 1).testBit 0
theorem pot_free (hk : k < W * rows.length) (hW : 0 < W) (hs : s < 2 ^ W) (hr : (rowN rows (k / W)).testBit (k % W) = true) (hf : s.testBit 0 = false) :
    potN W rows k s = (if (rowN rows (k / W + 1)).testBit (k % W) then potN W rows (k + 1) (orN (shrN s 1) (shlN 1 (W - 1))) else 0) + if rightB W rows k s then potN W rows (k + 1) (orN (shrN s 1) 1) else 0 := by
  have hm := Nat.mod_lt k hW
  rw [pot_at hk, pot_next hW hk (top_lt hW hs)]
  obtain ⟨r, hr2⟩ : ∃ r, W - k % W = r + 1 := ⟨W - k % W - 1, by omega⟩
  have e1 : W - (r + 1) = k % W := by omega
  have e2 : W - (k % W + 1) = r := by omega
  rw [hr2, vv, e1, e2, hr, hf]
  simp only [if_true, Bool.false_eq_true, if_false]
  congr 1
  unfold rightB
  by_cases hc : k % W + 1 < W ∧ (rowN rows (k / W)).testBit (k % W + 1) = true ∧ (shrN s 1).testBit 0 = false
  · rw [if_pos hc, if_pos (by simp [hc.1, hc.2.1, hc.2.2]), pot_next hW hk (low_lt (by omega) hs), e2]
  · rw [if_neg hc, if_neg]
    intro h
    simp only [Bool.and_eq_true, decide_eq_true_eq, Bool.not_eq_true'] at h
    exact hc ⟨h.1.1, h.1.2, h.2⟩
end
theorem hasB_below {W : Nat} {rows : List Int} {x y : Nat} (hx : x < W) (hy : y < rows.length) : hasB W rows (x : Int) ((y : Int) + 1) = (rowN rows (y + 1)).testBit x := by
  by_cases h : y + 1 < rows.length
  · have := hasB_at (rows := rows) hx h
    rwa [Int.natCast_add] at this
  · have e : rowN rows (y + 1) = 0 := by
      have : y + 1 = rows.length := by omega
      rw [this]; simp [rowN, nth]
    rw [e, Nat.zero_testBit]
    exact hasB_y (by simp [btw]; omega)
theorem hasB_right {W : Nat} {rows : List Int} {x y : Nat} (hx : x + 1 < W) (hy : y < rows.length) : hasB W rows ((x : Int) + 1) (y : Int) = (rowN rows y).testBit (x + 1) := by
  have := hasB_at (rows := rows) hx hy
  rwa [Int.natCast_add] at this
end
section
open Go.ChangeShapes Go.WideShapes Go.ChangeAt Go.RowKit
def fillS (w full out : Nat) : Nat → Int
  | 0 => 1
  | 1 => if full.testBit (w - 1) then (if out.testBit (w - 1) then 0 else 1) else if out.testBit (w - 1) then 1 else 0
  | r + 2 =>
    if full.testBit (w - (r + 2)) then (if out.testBit (w - (r + 2)) then 0 else fillS w full out (r + 1))
    else if out.testBit (w - (r + 2)) then fillS w full out (r + 1)
    else if full.testBit (w - (r + 2) + 1) then 0 else if out.testBit (w - (r + 2) + 1) then 0 else fillS w full out r
theorem fillS_ff {w full out r x : Nat} (hx : w - (r + 1) = x) (h : full.testBit x = true) (h2 : out.testBit x = true) : fillS w full out (r + 1) = 0 := by
  subst hx; cases r <;> simp [fillS, h, h2]
theorem fillS_f {w full out r x : Nat} (hx : w - (r + 1) = x) (h : full.testBit x = true) (h2 : out.testBit x = false) : fillS w full out (r + 1) = fillS w full out r := by
  subst hx; cases r <;> simp [fillS, h, h2]
theorem fillS_o {w full out r x : Nat} (hx : w - (r + 1) = x) (h : full.testBit x = false) (h2 : out.testBit x = true) : fillS w full out (r + 1) = fillS w full out r := by
  subst hx; cases r <;> simp [fillS, h, h2]
theorem fillS_one {w full out x : Nat} (hx : w - (0 + 1) = x) (h : full.testBit x = false) (h2 : out.testBit x = false) : fillS w full out (0 + 1) = 0 := by
  subst hx; simp [fillS, h, h2]
theorem fillS_no {w full out r x : Nat} (hx : w - (r + 1 + 1) = x) (h : full.testBit x = false) (h2 : out.testBit x = false) (h3 : full.testBit (x + 1) = true) : fillS w full out (r + 1 + 1) = 0 := by
  subst hx; simp [fillS, h, h2, h3]
theorem fillS_no2 {w full out r x : Nat} (hx : w - (r + 1 + 1) = x) (h : full.testBit x = false) (h2 : out.testBit x = false) (h4 : out.testBit (x + 1) = true) : fillS w full out (r + 1 + 1) = 0 := by
  subst hx; simp [fillS, h, h2, h4]
theorem fillS_two {w full out r x : Nat} (hx : w - (r + 1 + 1) = x) (h : full.testBit x = false) (h2 : out.testBit x = false) (h3 : full.testBit (x + 1) = false) (h4 : out.testBit (x + 1) = false) : fillS w full out (r + 1 + 1) = fillS w full out r := by
  subst hx; simp [fillS, h, h2, h3, h4]
theorem l11_next {x : Nat} {w u d : Value} {W : World} {Q : Ending → World → Prop} (h : Calls Try.prog 69 #[w, .int .i64 ((x + 1 : Nat) : Int), u, d] W Q) : Calls Try.prog 69 #[w, .int .i64 ((x : Int) + 1), u, d] W Q := h
theorem l11_next2 {x : Nat} {w u d : Value} {W : World} {Q : Ending → World → Prop} (h : Calls Try.prog 69 #[w, .int .i64 ((x + 2 : Nat) : Int), u, d] W Q) : Calls Try.prog 69 #[w, .int .i64 ((x : Int) + 2), u, d] W Q := h
set_option maxHeartbeats 2000000 in
theorem l11Fill_any (wd full out : Nat) [Lt63 full] [Lt63 out] (hw : wd ≤ 6) : ∀ (r x : Nat) (w : World), x + r = wd →
    Calls Try.prog 69 #[.int .i64 wd, .int .i64 x, .int .i64 full, .int .i64 out] w fun e w' => e = .returned (.int .i64 (fillS wd full out r)) ∧ ∃ x, w' = ext w x := by
  intro r
  induction r using Nat.strongRecOn with
  | ind r ih =>
    intro x w hx
    cases r with
    | zero =>
      obtain rfl : x = wd := by omega
      go_enter Try.func69, Try.ntmps69
      go_wp2_with fail
      go_ret
      exact ⟨rfl, (by repeat (first | exact ext_refl _ | (with_reducible assumption) | refine ext_ext' ?_ _ | refine ext_alloc' ?_ _ | refine ext_drew' ?_))⟩
    | succ r =>
      have hlt : x < wd := by omega
      have hx6 : x ≤ 6 := by omega
      have hne : ((x : Int) == wd) = false := beq_eq_false_iff_ne.2 (by omega)
      have hbt := bit_test full x
      have hbo := bit_test out x
      haveI : Le64 x := ⟨by omega⟩
      haveI : Le64 (x + 1) := ⟨by omega⟩
      have hX : wd - (r + 1) = x := by omega
      have IH := Lib.hid fun w => l11_next (ih r (by omega) (x + 1) w (by omega))
      have IH2 := Lib.hid fun (s : Nat) (hs : r = s + 1) w => l11_next2 (ih s (by omega) (x + 2) w (by omega))
      cases hf : full.testBit x
      all_goals
        cases ho : out.testBit x
        all_goals
          rw [hf] at hbt
          rw [ho] at hbo
      · cases r with
        | zero =>
          have hx1 : decide ((x : Int) + 1 < wd) = false := decide_eq_false (by omega)
          have HF := Lib.hid (fillS_one hX hf ho)
          clear hf ho hX hx
          go_enter Try.func69, Try.ntmps69
          go_wp2_with fail
          go_ret
          exact ⟨ret_int HF.out.symm, (by repeat (first | exact ext_refl _ | (with_reducible assumption) | refine ext_ext' ?_ _ | refine ext_alloc' ?_ _ | refine ext_drew' ?_))⟩
        | succ r =>
          have hx1 : decide ((x : Int) + 1 < wd) = true := decide_eq_true (by omega)
          have hbt2 := bit_test0 full (x + 1)
          have hbo2 := bit_test0 out (x + 1)
          cases hf2 : full.testBit (x + 1)
          · rw [hf2] at hbt2
            cases ho2 : out.testBit (x + 1)
            · rw [ho2] at hbo2
              have HF := Lib.hid (fillS_two hX hf ho hf2 ho2)
              clear hf ho hX hx hf2 ho2
              go_enter Try.func69, Try.ntmps69
              go_wp2_with (first | (go_at_call 69; refine (IH2.out r rfl _).mono ?_; rintro e w' ⟨rfl, xe, rfl⟩))
              go_ret
              exact ⟨ret_int HF.out.symm, (by repeat (first | exact ext_refl _ | (with_reducible assumption) | refine ext_ext' ?_ _ | refine ext_alloc' ?_ _ | refine ext_drew' ?_))⟩
            · rw [ho2] at hbo2
              have HF := Lib.hid (fillS_no2 hX hf ho ho2)
              clear hf ho hX hx hf2 ho2
              go_enter Try.func69, Try.ntmps69
              go_wp2_with fail
              go_ret
              exact ⟨ret_int HF.out.symm, (by repeat (first | exact ext_refl _ | (with_reducible assumption) | refine ext_ext' ?_ _ | refine ext_alloc' ?_ _ | refine ext_drew' ?_))⟩
          · rw [hf2] at hbt2
            have HF := Lib.hid (fillS_no hX hf ho hf2)
            clear hf ho hX hx hf2
            go_enter Try.func69, Try.ntmps69
            go_wp2_with fail
            go_ret
            exact ⟨ret_int HF.out.symm, (by repeat (first | exact ext_refl _ | (with_reducible assumption) | refine ext_ext' ?_ _ | refine ext_alloc' ?_ _ | refine ext_drew' ?_))⟩
      · have HF := Lib.hid (fillS_o hX hf ho)
        clear hf ho hX hx
        go_enter Try.func69, Try.ntmps69
        go_wp2_with (first | (go_at_call 69; refine (IH.out _).mono ?_; rintro e w' ⟨rfl, xe, rfl⟩))
        go_ret
        exact ⟨ret_int HF.out.symm, (by repeat (first | exact ext_refl _ | (with_reducible assumption) | refine ext_ext' ?_ _ | refine ext_alloc' ?_ _ | refine ext_drew' ?_))⟩
      · have HF := Lib.hid (fillS_f hX hf ho)
        clear hf ho hX hx
        go_enter Try.func69, Try.ntmps69
        go_wp2_with (first | (go_at_call 69; refine (IH.out _).mono ?_; rintro e w' ⟨rfl, xe, rfl⟩))
        go_ret
        exact ⟨ret_int HF.out.symm, (by repeat (first | exact ext_refl _ | (with_reducible assumption) | refine ext_ext' ?_ _ | refine ext_alloc' ?_ _ | refine ext_drew' ?_))⟩
      · have HF := Lib.hid (fillS_ff hX hf ho)
        clear hf ho hX hx
        go_enter Try.func69, Try.ntmps69
        go_wp2_with fail
        go_ret
        exact ⟨ret_int HF.out.symm, (by repeat (first | exact ext_refl _ | (with_reducible assumption) | refine ext_ext' ?_ _ | refine ext_alloc' ?_ _ | refine ext_drew' ?_))⟩
theorem l11Fill_top (wd full out : Nat) [Lt63 full] [Lt63 out] (hw : wd ≤ 6) (w : World) :
    Calls Try.prog 69 #[.int .i64 wd, .int .i64 0, .int .i64 full, .int .i64 out] w fun e w' => e = .returned (.int .i64 (fillS wd full out wd)) ∧ ∃ x, w' = ext w x := l11Fill_any wd full out hw wd 0 w (by omega)
def rowDS (wd a : Nat) : List Int := (List.range (2 ^ wd)).map fun b => fillS wd a b wd
theorem ways_eq : ∀ wd, wd < 5 → ∀ a, a < 2 ^ wd → waysTo wd a = rowDS wd a := by decide +kernel
end
section
open Go.ChangeShapes Go.WideShapes Go.ChangeAt Go.RowKit
def matTo (wd k : Nat) : List (List Int) := (List.range k).map (waysTo wd)
theorem matTo_len (wd k : Nat) : (matTo wd k).length = k := by simp [matTo]
theorem matTo_succ (wd k : Nat) : matTo wd (k + 1) = matTo wd k ++ [waysTo wd k] := by simp [matTo, List.range_succ]
def matV (wd : Int) : Option (List (List Int)) := if btw wd 1 4 then some (matTo wd.toNat (shlN 1 wd.toNat)) else none
theorem matV_no {wd : Int} (h : btw wd 1 4 = false) : matV wd = none := by simp [matV, h]
theorem matV_yes {n : Nat} (h : btw n 1 4 = true) : matV n = some (matTo n (shlN 1 n)) := by simp [matV, h]
theorem shl6 {wd : Nat} (hw : wd ≤ 6) : shlN 1 wd ≤ 64 := by rw [shlN, Nat.one_mul]; exact pow6 hw
theorem shl_pow (wd : Nat) : shlN 1 wd = 2 ^ wd := by rw [shlN, Nat.one_mul]
theorem waysTo_len (wd a : Nat) : (waysTo wd a).length = 2 ^ wd := tab_len _ _
set_option maxHeartbeats 1000000 in
theorem implMat_any (wd : Int) (w : World) : Calls Try.prog 30 #[.int .i64 wd] w (RowsPost w (matV wd)) := by
  cases hb : btw wd 1 4
  · have HF := Lib.hid (matV_no hb)
    go_enter Try.func30, Try.ntmps30
    go_wp2_with (first | (go_at_call 65; refine (between_b _ _ _ _ hb _).mono ?_; rintro e w' ⟨rfl, xe, rfl⟩))
    go_ret2
    exact .fail HF.out (by repeat (first | exact ext_refl _ | (with_reducible assumption) | refine ext_ext' ?_ _ | refine ext_alloc' ?_ _ | refine ext_drew' ?_))
  obtain ⟨b1, b2⟩ := btw_iff.1 hb
  obtain ⟨n, rfl⟩ : ∃ n : Nat, wd = n := ⟨wd.toNat, by omega⟩
  haveI : Le6 n := ⟨by omega⟩
  have hn6 : n ≤ 6 := by omega
  have HF := Lib.hid (matV_yes hb)
  have hlen := shl6 hn6
  go_enter Try.func30, Try.ntmps30
  go_wp2_with (first | (go_at_call 65; refine (between_b _ _ _ _ hb _).mono ?_; rintro e w' ⟨rfl, xe, rfl⟩))
  go_loopw [4, 11] (fun u i wr => ∃ (v : Value) (k : Nat) (vs : List Value), v = u ∧ k ≤ shlN 1 n ∧ i = .int .i64 k ∧ vs.length = k ∧ Held w wr (grpR v vs (matTo n k) ++ [])) (fun _ i _ => shlN 1 n - (intOf i).toNat)
  case atStart => exact ⟨_, 0, [], rfl, Nat.zero_le _, rfl, rfl, ((Held.start w).to (by repeat (first | exact ext_refl _ | (with_reducible assumption) | refine ext_ext' ?_ _ | refine ext_alloc' ?_ _ | refine ext_drew' ?_))).nilR⟩
  case round =>
    obtain ⟨v, k, vs, rfl, hk, rfl, hvl, H⟩ := hrel
    have HV := Lib.hid (show vs.length = (matTo n k).length by rw [matTo_len, hvl])
    have HVK := Lib.hid hvl
    clear hvl
    by_cases hlt : k < shlN 1 n
    · haveI : Lt63 k := ⟨by omega⟩
      go_wp2_with (first | (go_at_call 56; refine (dominoWays_any _ _ hn6 _).mono ?_; rintro e w' ⟨v', rfl, H2⟩; obtain ⟨ua, uc, rfl⟩ := H2.rowV; have HR := Lib.hid ((H.join H2).pull 1 rfl); clear H H2) | (at_builtin; refine wpList_append_held rfl _ _ _ rfl elemInts (HR.out.to (by repeat (first | exact ext_refl _ | (with_reducible assumption) | refine ext_ext' ?_ _ | refine ext_alloc' ?_ _ | refine ext_drew' ?_))) rfl rfl (Sl_new1 _ _ _) (one_row _ _ _) (by rw [matTo_len]; unfold maxLen; omega) (by rw [matTo_len]; omega) ?_; intro v' w' H))
      go_roundw
      case rel =>
        refine ⟨v', k + 1, vs ++ [.slice ua (waysTo n k).length uc], rfl, hlt, int_succ k, by simp [HVK.out], ?_⟩
        rw [matTo_succ]
        refine Held.snocR HV.out ?_
        exact H
      case measure => simp [intOf]; omega
    · rw [show k = shlN 1 n by omega] at H
      have HH := Lib.hid H
      have HK := Lib.hid (show k = shlN 1 n by omega)
      clear H
      go_wp2_with fail
      go_ret2
      have H := HH.out
      rw [List.append_nil] at H
      exact .got HF.out (by have h := HV.out; rw [h, matTo_len, matTo_len, HK.out]) H
def rowTo (wd a k : Nat) : List Int := (List.range k).map fun b => fillS wd a b wd
theorem rowTo_len (wd a k : Nat) : (rowTo wd a k).length = k := by simp [rowTo]
theorem rowTo_succ (wd a k : Nat) : rowTo wd a (k + 1) = rowTo wd a k ++ [fillS wd a k wd] := by simp [rowTo, List.range_succ]
theorem rowTo_all {n k : Nat} (h4 : n ≤ 4) (hk : k < shlN 1 n) : rowTo n k (shlN 1 n) = waysTo n k := by
  rw [shl_pow] at hk ⊢
  exact (ways_eq n (by omega) k hk).symm
set_option maxHeartbeats 2000000 in
theorem specMat_any (wd : Int) (w : World) : Calls Try.prog 31 #[.int .i64 wd] w (RowsPost w (matV wd)) := by
  cases hb : btw wd 1 4
  · have HF := Lib.hid (matV_no hb)
    go_enter Try.func31, Try.ntmps31
    go_wp2_with (first | (go_at_call 67; refine (l1In_b _ _ _ _ hb _).mono ?_; rintro e w' ⟨rfl, xe, rfl⟩))
    go_ret2
    exact .failE HF.out (((Held.start w).empty _ _).to (by repeat (first | exact ext_refl _ | (with_reducible assumption) | refine ext_ext' ?_ _ | refine ext_alloc' ?_ _ | refine ext_drew' ?_)))
  obtain ⟨b1, b2⟩ := btw_iff.1 hb
  obtain ⟨n, rfl⟩ : ∃ n : Nat, wd = n := ⟨wd.toNat, by omega⟩
  haveI : Le6 n := ⟨by omega⟩
  have hn6 : n ≤ 6 := by omega
  have HF := Lib.hid (matV_yes hb)
  have hlen := shl6 hn6
  go_enter Try.func31, Try.ntmps31
  go_wp2_with (first | (go_at_call 67; refine (l1In_b _ _ _ _ hb _).mono ?_; rintro e w' ⟨rfl, xe, rfl⟩))
  go_loopw [4, 5] (fun u i wr => ∃ (v : Value) (k : Nat) (vs : List Value), v = u ∧ k ≤ shlN 1 n ∧ i = .int .i64 k ∧ vs.length = k ∧ Held w wr (grpR v vs (matTo n k) ++ [])) (fun _ i _ => shlN 1 n - (intOf i).toNat)
  case atStart => exact ⟨_, 0, [], rfl, Nat.zero_le _, rfl, rfl, (((Held.start w).empty _ _).to (by repeat (first | exact ext_refl _ | (with_reducible assumption) | refine ext_ext' ?_ _ | refine ext_alloc' ?_ _ | refine ext_drew' ?_))).grp0⟩
  case round =>
    obtain ⟨v, k, vs, rfl, hk, rfl, hvl, H⟩ := hrel
    have HV := Lib.hid (show vs.length = (matTo n k).length by rw [matTo_len, hvl])
    have HVK := Lib.hid hvl
    clear hvl
    by_cases hlt : k < shlN 1 n
    · haveI : Lt63 k := ⟨by omega⟩
      have H0 := Lib.hid (H.empty 3 1)
      clear H
      go_wp2_with fail
      go_loopw [6, 7] (fun u i wr2 => ∃ (r : Value) (q : Nat), r = u ∧ q ≤ shlN 1 n ∧ i = .int .i64 q ∧ Held w wr2 (rowI r (rowTo n k q) :: (grpR v vs (matTo n k) ++ []))) (fun _ i _ => shlN 1 n - (intOf i).toNat)
      case atStart => exact ⟨_, 0, rfl, Nat.zero_le _, rfl, H0.out⟩
      case round =>
        clear H0
        obtain ⟨r, q, rfl, hq, rfl, H⟩ := hrel
        by_cases hlt2 : q < shlN 1 n
        · haveI : Lt63 q := ⟨by omega⟩
          go_wp2_with (first | (go_at_call 69; refine (l11Fill_top _ _ _ hn6 _).mono ?_; rintro e w' ⟨rfl, xe, rfl⟩) | (at_builtin; refine wpList_append_held (m := 1) rfl _ _ _ rfl elemInt (H.to (by repeat (first | exact ext_refl _ | (with_reducible assumption) | refine ext_ext' ?_ _ | refine ext_alloc' ?_ _ | refine ext_drew' ?_))) rfl rfl (Sl_new1 _ _ _) (one_lit _) (by rw [rowTo_len]; unfold maxLen; omega) (by rw [rowTo_len]; omega) ?_; intro v' w' H; have H := H.snoc))
          go_roundw
          case rel =>
            refine ⟨v', q + 1, rfl, hlt2, int_succ q, ?_⟩
            rw [rowTo_succ]
            exact H
          case measure => simp [intOf]; omega
        · rw [show q = shlN 1 n by omega, rowTo_all (by omega) hlt] at H
          obtain ⟨ua, uc, rfl⟩ := H.rowV
          have HR := Lib.hid (H.pull 1 rfl)
          clear H
          go_wp2_with (first | (at_builtin; refine wpList_append_held rfl _ _ _ rfl elemInts (HR.out.to (by repeat (first | exact ext_refl _ | (with_reducible assumption) | refine ext_ext' ?_ _ | refine ext_alloc' ?_ _ | refine ext_drew' ?_))) rfl rfl (Sl_new1 _ _ _) (one_row _ _ _) (by rw [matTo_len]; unfold maxLen; omega) (by rw [matTo_len]; omega) ?_; intro v' w' H))
          go_roundw
          case rel =>
            refine ⟨v', k + 1, vs ++ [.slice ua (waysTo n k).length uc], rfl, hlt, int_succ k, by simp [HVK.out], ?_⟩
            rw [matTo_succ]
            refine Held.snocR HV.out ?_
            exact H
          case measure => simp [intOf]; omega
    · rw [show k = shlN 1 n by omega] at H
      have HH := Lib.hid H
      have HK := Lib.hid (show k = shlN 1 n by omega)
      clear H
      go_wp2_with fail
      go_ret2
      have H := HH.out
      rw [List.append_nil] at H
      exact .got HF.out (by have h := HV.out; rw [h, matTo_len, matTo_len, HK.out]) H
end
section
open Go.ChangeShapes Go.WideShapes Go.ChangeAt Go.RowKit
def ssB (wd : Nat) (c : Int) (a : Nat) (g : Nat → Int) : Nat → Nat → Int := iter (fun b g => upd g b (wrap64 (g b + wrap64 (c * dW wd a b)))) g
theorem ssB_succ (wd : Nat) (c : Int) (a : Nat) (g : Nat → Int) (b : Nat) : ssB wd c a g (b + 1) = upd (ssB wd c a g b) b (wrap64 (ssB wd c a g b b + wrap64 (c * dW wd a b))) := rfl
def ssA (wd : Nat) (f : Nat → Int) : Nat → Nat → Int := iter (fun a g => ssB wd (f a) a g (shlN 1 wd)) fun _ => 0
theorem ssA_succ (wd : Nat) (f : Nat → Int) (a : Nat) : ssA wd f (a + 1) = ssB wd (f a) a (ssA wd f a) (shlN 1 wd) := rfl
def ssN (wd : Nat) : Nat → Nat → Int := iter (fun _ f => ssA wd f (shlN 1 wd)) (upd (fun _ => 0) 0 1)
theorem ssN_succ (wd n : Nat) : ssN wd (n + 1) = ssA wd (ssN wd n) (shlN 1 wd) := rfl
theorem shl_pos (wd : Nat) : 0 < shlN 1 wd := by rw [shl_pow]; exact Nat.two_pow_pos _
set_option maxHeartbeats 2000000 in
theorem stripCount_any (n m : Nat) (hn6 : n ≤ 6) (hm : m ≤ 16) (w : World) : Calls Try.prog 66 #[.int .i64 n, .int .i64 m] w fun e w' => e = .returned (.int .i64 (ssN n m 0)) ∧ ∃ x, w' = ext w x := by
  haveI : Le6 n := ⟨hn6⟩
  have hlen := shl6 hn6
  have hpos := shl_pos n
  obtain ⟨N, hN⟩ : ∃ N, N = shlN 1 n := ⟨_, rfl⟩
  have HN2 := Lib.hid (hN.trans (shl_pow n))
  have HN := Lib.hid hN
  have hsh : ((shlN 1 n : Nat) : Int) = ((N : Nat) : Int) := by rw [hN]
  have HS := Lib.hid hsh
  rw [← hN] at hlen hpos
  clear hsh hN
  go_enter Try.func66, Try.ntmps66
  go_wp2_with (first | (at_make; refine wpList_make_held rfl _ _ _ rfl elemInt (Held.start w) .i64 .i64 _ _ N rfl rfl HS.out HS.out (by omega) (by unfold maxLen; omega) ?_; intro w1 H1; have H := H1.zeros; clear H1; obtain ⟨k1, k2⟩ := H.cellRow hpos; have HH := Lib.hid (H.storeRow 0 1); clear H))
  go_loopw [5, 17] (fun u i wr => ∃ (g j : Nat), u = .slice (some ⟨g, 0, none⟩) N N ∧ j ≤ m ∧ i = .int .i64 j ∧ Held w wr [rowT g N (ssN n j)]) (fun _ i _ => m - (intOf i).toNat)
  case atStart => exact ⟨_, 0, rfl, Nat.zero_le _, rfl, HH.out⟩
  case round =>
    clear HH k1 k2
    obtain ⟨g, j, rfl, hj, rfl, H⟩ := hrel
    by_cases hlt : j < m
    · go_wp2_with (first | (at_make; refine wpList_make_held rfl _ _ _ rfl elemInt H .i64 .i64 _ _ N rfl rfl HS.out HS.out (by omega) (by unfold maxLen; omega) ?_; intro w2 H1))
      have H2 := H1.zeros
      clear H1 H
      generalize wr.heap.size = g2 at H2 ⊢
      go_loopw [24] (fun i wr2 => ∃ a : Nat, a ≤ N ∧ i = .int .i64 a ∧ Held w wr2 [rowT g2 N (ssA n (ssN n j) a), rowT g N (ssN n j)]) (fun i _ => N - (intOf i).toNat)
      case atStart => exact ⟨0, Nat.zero_le _, rfl, H2⟩
      case round =>
        clear H2
        obtain ⟨a, ha, rfl, H⟩ := hrel
        by_cases hlt2 : a < N
        · haveI : Lt63 a := ⟨by omega⟩
          obtain ⟨k1, k2⟩ := (H.pull 1 rfl).cellRow hlt2
          clear k2
          go_wp2_with (first | (go_at_call 56; refine (dominoWays_row _ _ N hn6 HN2.out _).mono ?_; rintro e w' ⟨gw, rfl, H2⟩; have HR := Lib.hid ((H.join H2).pull 1 rfl); clear H H2 k1))
          have H2 := HR.out
          clear HR
          go_loopw [33] (fun i wr3 => ∃ b : Nat, b ≤ N ∧ i = .int .i64 b ∧ Held w wr3 [rowT g2 N (ssB n (ssN n j a) a (ssA n (ssN n j) a) b), rowT gw N (dW n a), rowT g N (ssN n j)]) (fun i _ => N - (intOf i).toNat)
          case atStart => exact ⟨0, Nat.zero_le _, rfl, H2⟩
          case round =>
            clear H2
            obtain ⟨b, hb, rfl, H⟩ := hrel
            by_cases hlt3 : b < N
            · obtain ⟨k1, k2⟩ := H.cellRow hlt3
              obtain ⟨k3, k4⟩ := (H.pull 1 rfl).cellRow hlt3
              have H3 := Lib.hid fun x => H.storeRow b x
              clear H k4
              go_wp2_with fail
              go_roundw
              case rel => exact ⟨b + 1, hlt3, int_succ b, by rw [ssB_succ]; exact H3.out _⟩
              case measure => simp [intOf]; omega
            · rw [show b = N by omega] at H
              have HH := Lib.hid (H.pull 1 rfl).drop
              clear H
              go_wp2_with fail
              go_roundw
              case rel => exact ⟨a + 1, hlt2, int_succ a, by rw [ssA_succ, ← HN.out]; exact HH.out⟩
              case measure => simp [intOf]; omega
        · rw [show a = N by omega] at H
          have HH := Lib.hid H.first
          clear H
          go_wp2_with fail
          go_roundw
          case rel => exact ⟨g2, j + 1, rfl, hlt, int_succ j, by rw [ssN_succ, ← HN.out]; exact HH.out⟩
          case measure => simp [intOf]; omega
    · rw [show j = m by omega] at H
      obtain ⟨k1, k2⟩ := H.cellRow hpos
      have HX := Lib.hid (ext_of H.bel)
      clear H k2
      go_wp2_with fail
      go_ret
      exact ⟨rfl, HX.out⟩
end
section
open Go.ChangeShapes Go.WideShapes Go.ChangeAt Go.RowKit
abbrev ky (x : Nat) : Lit := .int .i64 (x : Int)
theorem ky_is (x : Nat) : WideAt.IsKeyLit (ky x) := trivial
theorem ky_ne {x y : Nat} (h : x ≠ y) : ky x ≠ ky y := by
  intro e
  simp only [ky, Lit.int.injEq, true_and] at e
  omega
/-- D holds the counts f, at numbers below N -/
structure CMap (N : Nat) (D : DataW Unit) (f : Nat → Int) : Prop where
  map : Maps.IsMap D
  key : ∀ kl, Maps.has D kl = true → ∃ x : Nat, x < N ∧ kl = ky x
  at_ : ∀ x : Nat, x < N → D.atKey (ky x) (.lit (.int .i64 0)) = .lit (.int .i64 (f x))
theorem CMap.empty (N : Nat) : CMap N (.map []) fun _ => 0 :=
  ⟨Maps.isMap_empty, fun kl h => by simp [Maps.has] at h, fun x _ => Maps.atKey_of_not_has (by simp [Maps.has]) _⟩
theorem CMap.put {N : Nat} {D : DataW Unit} {f : Nat → Int} (h : CMap N D f) {x : Nat} (hx : x < N) (v : Int) : CMap N (D.put (ky x) (.lit (.int .i64 v))) (upd f x v) := by
  refine ⟨h.map.put _ _, fun kl hk => ?_, fun y hy => ?_⟩
  · by_cases e : kl = ky x
    · exact ⟨x, hx, e⟩
    · rw [Maps.has_put_other e] at hk
      exact h.key kl hk
  · unfold upd
    by_cases e : y = x
    · subst e
      rw [Maps.atKey_put_same h.map (ky_is y), if_pos rfl]
    · rw [Maps.atKey_put_other (ky_ne e), if_neg e, h.at_ y hy]
theorem CMap.zero {N : Nat} {D : DataW Unit} {f : Nat → Int} (h : CMap N D f) {x : Nat} (hx : x < N) (hn : Maps.has D (ky x) = false) : f x = 0 := by
  have h1 := h.at_ x hx
  rw [Maps.atKey_of_not_has hn] at h1
  simp only [DataW.lit.injEq, Lit.int.injEq, true_and] at h1
  exact h1.symm
theorem CMap.val {N : Nat} {D : DataW Unit} {f : Nat → Int} (h : CMap N D f) {x : Nat} {c : Int} (hx : x < N) (hat : ∀ zd, D.atKey (ky x) zd = .lit (.int .i64 c)) : c = f x := by
  have h1 := h.at_ x hx
  rw [hat] at h1
  simp only [DataW.lit.injEq, Lit.int.injEq, true_and] at h1
  exact h1
theorem CMap.look {N : Nat} {D : DataW Unit} {f : Nat → Int} (h : CMap N D f) {x : Nat} {c : Int} (hx : x < N) (hat : D.atKey (ky x) (.lit (.int .i64 0)) = .lit (.int .i64 c)) : c = f x := by
  rw [h.at_ x hx] at hat
  simp only [DataW.lit.injEq, Lit.int.injEq, true_and] at hat
  exact hat.symm
/-- the value of the entries that have come out -/
def doneS (N : Nat) (left : Lit → Bool) (f : Nat → Int) (E : Nat → Nat) : Int := sm (fun k => if left (ky k) then 0 else f k * (E k : Int)) N
theorem done_start {N : Nat} {D : DataW Unit} {f : Nat → Int} (h : CMap N D f) (E : Nat → Nat) : doneS N (Maps.has D) f E = 0 := by
  refine (sm_congr fun k hk => ?_).trans (sm_zero N)
  split
  · rfl
  · rename_i hn
    rw [h.zero hk (by simpa using hn), Int.zero_mul]
theorem sm_add1 {g h : Nat → Int} {x : Nat} {d : Int} (hx : g x = h x + d) (ho : ∀ k, k ≠ x → g k = h k) : ∀ n, sm g n = sm h n + if x < n then d else 0
  | 0 => by simp [sm]
  | n + 1 => by
    rw [sm, sm, sm_add1 hx ho n]
    by_cases h1 : x < n
    · rw [if_pos h1, if_pos (by omega), ho n (by omega)]; omega
    · by_cases h2 : n = x
      · subst h2; rw [if_neg h1, if_pos (by omega), hx]; omega
      · rw [if_neg h1, if_neg (by omega), ho n h2]; omega
theorem ky_same (x y : Nat) : (ky y).sameKey (ky x) = decide (y = x) := by
  by_cases e : y = x
  · subst e; rw [WideAt.sameKey_self (ky_is y)]; simp
  · rw [Maps.sameKey_ne (ky_ne e)]; simp [e]
theorem done_step {N : Nat} {left : Lit → Bool} {f : Nat → Int} {E : Nat → Nat} {x : Nat} (hx : x < N) (hl : left (ky x) = true) :
    doneS N (fun z => left z && !z.sameKey (ky x)) f E = doneS N left f E + f x * (E x : Int) := by
  rw [doneS, doneS, sm_add1 (x := x) (d := f x * (E x : Int)) (h := fun k => if left (ky k) then 0 else f k * (E k : Int)) ?_ ?_ N, if_pos hx]
  · simp only [ky_same, decide_true, Bool.not_true, Bool.and_false, Bool.false_eq_true, if_false, hl, if_true]; omega
  · intro k hk
    simp only [ky_same, hk, decide_false, Bool.not_false, Bool.and_true]
theorem done_end {N : Nat} {left : Lit → Bool} {f : Nat → Int} {E : Nat → Nat} (h : ∀ kl, left kl = false) : doneS N left f E = sm (fun k => f k * (E k : Int)) N := by
  rw [doneS]
  refine sm_congr fun k _ => ?_
  rw [h]; rfl
theorem Held.beside {W0 w w' : World} {L : List Row} {B : Nat} (H : Held W0 w L) (hg : w.grownBy w' (some B)) (hB : W0.heap.size ≤ B) (hne : ∀ r ∈ L, r.v.ownBlock ≠ some B) : Held W0 w' L :=
  ⟨H.bel.grown hg H.le (fun k hk => by cases hk; exact hB), fun r hr => (H.own r hr).kept hg (.inr (hne r hr)), H.apart⟩
theorem Held.sameB {W0 w w' : World} {L : List Row} (H : Held W0 w L) (hg : w.grownBy w' none) : Held W0 w' L :=
  ⟨H.bel.grown hg H.le (fun k hk => by cases hk), fun r hr => (H.own r hr).kept hg (by cases h : r.v.ownBlock <;> simp), H.apart⟩
theorem wpList_insert_own {H : Type} {P : Program} (w : World) {ops : Array Oper} {rest : List Oper} {o : Oper} {a : Act} {Q : Exit → Act → World → Prop}
    (hg : o.guard = none) (m x v : Operand) (t : TypeId) (hop : o.op = Op.insert t m x v)
    (k e : TypeId) (K : Maps.Keyed P k) (ht : P.underlying t = some (.map k e)) (R : Value → Option (DataW H × List MemPlace)) (b n : Nat) (D : DataW H)
    (hm : a.eval m = .map (some b)) (hown : w.ownsMap P k R b n D) (hn : n < maxLen) (key val : Value) (kl : Lit) (hx : a.eval x = key) (hv : a.eval v = val) (hkey : keyOf P k key = some kl)
    (d : DataW H) (ps : List MemPlace) (hval : R val = some (d, ps))
    (hK : ∀ w', w'.ownsMap P k R b (n + 1) (D.put kl d) → w.grownBy w' (some b) → wpList P ops Q rest (a.put o.dst undef) w') :
    wpList P ops Q (o :: rest) a w := by
  refine wpList_plain hg fun K' hK' => ?_
  obtain ⟨w', hrun, r1, r2⟩ := hown.update K ht hn hkey hval
  unfold Oper.wp
  simp [execOp, hop, hm, hx, hv, hrun, Result.andThen]
  exact hK' _ _ (hK w' r1 r2)
theorem keyI : Maps.Keyed Try.prog 3 := Maps.int_keyed Try.underlying3
theorem zeroI (w : World) : (zeroValue 3).run Try.prog w = .ok (.int .i64 0) w := by kernel_rfl
abbrev OwnsC (w : World) (B n : Nat) (D : DataW Unit) : Prop := w.ownsMap Try.prog 3 (plainElem Try.prog 3) B n D
theorem ky_wf {x : Nat} (h : x < 9223372036854775808) : (Lit.int .i64 (x : Int)).wf = true := by simp [Lit.wf, IntKind.min, IntKind.max, IntKind.signed, IntKind.bits]; omega
theorem ky_of {x : Nat} (h : x < 9223372036854775808) : keyOf Try.prog 3 (.int .i64 (x : Int)) = some (ky x) := Maps.keyOf_int_mk Try.underlying3 (ky_wf h)
theorem el_of (v : Int) : plainElem (H := Unit) Try.prog 3 (.int .i64 (wrap64 v)) = some (.lit (.int .i64 (wrap64 v)), []) := plainElem_int Try.underlying3 (wrap64_wf v)
theorem grown_ext {w w' : World} (h : ∃ x, w' = ext w x) : w.grownBy w' none := by
  obtain ⟨x, rfl⟩ := h
  exact ⟨rfl, rfl, rfl, by rw [size_ext]; omega, fun k hk _ => heap_ext w x hk⟩
theorem ky_zero : keyOf Try.prog 3 (.int .i64 0) = some (ky 0) := ky_of (x := 0) (by omega)
theorem el_one : plainElem (H := Unit) Try.prog 3 (.int .i64 1) = some (.lit (.int .i64 1), []) := plainElem_int Try.underlying3 (by decide)
theorem own_size {w : World} {B n : Nat} {D : DataW Unit} (h : OwnsC w B n D) : Maps.size D ≤ n := by
  obtain ⟨es, clock, _, _, hs, rfl⟩ := h
  rw [Maps.size_eq, length_sorted]; simpa using hs
theorem made_owns (w : World) : OwnsC (w.alloc (.map #[] 0)) w.heap.size 0 (.map []) := World.ownsMap_made _ _ _ _
end
section
open Go.ChangeShapes Go.WideShapes Go.ChangeAt Go.RowKit
open Go.Maps
def RowOK (W : Nat) (rows : List Int) (f : Nat → Int) (y : Nat) : Prop := Cg (sm (fun s => f s * (domE W rows (rows.length - y) s : Int)) (2 ^ W)) (domV W rows : Int)
theorem row_start (W : Nat) (rows : List Int) : RowOK W rows (upd (fun _ => 0) 0 1) 0 := by
  unfold RowOK
  have hp := Nat.two_pow_pos W
  rw [sm_upd, if_pos hp, (sm_congr fun k _ => Int.zero_mul _).trans (sm_zero _)]
  simp only [domV, Nat.sub_zero]
  exact ⟨0, by omega⟩
theorem row_end {W : Nat} {rows : List Int} {f : Nat → Int} (h : RowOK W rows f rows.length) : Cg (f 0) (domV W rows : Int) := by
  unfold RowOK at h
  have e : sm (fun s => f s * (domE W rows (rows.length - rows.length) s : Int)) (2 ^ W) = f 0 := by
    rw [← sm_pick f (Nat.two_pow_pos W), Nat.sub_self]
    refine sm_congr fun s _ => ?_
    simp only [domE]
    split <;> rfl
  rwa [e] at h
/-- a row under way: what has come out of the old counts is in the new ones -/
def GoOK (W : Nat) (rows : List Int) (f g : Nat → Int) (left : Lit → Bool) (y : Nat) : Prop :=
  Cg (sm (fun s => g s * (domE W rows (rows.length - (y + 1)) s : Int)) (2 ^ W)) (doneS (2 ^ W) left f (domE W rows (rows.length - y)))
theorem go_start {W : Nat} {rows : List Int} {f : Nat → Int} {D : DataW Unit} (h : CMap (2 ^ W) D f) (y : Nat) : GoOK W rows f (fun _ => 0) (Maps.has D) y := by
  unfold GoOK
  rw [done_start h, (sm_congr fun k _ => Int.zero_mul _).trans (sm_zero _)]
  exact Cg.refl 0
theorem go_end {W : Nat} {rows : List Int} {f g : Nat → Int} {left : Lit → Bool} {y : Nat} (h0 : RowOK W rows f y) (h : GoOK W rows f g left y) (hl : ∀ kl, left kl = false) : RowOK W rows g (y + 1) := by
  unfold GoOK at h
  rw [done_end hl] at h
  exact h.trans h0
theorem dom_row {W : Nat} {rows : List Int} {y x : Nat} (hy : y < rows.length) : domE W rows (rows.length - y) x = if subN x (rowN rows y) then ph W (usedN W x (rowN rows y)) (domE W rows (rows.length - (y + 1))) W 0 else 0 := by
  obtain ⟨k, hk⟩ : ∃ k, rows.length - y = k + 1 := ⟨rows.length - y - 1, by omega⟩
  rw [hk, domE, show rows.length - (k + 1) = y by omega, show rows.length - (y + 1) = k by omega]; rfl
theorem go_skip {W : Nat} {rows : List Int} {f g : Nat → Int} {left : Lit → Bool} {y x : Nat} (hy : y < rows.length) (h : GoOK W rows f g left y) (hx : x < 2 ^ W) (hl : left (ky x) = true) (hs : subN x (rowN rows y) = false) :
    GoOK W rows f g (fun z => left z && !z.sameKey (ky x)) y := by
  unfold GoOK at h ⊢
  rw [done_step hx hl, dom_row hy, hs]
  simpa using h
/-- one entry under way: the first b of its ways -/
def InOK (W : Nat) (rows : List Int) (f g : Nat → Int) (left : Lit → Bool) (y x used b : Nat) : Prop :=
  Cg (sm (fun s => g s * (domE W rows (rows.length - (y + 1)) s : Int)) (2 ^ W)) (doneS (2 ^ W) left f (domE W rows (rows.length - y)) + f x * sm (fun s => dW W used s * (domE W rows (rows.length - (y + 1)) s : Int)) b)
theorem in_start {W : Nat} {rows : List Int} {f g : Nat → Int} {left : Lit → Bool} {y : Nat} (h : GoOK W rows f g left y) (x used : Nat) : InOK W rows f g left y x used 0 := by
  unfold InOK
  simp only [sm, Int.mul_zero, Int.add_zero]
  exact h
theorem in_skip {W : Nat} {rows : List Int} {f g : Nat → Int} {left : Lit → Bool} {y x used b : Nat} (h : InOK W rows f g left y x used b) (h0 : dW W used b = 0) : InOK W rows f g left y x used (b + 1) := by
  unfold InOK at h ⊢
  rw [sm, h0, Int.zero_mul, Int.add_zero]; exact h
theorem in_step {W : Nat} {rows : List Int} {f g : Nat → Int} {left : Lit → Bool} {y x used b : Nat} (h : InOK W rows f g left y x used b) (hb : b < 2 ^ W) :
    InOK W rows f (upd g b (wrap64 (g b + wrap64 (f x * dW W used b)))) left y x used (b + 1) := by
  unfold InOK at h ⊢
  refine (sm_bump g (fun s => (domE W rows (rows.length - (y + 1)) s : Int)) b (wrap64 (f x * dW W used b)) hb).trans ?_
  rw [sm, Int.mul_add, ← Int.add_assoc]
  refine h.add ?_
  rw [← Int.mul_assoc]
  exact (Cg.wrap _).mulR _
theorem in_end {W : Nat} {rows : List Int} {f g : Nat → Int} {left : Lit → Bool} {y x : Nat} (hy : y < rows.length) (h : InOK W rows f g left y x (usedN W x (rowN rows y)) (2 ^ W)) (hx : x < 2 ^ W) (hl : left (ky x) = true) (hs : subN x (rowN rows y) = true) :
    GoOK W rows f g (fun z => left z && !z.sameKey (ky x)) y := by
  unfold InOK at h
  unfold GoOK
  rw [done_step hx hl, dom_row hy, hs, if_pos rfl]
  exact h.trans ((Cg.refl _).add ((ways_sum W _ _).mulL _))
set_option maxRecDepth 100000 in
set_option maxHeartbeats 16000000 in
theorem implCd_any (wd : Int) (rows : List Int) (v : Value) (w : World) (h : IntsAt w v rows) :
    Calls Try.prog 16 #[.agg #[.int .i64 wd, v]] w fun e w' => e = .returned (.int .i64 (cdV wd rows)) ∧ ∃ x, w' = ext w x := by
  have h0 := h
  obtain ⟨a, b, o, cap, rfl, hc1, hc2, hc3, hcell⟩ := h.opn
  have h1 := h0.alloc (.cells #[.int .i64 wd, .slice a rows.length cap] 28)
  clear h
  cases hr : regB wd rows
  · have HF := Lib.hid (cdV_no hr)
    clear hcell
    go_enter Try.func16, Try.ntmps16
    go_wp2_with (first | (go_at_call 45; refine (isRegion_any _ _ _ _ h1).mono ?_; rintro e w' ⟨rfl, xe, rfl⟩))
    go_ret
    exact ⟨ret_int HF.out.symm, (by repeat (first | exact ext_refl _ | (with_reducible assumption) | refine ext_ext' ?_ _ | refine ext_alloc' ?_ _ | refine ext_drew' ?_))⟩
  obtain ⟨W, rfl, hW1, hW2, hl1, hl2, hrow⟩ := regB_bd hr
  have HF := Lib.hid (cdV_yes hr)
  have HR := Lib.hid hr
  haveI : Le6 W := ⟨hW2⟩
  have hlen := shl6 hW2
  have hpos := shl_pos W
  have hpw := shl_pow W
  obtain ⟨N, hN⟩ : ∃ N, N = shlN 1 W := ⟨_, rfl⟩
  have HN2 := Lib.hid (hN.trans hpw)
  have HS := Lib.hid hN
  rw [← hN] at hlen hpos
  have H0 := Held.start (w.alloc (.cells #[.int .i64 W, .slice a rows.length cap] 28))
  have hmm := @run_makeMap Try.prog
  have HROW := Lib.hid hrow
  have HCELL := Lib.hid hcell
  clear hN hrow hpw hcell
  go_enter Try.func16, Try.ntmps16
  go_wp2_with (first | (go_at_call 45; refine (isRegion_any _ _ _ _ h1).mono ?_; rintro e w' ⟨rfl, xe, rfl⟩; replace H0 := H0.ext xe) | (refine wpList_insert_own _ rfl _ _ _ 76 rfl 3 3 keyI Try.underlying76 _ _ 0 _ rfl (World.ownsMap_made _ _ _ _) (by unfold maxLen; omega) (.int .i64 0) (.int .i64 1) (ky 0) rfl rfl ky_zero (.lit (.int .i64 1)) [] el_one ?_; intro w1 hown1 hgrow1; have H1 := Held.beside (H0.to (by repeat (first | exact ext_refl _ | (with_reducible assumption) | refine ext_ext' ?_ _ | refine ext_alloc' ?_ _ | refine ext_drew' ?_))) hgrow1 H0.le (fun r hr => by cases hr); clear H0; obtain ⟨kb0, kb1⟩ := H1.box2))
  have HC0 := Lib.hid ((CMap.empty (2 ^ W)).put (Nat.two_pow_pos W) 1)
  have HB0 := H1.bel.size
  have HH := Lib.hid H1
  generalize (ext _ xe).heap.size = B at hown1 ⊢
  clear H1 hgrow1
  go_loopw [3, 19] (fun u i wr => ∃ (B1 n1 y : Nat) (D1 : DataW Unit) (f : Nat → Int), u = .map (some B1) ∧ i = .int .i64 y ∧ y ≤ rows.length ∧ n1 ≤ 64 ^ y ∧ OwnsC wr B1 n1 D1 ∧ CMap (2 ^ W) D1 f ∧ Hid (RowOK W rows f y) ∧ Held (w.alloc (.cells #[.int .i64 W, .slice a rows.length cap] 28)) wr []) (fun _ i _ => rows.length - (intOf i).toNat)
  case atStart => exact ⟨B, 1, 0, _, _, rfl, rfl, Nat.zero_le _, Nat.le_refl _, hown1, HC0.out, Lib.hid (row_start W rows), HH.out⟩
  case round =>
    clear HH hown1 HC0
    obtain ⟨B1, n1, y, D1, f, rfl, rfl, hy, hn1, hown, hcm, HRO, H⟩ := hrel
    by_cases hlt : y < rows.length
    · obtain ⟨a2, b2, o2, cap2, e3, _, _, _, hc⟩ := (h1.mono H.bel).opn
      simp only [Value.slice.injEq] at e3
      obtain ⟨rfl, _, rfl⟩ := e3
      obtain ⟨q1, q2, q3⟩ := hc y hlt
      obtain ⟨r1, r2⟩ := HROW.out y hlt
      rw [r1] at q3
      haveI := row_lt63 hW2 r2
      have HH := Lib.hid H
      have hown' := hown.alloc (.map #[] 0)
      have HCM := Lib.hid hcm
      have HOW := Lib.hid hown
      clear hc H hcm r1 hown
      go_wp2_with (first | (at_range; refine wpList_range_own _ rfl _ 76 rfl 3 3 keyI Try.underlying76 _ B1 n1 D1 rfl hown' ?_; intro w0 hrg0 hg0 hs0))
      go_frame
      have hB1 : B1 < wr.heap.size := HOW.out.lt
      have HO2 := Lib.hid (World.ownsMap.kept (made_owns wr) hg0 (by simp))
      have HW0 := Lib.hid ((HH.out.to (by repeat (first | exact ext_refl _ | (with_reducible assumption) | refine ext_ext' ?_ _ | refine ext_alloc' ?_ _ | refine ext_drew' ?_))).sameB hg0)
      have hBb := HH.out.le
      obtain ⟨B2, hB2⟩ : ∃ B2, B2 = wr.heap.size := ⟨_, rfl⟩
      obtain ⟨r, hr3⟩ : ∃ r, r = (wr.alloc (.map #[] 0)).heap.size := ⟨_, rfl⟩
      rw [World.size_alloc, ← hB2] at hr3
      have hrg0' : w0.ranges Try.prog 3 (plainElem Try.prog 3) B1 r n1 D1 (Maps.has D1) (Maps.size D1) := by rw [hr3, hB2, ← World.size_alloc wr (.map #[] 0)]; exact hrg0
      have hpr : (wr.alloc (.map #[] 0)).heap.size = r := by rw [World.size_alloc, ← hB2, hr3]
      rw [hpr]
      rw [← hB2] at hB1 HO2 hBb ⊢
      have hsz := own_size HOW.out
      have HR0 := Lib.hid hrg0'
      clear hrg0 hrg0' hg0 hs0 hpr hown' HOW q1 q2 q3 hB2
      have hrB : B2 < r := by omega
      clear hr3
      have hpow : 64 ^ y ≤ 64 ^ 6 := Nat.pow_le_pow_right (by omega) (by omega)
      have hn2 : n1 ≤ 68719476736 := by omega
      clear hpow
      go_loopw [7] (fun _ wr2 => ∃ (left : Lit → Bool) (cnt n2 : Nat) (D2 : DataW Unit) (g : Nat → Int), wr2.ranges Try.prog 3 (plainElem Try.prog 3) B1 r n1 D1 left cnt ∧ (∀ kl, left kl = true → Maps.has D1 kl = true) ∧ OwnsC wr2 B2 n2 D2 ∧ CMap (2 ^ W) D2 g ∧ n2 + 64 * cnt ≤ 64 * n1 ∧ Hid (GoOK W rows f g left y) ∧ Held (w.alloc (.cells #[.int .i64 W, .slice a rows.length cap] 28)) wr2 []) (fun _ wr2 => wr2.rangeLeft B1 r)
      case atStart => exact ⟨_, _, 0, _, _, HR0.out, fun _ h => h, HO2.out, CMap.empty _, by omega, Lib.hid (go_start HCM.out y), HW0.out⟩
      case round =>
        clear HO2 HR0 HW0
        obtain ⟨left, cnt, n2, D2, g, hrg, hsub, hown, hcm2, hcnt, HGO, H⟩ := hrel
        go_wp2_with (first | (at_next; refine wpList_next_ranges_ii _ rfl _ rfl 3 3 .i64 .i64 keyI Try.underlying3 Try.underlying3 B1 r n1 _ _ _ rfl hrg ?_ ?_))
        · intro _ hl0
          have HG := Lib.hid (go_end HRO.out HGO.out hl0)
          go_wp2_with fail
          go_roundw
          case rel => exact ⟨B2, n2, y + 1, D2, g, rfl, int_succ y, hlt, by rw [Nat.pow_succ]; omega, hown, hcm2, HG, H⟩
          case measure => simp [intOf]; omega
        · intro x c w1 cnt1 hwx hwc hlx hat hrg1 hlt1 hg1 hs1 hen
          obtain ⟨q, hq, ex⟩ := HCM.out.key _ (hsub _ hlx)
          simp only [ky, Lit.int.injEq, true_and] at ex
          subst ex
          obtain rfl := HCM.out.val hq hat
          have H1 := Held.beside H hg1 (by omega) (fun r hr => by cases hr)
          have hown1 := World.ownsMap.kept hown hg1 (by simp; omega)
          have hsub1 : ∀ kl, (left kl && !kl.sameKey (ky q)) = true → Maps.has D1 kl = true := fun kl h => hsub kl (by simp at h; exact h.1)
          haveI : Lt63 q := ⟨by have := pow6 hW2; omega⟩
          cases hsb : subN q (rowN rows y)
          · have hz : (((butN q (rowN rows y) : Nat) : Int) != 0) = true := by
              simp only [subN, decide_eq_false_iff_not] at hsb
              simp; omega
            have HG := Lib.hid (go_skip hlt HGO.out hq hlx hsb)
            have HHO := Lib.hid hown1
            have HH1 := Lib.hid H1
            have HRG := Lib.hid hrg1
            have HRO1 := Lib.hid hrg
            have HC2 := Lib.hid hcm2
            have HSB1 := Lib.hid hsub1
            clear hsb hown1 H1 hrg1 hrg hcm2 hsub1 hown H hsub hlx hat hg1 hs1
            go_wp2_with fail
            go_roundw
            case rel => exact ⟨_, cnt1, n2, D2, g, HRG.out, HSB1.out, HHO.out, HC2.out, by omega, HG, HH1.out⟩
            case measure => rw [HRG.out.left_eq, HRO1.out.left_eq]; exact hlt1
          · have hz : (((butN q (rowN rows y) : Nat) : Int) != 0) = false := by
              simp only [subN, decide_eq_true_eq] at hsb
              simp [hsb]
            obtain ⟨M, hM⟩ : ∃ M, M = 2 ^ W - 1 := ⟨_, rfl⟩
            have hM64 : M < 64 := by have := pow6 hW2; omega
            haveI : Lt63 M := ⟨by omega⟩
            have hwM : IntKind.i64.wrap (((shlN 1 W : Nat) : Int) - 1) = (M : Int) := by
              rw [IntWalk.i64_in _ (by have := HS.out; omega)]
              have := HS.out; have := HN2.out; have := Nat.two_pow_pos W; omega
            have hus : orN q (butN M (rowN rows y)) = usedN W q (rowN rows y) := by rw [usedN, hM]
            have HUS := Lib.hid hus
            obtain ⟨kb0, kb1⟩ := H1.box2
            have hbo := H1.boxOld
            have HHO := Lib.hid hown1
            have HH1 := Lib.hid H1
            have HRG := Lib.hid hrg1
            have HRO1 := Lib.hid hrg
            have HC2 := Lib.hid hcm2
            have HSB1 := Lib.hid hsub1
            have HSB := Lib.hid hsb
            clear hsb hown1 H1 hrg1 hrg hcm2 hsub1 hown H hsub hat hg1 hs1 hM hus
            go_wp2_with fail
            refine wp_region_heldE (by kernel_rfl) ?_
            refine' takeE (i := 0) (v := _) rfl (by kernel_rfl) (by kernel_rfl) (by kernel_rfl) (fun _ _ _ h => h) (by kernel_rfl) (fun x => ?_) (by repeat (first | exact ext_refl _ | (with_reducible assumption) | refine ext_ext' ?_ _ | refine ext_alloc' ?_ _ | refine ext_drew' ?_)) ?_
            rotate_left
            · (go_simp; try rfl)
            try simp only [List.getElem_toArray]
            try simp only [List.getElem_cons_succ]
            try simp only [List.getElem_cons_zero]
            try simp only [Act.put]
            try simp only [List.setIfInBounds_toArray]
            try simp only [List.set_cons_succ]
            try simp only [List.set_cons_zero]
            refine' takeE (i := 1) (v := _) rfl (by kernel_rfl) (by kernel_rfl) (by kernel_rfl) (fun _ _ _ h => h) (by kernel_rfl) (fun x => ?_) (by repeat (first | exact ext_refl _ | (with_reducible assumption) | refine ext_ext' ?_ _ | refine ext_alloc' ?_ _ | refine ext_drew' ?_)) ?_
            rotate_left
            · (go_simp; try rfl)
            try simp only [List.getElem_toArray]
            try simp only [List.getElem_cons_succ]
            try simp only [List.getElem_cons_zero]
            try simp only [Act.put]
            try simp only [List.setIfInBounds_toArray]
            try simp only [List.set_cons_succ]
            try simp only [List.set_cons_zero]
            refine' takeE (i := 2) (v := _) rfl (by kernel_rfl) (by kernel_rfl) (by kernel_rfl) (fun _ _ _ h => h) (by kernel_rfl) (fun x => ?_) (by repeat (first | exact ext_refl _ | (with_reducible assumption) | refine ext_ext' ?_ _ | refine ext_alloc' ?_ _ | refine ext_drew' ?_)) ?_
            rotate_left
            · (go_simp; try rfl)
            try simp only [List.getElem_toArray]
            try simp only [List.getElem_cons_succ]
            try simp only [List.getElem_cons_zero]
            try simp only [Act.put]
            try simp only [List.setIfInBounds_toArray]
            try simp only [List.set_cons_succ]
            try simp only [List.set_cons_zero]
            refine' takeE (i := 3) (v := _) rfl (by kernel_rfl) (by kernel_rfl) (by kernel_rfl) (fun _ _ _ h => h) (by kernel_rfl) (fun x => ?_) (by repeat (first | exact ext_refl _ | (with_reducible assumption) | refine ext_ext' ?_ _ | refine ext_alloc' ?_ _ | refine ext_drew' ?_)) ?_
            rotate_left
            · (go_simp; try rfl)
            try simp only [List.getElem_toArray]
            try simp only [List.getElem_cons_succ]
            try simp only [List.getElem_cons_zero]
            try simp only [Act.put]
            try simp only [List.setIfInBounds_toArray]
            try simp only [List.set_cons_succ]
            try simp only [List.set_cons_zero]
            refine' takeE (i := 4) (v := _) rfl (by kernel_rfl) (by kernel_rfl) (by kernel_rfl) (fun _ _ _ h => h) (by kernel_rfl) (fun x => ?_) (by repeat (first | exact ext_refl _ | (with_reducible assumption) | refine ext_ext' ?_ _ | refine ext_alloc' ?_ _ | refine ext_drew' ?_)) ?_
            rotate_left
            · (go_simp; try rfl)
            try simp only [List.getElem_toArray]
            try simp only [List.getElem_cons_succ]
            try simp only [List.getElem_cons_zero]
            try simp only [Act.put]
            try simp only [List.setIfInBounds_toArray]
            try simp only [List.set_cons_succ]
            try simp only [List.set_cons_zero]
            refine' takeE (i := 5) (v := _) rfl (by kernel_rfl) (by kernel_rfl) (by kernel_rfl) (fun _ _ _ h => h) (by kernel_rfl) (fun x => ?_) (by repeat (first | exact ext_refl _ | (with_reducible assumption) | refine ext_ext' ?_ _ | refine ext_alloc' ?_ _ | refine ext_drew' ?_)) ?_
            rotate_left
            · (go_simp; try rfl)
            try simp only [List.getElem_toArray]
            try simp only [List.getElem_cons_succ]
            try simp only [List.getElem_cons_zero]
            try simp only [Act.put]
            try simp only [List.setIfInBounds_toArray]
            try simp only [List.set_cons_succ]
            try simp only [List.set_cons_zero]
            refine' takeE (i := 6) (v := _) rfl (by kernel_rfl) (by kernel_rfl) (by kernel_rfl) (fun _ _ _ h => h) (by kernel_rfl) (fun x => ?_) (by repeat (first | exact ext_refl _ | (with_reducible assumption) | refine ext_ext' ?_ _ | refine ext_alloc' ?_ _ | refine ext_drew' ?_)) ?_
            rotate_left
            · (go_simp; try rfl)
            try simp only [List.getElem_toArray]
            try simp only [List.getElem_cons_succ]
            try simp only [List.getElem_cons_zero]
            try simp only [Act.put]
            try simp only [List.setIfInBounds_toArray]
            try simp only [List.set_cons_succ]
            try simp only [List.set_cons_zero]
            refine' takeE (i := 7) (v := _) rfl (by kernel_rfl) (by kernel_rfl) (by kernel_rfl) (fun _ _ _ h => h) (by kernel_rfl) (fun x => ?_) (by repeat (first | exact ext_refl _ | (with_reducible assumption) | refine ext_ext' ?_ _ | refine ext_alloc' ?_ _ | refine ext_drew' ?_)) ?_
            rotate_left
            · (go_simp; try rfl)
            try simp only [List.getElem_toArray]
            try simp only [List.getElem_cons_succ]
            try simp only [List.getElem_cons_zero]
            try simp only [Act.put]
            try simp only [List.setIfInBounds_toArray]
            try simp only [List.set_cons_succ]
            try simp only [List.set_cons_zero]
            refine' takeE (i := 8) (v := _) rfl (by kernel_rfl) (by kernel_rfl) (by kernel_rfl) (fun _ _ _ h => h) (by kernel_rfl) (fun x => ?_) (by repeat (first | exact ext_refl _ | (with_reducible assumption) | refine ext_ext' ?_ _ | refine ext_alloc' ?_ _ | refine ext_drew' ?_)) ?_
            rotate_left
            · (go_simp; try rfl)
            try simp only [List.getElem_toArray]
            try simp only [List.getElem_cons_succ]
            try simp only [List.getElem_cons_zero]
            try simp only [Act.put]
            try simp only [List.setIfInBounds_toArray]
            try simp only [List.set_cons_succ]
            try simp only [List.set_cons_zero]
            refine' takeE (i := 9) (v := _) rfl (by kernel_rfl) (by kernel_rfl) (by kernel_rfl) (fun _ _ _ h => h) (by kernel_rfl) (fun x => ?_) (by repeat (first | exact ext_refl _ | (with_reducible assumption) | refine ext_ext' ?_ _ | refine ext_alloc' ?_ _ | refine ext_drew' ?_)) ?_
            rotate_left
            · (go_simp; try rfl)
            try simp only [List.getElem_toArray]
            try simp only [List.getElem_cons_succ]
            try simp only [List.getElem_cons_zero]
            try simp only [Act.put]
            try simp only [List.setIfInBounds_toArray]
            try simp only [List.set_cons_succ]
            try simp only [List.set_cons_zero]
            refine' takeE (i := 12) (v := _) rfl (by kernel_rfl) (by kernel_rfl) (by kernel_rfl) (fun _ _ _ h => h) (by kernel_rfl) (fun x => ?_) (by repeat (first | exact ext_refl _ | (with_reducible assumption) | refine ext_ext' ?_ _ | refine ext_alloc' ?_ _ | refine ext_drew' ?_)) ?_
            rotate_left
            · (go_simp; try rfl)
            try simp only [List.getElem_toArray]
            try simp only [List.getElem_cons_succ]
            try simp only [List.getElem_cons_zero]
            try simp only [Act.put]
            try simp only [List.setIfInBounds_toArray]
            try simp only [List.set_cons_succ]
            try simp only [List.set_cons_zero]
            refine nextE (i := 10) rfl (by kernel_rfl) (by kernel_rfl) (fun K' hK' => ?_)
            go_wp2_with ((first | (go_at_call 56; go_loud (refine (dominoWays_row W (orN q (butN M (rowN rows y))) N hW2 HN2.out _).mono ?_; rintro e w' ⟨gw, rfl, H2⟩; have hxw := ext_trans (ext_ext' (ext_refl w1) _) (ext_of H2.bel)))))
            refine hK'.out _ _ (by repeat (first | exact ext_refl _ | (with_reducible assumption) | refine ext_ext' ?_ _ | refine ext_alloc' ?_ _ | refine ext_drew' ?_)) ?_
            clear hK' K'
            refine' takeE (i := 11) (v := _) rfl (by kernel_rfl) (by kernel_rfl) (by kernel_rfl) (fun _ _ _ h => h) (by kernel_rfl) (fun x => ?_) (by repeat (first | exact ext_refl _ | (with_reducible assumption) | refine ext_ext' ?_ _ | refine ext_alloc' ?_ _ | refine ext_drew' ?_)) ?_
            rotate_left
            · (go_simp; try rfl)
            try simp only [List.getElem_toArray]
            try simp only [List.getElem_cons_succ]
            try simp only [List.getElem_cons_zero]
            try simp only [Act.put]
            try simp only [List.setIfInBounds_toArray]
            try simp only [List.set_cons_succ]
            try simp only [List.set_cons_zero]
            refine wpAnyH_done (by kernel_rfl) ?_ _
            have hgp := ((H2.own _ List.mem_cons_self).lt gw rfl).1
            have hgw := grown_ext hxw
            have hB2l := HHO.out.lt
            have hne2 : gw ≠ B2 := by rw [size_ext] at hgp; omega
            have HJ := Lib.hid (HH1.out.join (L' := [rowT gw N (dW W (orN q (butN M (rowN rows y))))]) (by
              refine ⟨bel_of_ext hxw, fun r hr => ?_, by simp⟩
              have := H2.own r hr
              exact own_base this (by rw [size_ext]; omega)))
            have HRG2 := Lib.hid (HRG.out.kept hgw (by simp) (by simp))
            have HHO2 := Lib.hid (World.ownsMap.kept HHO.out hgw (by simp))
            have HIN := Lib.hid (in_start HGO.out q (orN q (butN M (rowN rows y))))
            clear HH1 HRG HHO hgw hgp hB2l H2 hxw kb0 kb1 hbo hwM
            go_wp2_with fail
            go_loopw [47] (fun i wr3 => ∃ (bq n3 : Nat) (D3 : DataW Unit) (g3 : Nat → Int), i = .int .i64 bq ∧ bq ≤ N ∧ wr3.ranges Try.prog 3 (plainElem Try.prog 3) B1 r n1 D1 (fun z => left z && !z.sameKey (ky q)) cnt1 ∧ OwnsC wr3 B2 n3 D3 ∧ CMap (2 ^ W) D3 g3 ∧ n3 + (N - bq) + 64 * cnt1 ≤ 64 * n1 ∧ Hid (InOK W rows f g3 left y q (orN q (butN M (rowN rows y))) bq) ∧ Held (w.alloc (.cells #[.int .i64 W, .slice a rows.length cap] 28)) wr3 [rowT gw N (dW W (orN q (butN M (rowN rows y))))]) (fun i _ => N - (intOf i).toNat)
            case atStart => exact ⟨0, n2, D2, g, rfl, Nat.zero_le _, HRG2.out, HHO2.out, HC2.out, by omega, HIN, HJ.out⟩
            case round =>
              clear HJ HRG2 HHO2 HIN HC2 HGO
              obtain ⟨bq, n3, D3, g3, rfl, hbq, hrg, hown, hcm3, hcnt3, HIN, H⟩ := hrel
              by_cases hlt3 : bq < N
              · have hbq2 : bq < 2 ^ W := by rw [← HN2.out]; exact hlt3
                obtain ⟨q1, q2⟩ := H.cellRow hlt3
                have hnn := dW_nonneg (used := orN q (butN M (rowN rows y))) hW2 hbq2
                have HH3 := Lib.hid H
                have HRG3 := Lib.hid hrg
                have HO3 := Lib.hid hown
                have HC3 := Lib.hid hcm3
                have HZ := Lib.hid (fun h => in_skip HIN.out h)
                have HST := Lib.hid (in_step HIN.out hbq2)
                clear H hrg hown hcm3 q2
                generalize hd : dW W (orN q (butN M (rowN rows y))) bq = d at q1 hnn HZ HST
                clear hd
                by_cases hd0 : d = 0
                · have hdp : decide (0 < d) = false := decide_eq_false (by omega)
                  have HIN2 := Lib.hid (HZ.out hd0)
                  clear hd0 HZ HST
                  go_wp2_with fail
                  go_roundw
                  case rel => exact ⟨bq + 1, n3, D3, g3, int_succ bq, hlt3, HRG3.out, HO3.out, HC3.out, by omega, HIN2, HH3.out⟩
                  case measure => simp [intOf]; omega
                · have hdp : decide (0 < d) = true := decide_eq_true (by omega)
                  have hb63 : bq < 9223372036854775808 := by omega
                  clear hd0 HZ
                  go_wp2_with (first | (refine wpList_lookup_own_int _ rfl _ _ 76 rfl 3 3 .i64 keyI Try.underlying76 Try.underlying3 (zeroI _) B2 n3 _ rfl HO3.out (.int .i64 bq) (ky bq) rfl (ky_of hb63) ?_; intro cc hat hwcc; obtain rfl := HC3.out.look hbq2 hat) | (at_mapUpdate; go_loud (refine wpList_mapUpdate_own _ rfl _ _ _ 76 rfl 3 3 keyI Try.underlying76 _ B2 n3 _ rfl HO3.out (by unfold maxLen; omega) (.int .i64 bq) _ (ky bq) rfl rfl (ky_of hb63) _ [] (el_of _) ?_; intro w3 hown3 hgrow3)))
                  go_roundw
                  case rel => exact ⟨bq + 1, n3 + 1, _, _, int_succ bq, hlt3, HRG3.out.kept hgrow3 (by simp; omega) (by simp; omega), hown3, HC3.out.put hbq2 _, by omega, HST, HH3.out.beside hgrow3 hBb (fun r hr => by simp at hr; subst hr; simpa [Value.ownBlock] using hne2)⟩
                  case measure => simp [intOf]; omega
              · have hbe : bq = N := by omega
                have HG := Lib.hid (in_end hlt (by have := HIN.out; rw [HUS.out, hbe, HN2.out] at this; exact this) hq hlx HSB.out)
                have HRG3 := Lib.hid hrg
                have HO3 := Lib.hid hown
                have HC3 := Lib.hid hcm3
                have HH3 := Lib.hid H.drop
                clear H hrg hown hcm3 hbe HIN
                go_wp2_with fail
                go_roundw
                case rel => exact ⟨_, cnt1, n3, D3, g3, HRG3.out, HSB1.out, HO3.out, HC3.out, by omega, HG, HH3.out⟩
                case measure => rw [HRG3.out.left_eq, HRO1.out.left_eq]; exact hlt1
    · have hye : y = rows.length := by omega
      have HRE := Lib.hid (row_end (show RowOK W rows f rows.length by rw [← hye]; exact HRO.out))
      have HX := Lib.hid (ext_of H.unbox.bel)
      have HO3 := Lib.hid hown
      have HC3 := Lib.hid hcm
      clear H hown hcm hye
      go_wp2_with (first | (refine wpList_lookup_own_int _ rfl _ _ 76 rfl 3 3 .i64 keyI Try.underlying76 Try.underlying3 (zeroI _) B1 n1 _ rfl HO3.out (.int .i64 0) (ky 0) rfl ky_zero ?_; intro cc hat hwcc; obtain rfl := HC3.out.look (Nat.two_pow_pos W) hat))
      go_ret
      have hw0 : wrap64 (f 0) = f 0 := by
        have : -9223372036854775808 ≤ f 0 ∧ f 0 ≤ 9223372036854775807 := by simpa [Lit.wf, IntKind.min, IntKind.max, IntKind.signed, IntKind.bits] using hwcc
        exact wrap_in (by omega) (by omega)
      exact ⟨ret_int (by rw [HF.out, ← HRE.out.eq, hw0]), HX.out⟩
end
end Go.Proofs.Ytchcepihmphdmaa
