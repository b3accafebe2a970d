/- Part 4 of a proof: bitops, addor, domino, ways, fillspec, transfer, striprec, strip, striptab, seqs, relaw, seqspec. -/
import Derived.Test.YtchcepihmphdmaaDoorRows
import Derived.WalkKit
import Derived.ProofKit
import Derived.OpenShut
import Derived.BigQuiet
import Derived.Lib.Hide
import Derived.Deep.QuietTactic
import Derived.Outline
import Derived.Laws.EntriesVeiled
import Derived.StillTailTactics
import Derived.Test.YtchcepihmphdmaaDoorMg1
import Derived.Test.YtchcepihmphdmaaDoorMg2
import Derived.Test.YtchcepihmphdmaaDoorMg3
namespace Go.Proofs.YtchcepihmphdmaaDoor
set_option linter.unusedVariables false
section
open Go.ChangeShapes Go.WideShapes Go.ChangeAt Go.RowKit
def shlN (a k : Nat) : Nat := a * 2 ^ k
def shrN (a k : Nat) : Nat := a / 2 ^ k
def orN (a b : Nat) : Nat := a ||| b
def andN (a b : Nat) : Nat := a &&& b
def butN (a b : Nat) : Nat := a ^^^ (a &&& b)
theorem wrap_nat (a : Nat) (h : a < 9223372036854775808) : IntKind.i64.wrap (a : Int) = a := IntWalk.i64_in _ (by omega)
theorem op_shl (a k : Nat) (yk : IntKind) (hk : k ≤ 64) (h : shlN a k < 9223372036854775808) : Op.shift .shl .i64 (a : Int) yk (k : Int) = pure (.int .i64 (shlN a k : Nat)) := by
  have e : ((a : Int) * 2 ^ (k : Int).toNat) = ((shlN a k : Nat) : Int) := by simp [shlN]
  have h1 : ¬ ((k : Int) < 0) := by omega
  have h2 : min (k : Int).toNat IntKind.i64.bits = (k : Int).toNat := by simp [IntKind.bits]; omega
  unfold Op.shift
  rw [if_neg h1, h2]
  show pure (Value.int IntKind.i64 (IntKind.i64.wrap ((a : Int) * 2 ^ (k : Int).toNat))) = _
  rw [e, wrap_nat _ h]
theorem op_shr (a k : Nat) (yk : IntKind) (hk : k ≤ 64) : Op.shift .shr .i64 (a : Int) yk (k : Int) = pure (.int .i64 (shrN a k : Nat)) := by
  have h1 : ¬ ((k : Int) < 0) := by omega
  have h2 : min (k : Int).toNat IntKind.i64.bits = k := by simp [IntKind.bits]; omega
  unfold Op.shift
  rw [if_neg h1, h2]
  show pure (Value.int IntKind.i64 ((a : Int).fdiv (2 ^ k))) = _
  have e : (a : Int).fdiv (2 ^ k) = ((shrN a k : Nat) : Int) := by
    rw [Int.fdiv_eq_ediv_of_nonneg _ (by exact_mod_cast Nat.zero_le _)]
    simp [shrN]
  rw [e]
theorem ofNat_bits (a : Nat) (h : a < 9223372036854775808) : (BitVec.ofInt IntKind.i64.bits (a : Int)).toNat = a := by
  show (BitVec.ofInt 64 (a : Int)).toNat = a
  rw [BitVec.ofInt_natCast, BitVec.toNat_ofNat, Nat.mod_eq_of_lt (by omega)]
theorem and_lt (a b : Nat) (h : a < 9223372036854775808) : andN a b < 9223372036854775808 := Nat.lt_of_le_of_lt Nat.and_le_left h
theorem or_lt (a b : Nat) (h : a < 9223372036854775808) (h' : b < 9223372036854775808) : orN a b < 9223372036854775808 := Nat.or_lt_two_pow (n := 63) h h'
theorem but_lt (a b : Nat) (h : a < 9223372036854775808) : butN a b < 9223372036854775808 := Nat.xor_lt_two_pow (n := 63) h (and_lt a b h)
theorem op_or (a b : Nat) (h : a < 9223372036854775808) (h' : b < 9223372036854775808) : Op.intBits .or .i64 (a : Int) (b : Int) = pure (.int .i64 (orN a b : Nat)) := by
  unfold Op.intBits
  simp only [BitVec.toNat_or, ofNat_bits a h, ofNat_bits b h']
  show pure (Value.int IntKind.i64 (IntKind.i64.wrap ((orN a b : Nat) : Int))) = _
  rw [wrap_nat _ (or_lt a b h h')]
theorem op_and (a b : Nat) (h : a < 9223372036854775808) (h' : b < 9223372036854775808) : Op.intBits .and .i64 (a : Int) (b : Int) = pure (.int .i64 (andN a b : Nat)) := by
  unfold Op.intBits
  simp only [BitVec.toNat_and, ofNat_bits a h, ofNat_bits b h']
  show pure (Value.int IntKind.i64 (IntKind.i64.wrap ((andN a b : Nat) : Int))) = _
  rw [wrap_nat _ (and_lt a b h)]
theorem but_bits (a b : Nat) (h : a < 9223372036854775808) (h' : b < 9223372036854775808) : (BitVec.ofInt IntKind.i64.bits (a : Int) &&& ~~~ BitVec.ofInt IntKind.i64.bits (b : Int)).toNat = butN a b := by
  apply Nat.eq_of_testBit_eq
  intro i
  show (BitVec.ofInt 64 (a : Int) &&& ~~~ BitVec.ofInt 64 (b : Int)).getLsbD i = _
  have ha : (BitVec.ofInt 64 (a : Int)).getLsbD i = a.testBit i := congrArg (fun n => Nat.testBit n i) (ofNat_bits a h)
  have hb : (BitVec.ofInt 64 (b : Int)).getLsbD i = b.testBit i := congrArg (fun n => Nat.testBit n i) (ofNat_bits b h')
  rw [BitVec.getLsbD_and, BitVec.getLsbD_not, ha, hb, butN, Nat.testBit_xor, Nat.testBit_and]
  by_cases hi : i < 64
  · cases a.testBit i <;> cases b.testBit i <;> simp [hi]
  · have : a.testBit i = false := Nat.testBit_lt_two_pow (Nat.lt_of_lt_of_le h (by exact Nat.pow_le_pow_right (n := 2) (by omega) (show 63 ≤ i by omega)))
    simp [this]
theorem op_but (a b : Nat) (h : a < 9223372036854775808) (h' : b < 9223372036854775808) : Op.intBits .andNot .i64 (a : Int) (b : Int) = pure (.int .i64 (butN a b : Nat)) := by
  unfold Op.intBits
  simp only [but_bits a b h h', wrap_nat _ (but_lt a b h)]
theorem bit_of (m k : Nat) : andN (shrN m k) 1 = if m.testBit k then 1 else 0 := by
  rw [andN, shrN, Nat.and_one_is_mod, ← Nat.shiftRight_eq_div_pow, Nat.testBit_eq_decide_div_mod_eq, Nat.shiftRight_eq_div_pow]
  have := Nat.mod_two_eq_zero_or_one (m / 2 ^ k)
  rcases this with e | e <;> simp [e]
theorem bit_test (m k : Nat) : (((andN (shrN m k) 1 : Nat) : Int) == 1) = m.testBit k := by
  rw [bit_of]
  cases m.testBit k <;> rfl
theorem bit_test0 (m k : Nat) : (((andN (shrN m k) 1 : Nat) : Int) == 0) = !m.testBit k := by
  rw [bit_of]
  cases m.testBit k <;> rfl
theorem shr_zero (m k : Nat) : (((shrN m k : Nat) : Int) != 0) = !decide (m < 2 ^ k) := by
  have : shrN m k = 0 ↔ m < 2 ^ k := Nat.div_eq_zero_iff_lt (Nat.two_pow_pos k)
  by_cases h : m < 2 ^ k
  · have h2 := this.2 h
    simp [h2, h]
  · have h2 : ¬ shrN m k = 0 := fun e => h (this.1 e)
    simp [h2, h]
/-! the walk's own rules, ahead of the kit's -/
class Lt63 (a : Nat) : Prop where
  lt : a < 9223372036854775808
class ShlOK (a k : Nat) : Prop where
  le : k ≤ 64
  lt : shlN a k < 9223372036854775808
class Le64 (k : Nat) : Prop where
  le : k ≤ 64
class Le6 (k : Nat) : Prop where
  le : k ≤ 6
instance lt63_one : Lt63 1 := ⟨by omega⟩
instance lt63_zero : Lt63 0 := ⟨by omega⟩
instance lt63_and (a b : Nat) [h : Lt63 a] : Lt63 (andN a b) := ⟨and_lt a b h.lt⟩
instance lt63_but (a b : Nat) [h : Lt63 a] : Lt63 (butN a b) := ⟨but_lt a b h.lt⟩
instance lt63_or (a b : Nat) [h : Lt63 a] [h' : Lt63 b] : Lt63 (orN a b) := ⟨or_lt a b h.lt h'.lt⟩
instance lt63_shr (a k : Nat) [h : Lt63 a] : Lt63 (shrN a k) := ⟨Nat.lt_of_le_of_lt (Nat.div_le_self _ _) h.lt⟩
instance lt63_shl (a k : Nat) [h : ShlOK a k] : Lt63 (shlN a k) := ⟨h.lt⟩
@[go_sem ↓ 20000] theorem w_shl (a k : Nat) (yk : IntKind) [h : ShlOK a k] : Op.shift .shl .i64 (a : Int) yk (k : Int) = pure (.int .i64 (shlN a k : Nat)) := op_shl a k yk h.le h.lt
@[go_sem ↓ 20000] theorem w_shl1 (k : Nat) (yk : IntKind) [h : ShlOK 1 k] : Op.shift .shl .i64 (1 : Int) yk (k : Int) = pure (.int .i64 (shlN 1 k : Nat)) := op_shl 1 k yk h.le h.lt
@[go_sem ↓ 20000] theorem w_shr (a k : Nat) (yk : IntKind) [h : Le64 k] : Op.shift .shr .i64 (a : Int) yk (k : Int) = pure (.int .i64 (shrN a k : Nat)) := op_shr a k yk h.le
@[go_sem 20000] theorem w_or (a b : Nat) [h : Lt63 a] [h' : Lt63 b] : Op.intBits .or .i64 (a : Int) (b : Int) = pure (.int .i64 (orN a b : Nat)) := op_or a b h.lt h'.lt
@[go_sem 20000] theorem w_and (a b : Nat) [h : Lt63 a] [h' : Lt63 b] : Op.intBits .and .i64 (a : Int) (b : Int) = pure (.int .i64 (andN a b : Nat)) := op_and a b h.lt h'.lt
@[go_sem 20000] theorem w_and1 (a : Nat) [h : Lt63 a] : Op.intBits .and .i64 (a : Int) (1 : Int) = pure (.int .i64 (andN a 1 : Nat)) := op_and a 1 h.lt (by omega)
@[go_sem 20000] theorem w_but (a b : Nat) [h : Lt63 a] [h' : Lt63 b] : Op.intBits .andNot .i64 (a : Int) (b : Int) = pure (.int .i64 (butN a b : Nat)) := op_but a b h.lt h'.lt
@[go_sem 20000] theorem w_bit (m k : Nat) : (((andN (shrN m k) 1 : Nat) : Int) == 1) = m.testBit k := bit_test m k
@[go_sem 20000] theorem w_bit0 (m k : Nat) : (((andN (shrN m k) 1 : Nat) : Int) == 0) = !m.testBit k := bit_test0 m k
instance shlOK_one6 (W : Nat) [h : Le6 W] : ShlOK 1 W := ⟨by have := h.le; omega, by
  have : shlN 1 W ≤ 2 ^ 6 := by rw [shlN, Nat.one_mul]; exact Nat.pow_le_pow_right (by omega) h.le
  omega⟩
def mulN (a b : Nat) : Nat := a * b
def addN (a b : Nat) : Nat := a + b
class MulOK (a b : Nat) : Prop where
  lt : a * b < 9223372036854775808
class AddOK (a b : Nat) : Prop where
  lt : a + b < 9223372036854775808
@[go_sem ↓ 20000] theorem w_mul (a b : Nat) [h : MulOK a b] : Op.intArith .mul .i64 (a : Int) (b : Int) = pure (.int .i64 (mulN a b : Nat)) := by
  show pure (Value.int IntKind.i64 (IntKind.i64.wrap ((a : Int) * (b : Int)))) = _
  rw [← Int.natCast_mul, wrap_nat _ h.lt]; rfl
@[go_sem ↓ 20000] theorem w_add (a b : Nat) [h : AddOK a b] : Op.intArith .add .i64 (a : Int) (b : Int) = pure (.int .i64 (addN a b : Nat)) := by
  show pure (Value.int IntKind.i64 (IntKind.i64.wrap ((a : Int) + (b : Int)))) = _
  rw [← Int.natCast_add, wrap_nat _ h.lt]; rfl
instance mulOK6 (a b : Nat) [h : Le6 a] [h' : Le6 b] : MulOK a b := ⟨Nat.lt_of_le_of_lt (Nat.mul_le_mul h.le h'.le) (by omega)⟩
end
section
open Go.ChangeShapes Go.WideShapes Go.ChangeAt Go.RowKit
theorem add_or {n k : Nat} (h : n.testBit k = false) : n + 2 ^ k = n ||| 2 ^ k := by
  have hr : n % 2 ^ (k + 1) < 2 ^ k := by
    rw [Nat.testBit_eq_decide_div_mod_eq, decide_eq_false_iff_not] at h
    have h1 : n / 2 ^ k % 2 = 0 := by omega
    rw [Nat.pow_succ, Nat.mod_mul, h1]
    have := Nat.mod_lt n (Nat.two_pow_pos k)
    omega
  have e0 := Nat.div_add_mod n (2 ^ (k + 1))
  have h1 := Nat.two_pow_add_eq_or_of_lt (i := k) hr 1
  have h2 := Nat.two_pow_add_eq_or_of_lt (i := k + 1) (Nat.mod_lt n (Nat.two_pow_pos _)) (n / 2 ^ (k + 1))
  have hlt : 2 ^ k * 1 + n % 2 ^ (k + 1) < 2 ^ (k + 1) := by rw [Nat.pow_succ]; rw [Nat.pow_succ] at hr; omega
  have h3 := Nat.two_pow_add_eq_or_of_lt (i := k + 1) hlt (n / 2 ^ (k + 1))
  rw [Nat.mul_one] at h1 h3
  generalize 2 ^ (k + 1) * (n / 2 ^ (k + 1)) = q at e0 h2 h3
  generalize n % 2 ^ (k + 1) = r at e0 h1 h2 h3
  have e1 : n + 2 ^ k = q + (2 ^ k + r) := by omega
  rw [e1, h3, h1, Nat.or_comm (2 ^ k), ← Nat.or_assoc, ← h2, e0]
theorem addN_or {n k : Nat} (h : n.testBit k = false) : addN n (shlN 1 k) = orN n (shlN 1 k) := by
  unfold addN orN shlN; rw [Nat.one_mul]; exact add_or h
theorem or_bit_lt {down x : Nat} (h : down < 2 ^ (x + 1)) : orN down (shlN 1 x) < 2 ^ (x + 1) := by
  unfold orN shlN
  exact Nat.or_lt_two_pow h (by rw [Nat.one_mul]; exact Nat.pow_lt_pow_right (by omega) (by omega))
end
section
open Go.ChangeShapes Go.WideShapes Go.ChangeAt Go.RowKit
def bump (f : Nat → Int) (d : Nat) : Nat → Int := upd f d (wrap64 (f d + 1))
/-- the counts after the places from w - r on have been filled -/
def dmF (w used : Nat) : Nat → Nat → (Nat → Int) → Nat → Int
  | 0, down, f => bump f down
  | 1, down, f => if used.testBit (w - 1) then bump f down else bump f (orN down (shlN 1 (w - 1)))
  | r + 2, down, f =>
    if used.testBit (w - (r + 2)) then dmF w used (r + 1) down f
    else if used.testBit (w - (r + 2) + 1) then dmF w used (r + 1) (orN down (shlN 1 (w - (r + 2)))) f
    else dmF w used r down (dmF w used (r + 1) (orN down (shlN 1 (w - (r + 2)))) f)
def waysTo (w used : Nat) : List Int := tab (2 ^ w) (dmF w used w 0 fun _ => 0)
def fillV (A B C : Nat) : Value := .func (Fn.func 81) #[] #[.pointer (some ⟨A, 0, none⟩), .pointer (some ⟨B, 0, none⟩), .pointer (some ⟨C, 0, none⟩)]
def fillT : TypeId := 94
def FillSt (W0 w : World) (A B C g wd : Nat) (f : Nat → Int) : Prop :=
  Held W0 w [rowI (.slice (some ⟨g, 0, none⟩) (2 ^ wd) (2 ^ wd)) (tab (2 ^ wd) f), boxR A 3 (.int .i64 wd), boxR B 22 (.slice (some ⟨g, 0, none⟩) (2 ^ wd) (2 ^ wd)), boxR C fillT (fillV A B C)]
theorem FillSt.kA {W0 w : World} {A B C g wd : Nat} {f : Nat → Int} (H : FillSt W0 w A B C g wd f) : w.cell? ⟨A, 0, none⟩ = some (.int .i64 wd) := (Held.box H (List.mem_cons_of_mem _ List.mem_cons_self)).1
theorem FillSt.kB {W0 w : World} {A B C g wd : Nat} {f : Nat → Int} (H : FillSt W0 w A B C g wd f) : w.cell? ⟨B, 0, none⟩ = some (.slice (some ⟨g, 0, none⟩) (2 ^ wd) (2 ^ wd)) := (Held.box H (List.mem_cons_of_mem _ (List.mem_cons_of_mem _ List.mem_cons_self))).1
theorem FillSt.kC {W0 w : World} {A B C g wd : Nat} {f : Nat → Int} (H : FillSt W0 w A B C g wd f) : w.cell? ⟨C, 0, none⟩ = some (fillV A B C) := (Held.box H (List.mem_cons_of_mem _ (List.mem_cons_of_mem _ (List.mem_cons_of_mem _ List.mem_cons_self)))).1
set_option maxHeartbeats 1000000 in
theorem dmfill_zero (W0 : World) (A B C g wd used down : Nat) (f : Nat → Int) (w : World) (hd : down < 2 ^ wd) (hw : wd ≤ 6) (H : FillSt W0 w A B C g wd f) :
    Calls Tryd.prog 81 #[.int .i64 wd, .int .i64 used, .int .i64 down, .pointer (some ⟨A, 0, none⟩), .pointer (some ⟨B, 0, none⟩), .pointer (some ⟨C, 0, none⟩)] w fun e w' => e = .returned (.tuple #[]) ∧ FillSt W0 w' A B C g wd (bump f down) := by
  have kA := H.kA
  have kB := H.kB
  obtain ⟨k1, k2⟩ := Held.cellRow H hd
  have HS := Lib.hid (Held.storeRow H down (wrap64 (f down + 1)))
  have hlen : 2 ^ wd ≤ 64 := Nat.pow_le_pow_right (n := 2) (by omega) (show wd ≤ 6 from hw)
  have HH := Lib.hid H
  clear H
  obtain ⟨n, hn⟩ : ∃ n, n = 2 ^ wd := ⟨_, rfl⟩
  rw [← hn] at kB hd hlen
  have HN := Lib.hid hn
  clear hn
  go_enter Tryd.func81, Tryd.ntmps81
  go_wp2_with fail
  go_end0
  exact ⟨rfl, HS.out⟩
theorem dmF_bit {w used r down : Nat} {f : Nat → Int} (h : used.testBit (w - (r + 1)) = true) : dmF w used (r + 1) down f = dmF w used r down f := by
  cases r with
  | zero => simp [dmF, h]
  | succ r => rw [dmF, if_pos h]
theorem HeldTo {W0 w w' : World} {A B C g wd : Nat} {f : Nat → Int} (H : FillSt W0 w A B C g wd f) (h : ∃ x, w' = ext w x) : FillSt W0 w' A B C g wd f := Held.to H h
theorem FillSt.drew {W0 w : World} {A B C g wd : Nat} {f : Nat → Int} (H : FillSt W0 w A B C g wd f) (x : Ext) : FillSt W0 (ext w x) A B C g wd f := Held.ext H x
theorem fillSt_next {x : Nat} {u d p q r : Value} {w : World} {Q : Ending → World → Prop} (h : Calls Tryd.prog 81 #[.int .i64 ((x + 1 : Nat) : Int), u, d, p, q, r] w Q) : Calls Tryd.prog 81 #[.int .i64 ((x : Int) + 1), u, d, p, q, r] w Q := h
theorem fillSt_next2 {x : Nat} {u d p q r : Value} {w : World} {Q : Ending → World → Prop} (h : Calls Tryd.prog 81 #[.int .i64 ((x + 2 : Nat) : Int), u, d, p, q, r] w Q) : Calls Tryd.prog 81 #[.int .i64 ((x : Int) + 2), u, d, p, q, r] w Q := h
@[go_sem ↓ 20000] theorem w_shr1 (a k : Nat) (yk : IntKind) [h : Le64 (k + 1)] : Op.shift .shr .i64 (a : Int) yk ((k : Int) + 1) = pure (.int .i64 (shrN a (k + 1) : Nat)) := op_shr a (k + 1) yk h.le
set_option maxRecDepth 100000 in
set_option maxHeartbeats 2000000 in
theorem dmfill_any (W0 : World) (A B C g wd used : Nat) [Lt63 used] (hw : wd ≤ 6) : ∀ (r x down : Nat) (f : Nat → Int) (w : World), x + r = wd → down < 2 ^ x → FillSt W0 w A B C g wd f →
    Calls Tryd.prog 81 #[.int .i64 x, .int .i64 used, .int .i64 down, .pointer (some ⟨A, 0, none⟩), .pointer (some ⟨B, 0, none⟩), .pointer (some ⟨C, 0, none⟩)] w fun e w' => e = .returned (.tuple #[]) ∧ FillSt W0 w' A B C g wd (dmF wd used r down f) := by
  intro r
  induction r using Nat.strongRecOn with
  | ind r ih =>
    intro x down f w hx hd H
    cases r with
    | zero =>
      obtain rfl : x = wd := by omega
      exact dmfill_zero W0 A B C g x used down f w hd hw H
    | succ r =>
      have hlt : x < wd := by omega
      have hx6 : x ≤ 6 := by omega
      have hbt := bit_test used x
      haveI : Le64 x := ⟨by omega⟩
      haveI : Le6 x := ⟨by omega⟩
      have kA := H.kA
      have kC := H.kC
      unfold fillV at kC
      have HX := Lib.hid (show x = wd - (r + 1) by omega)
      have hd2 : down < 2 ^ (x + 1) := Nat.lt_of_lt_of_le hd (Nat.pow_le_pow_right (by omega) (by omega))
      haveI : Lt63 down := ⟨by have : 2 ^ x ≤ 2 ^ 6 := Nat.pow_le_pow_right (by omega) hx6; omega⟩
      have IH := Lib.hid fun d f hd w H => fillSt_next (ih r (by omega) (x + 1) d f w (by omega) hd H)
      have IH2 := Lib.hid fun (s : Nat) (hs : r = s + 1) d f hd w H => fillSt_next2 (ih s (by omega) (x + 2) d f w (by omega) hd H)
      cases hb : used.testBit x
      · rw [hb] at hbt
        have hle : decide (wd ≤ x) = false := decide_eq_false (by omega)
        haveI : ShlOK 1 x := inferInstance
        have hor := or_bit_lt hd2
        have HB := Lib.hid hb
        clear hb
        cases r with
        | zero =>
          have hx1 : decide ((x : Int) + 1 < wd) = false := decide_eq_false (by omega)
          have ex : wd - 1 = x := by have := HX.out; omega
          have HF := Lib.hid (show dmF wd used (0 + 1) down f = dmF wd used 0 (orN down (shlN 1 x)) f by simp [dmF, ex, HB.out])
          clear ex
          have HH := Lib.hid H
          clear H hx
          go_enter Tryd.func81, Tryd.ntmps81
          go_wp2_with fail
          go_still_tail 8, (by kernel_rfl)
          change wpList _ _ _ _ _ w.drew
          have H := HeldTo HH.out (show ∃ x, w.drew = ext w x from (by repeat (first | exact ext_refl _ | (with_reducible assumption) | refine ext_ext' ?_ _ | refine ext_alloc' ?_ _ | refine ext_drew' ?_)))
          clear kA kC
          generalize w.drew = w2 at H ⊢
          go_wp2_with (first | (go_at_call 81; go_loud (refine (IH.out (orN down (shlN 1 x)) f hor _ H).mono ?_; rintro e w' ⟨rfl, H2⟩; have kA := H2.kA)))
          go_end0
          exact ⟨rfl, by rw [HF.out]; assumption⟩
        | succ r =>
          have hx1 : decide ((x : Int) + 1 < wd) = true := decide_eq_true (by omega)
          haveI : Le64 (x + 1) := ⟨by omega⟩
          have hd3 : down < 2 ^ (x + 2) := Nat.lt_of_lt_of_le hd (Nat.pow_le_pow_right (by omega) (by omega))
          have hbt2 := bit_test0 used (x + 1)
          have ex : wd - (r + 2) = x := by have := HX.out; omega
          cases hb2 : used.testBit (x + 1)
          · rw [hb2] at hbt2
            have HF := Lib.hid (show dmF wd used (r + 1 + 1) down f = dmF wd used r down (dmF wd used (r + 1) (orN down (shlN 1 x)) f) by rw [dmF, ex, if_neg (by simp [HB.out]), if_neg (by simp [hb2])])
            clear ex
            have HH := Lib.hid H
            have HB2 := Lib.hid hb2
            clear H hx hb2
            go_enter Tryd.func81, Tryd.ntmps81
            go_wp2_with fail
            go_still_tail 8, (by kernel_rfl)
            change wpList _ _ _ _ _ w.drew
            have H := HeldTo HH.out (show ∃ x, w.drew = ext w x from (by repeat (first | exact ext_refl _ | (with_reducible assumption) | refine ext_ext' ?_ _ | refine ext_alloc' ?_ _ | refine ext_drew' ?_)))
            clear kA kC
            generalize w.drew = w2 at H ⊢
            go_wp2_with (first | (go_at_call 81; refine (IH.out (orN down (shlN 1 x)) f hor _ H).mono ?_; rintro e w' ⟨rfl, H2⟩; have kA := H2.kA; have kC := H2.kC; unfold fillV at kC; clear H) | (go_at_call 81; go_loud (refine (IH2.out r rfl down _ hd3 _ H2).mono ?_; rintro e w' ⟨rfl, H3⟩)))
            go_end0
            exact ⟨rfl, by rw [HF.out]; assumption⟩
          · rw [hb2] at hbt2
            have HF := Lib.hid (show dmF wd used (r + 1 + 1) down f = dmF wd used (r + 1) (orN down (shlN 1 x)) f by rw [dmF, ex, if_neg (by simp [HB.out]), if_pos (by simp [hb2])])
            clear ex
            have HH := Lib.hid H
            have HB2 := Lib.hid hb2
            clear H hx hb2
            go_enter Tryd.func81, Tryd.ntmps81
            go_wp2_with fail
            go_still_tail 8, (by kernel_rfl)
            change wpList _ _ _ _ _ w.drew
            have H := HeldTo HH.out (show ∃ x, w.drew = ext w x from (by repeat (first | exact ext_refl _ | (with_reducible assumption) | refine ext_ext' ?_ _ | refine ext_alloc' ?_ _ | refine ext_drew' ?_)))
            clear kA kC
            generalize w.drew = w2 at H ⊢
            go_wp2_with (first | (go_at_call 81; go_loud (refine (IH.out (orN down (shlN 1 x)) f hor _ H).mono ?_; rintro e w' ⟨rfl, H2⟩; have kA := H2.kA; clear H)))
            go_end0
            exact ⟨rfl, by rw [HF.out]; assumption⟩
      · rw [hb] at hbt
        have HF := Lib.hid (dmF_bit (w := wd) (used := used) (r := r) (down := down) (f := f) (by rw [← HX.out]; exact hb))
        have hle : decide (wd ≤ x) = false := decide_eq_false (by omega)
        have HH := Lib.hid H
        clear H hx
        go_enter Tryd.func81, Tryd.ntmps81
        go_wp2_with (first | (go_at_call 81; go_loud (refine (IH.out down f hd2 _ HH.out).mono ?_; rintro e w' ⟨rfl, H2⟩)))
        go_end0
        exact ⟨rfl, by rw [HF.out]; assumption⟩
end
section
open Go.ChangeShapes Go.WideShapes Go.ChangeAt Go.RowKit
theorem pow6 {wd : Nat} (hw : wd ≤ 6) : 2 ^ wd ≤ 64 := Nat.pow_le_pow_right (n := 2) (by omega) hw
def dW (wd a b : Nat) : Int := nth (waysTo wd a) b
theorem waysTo_tab {wd N a : Nat} (hN : N = 2 ^ wd) : waysTo wd a = tab N (dW wd a) := by
  have h := tab_nths (waysTo wd a)
  have hl : (waysTo wd a).length = N := by rw [hN]; exact tab_len _ _
  rw [hl] at h
  exact h.symm
theorem fillSt_mk {W0 w1 : World} {A g wd : Nat} {f : Nat → Int} (H : Held W0 w1 [rowI (.slice (some ⟨g, 0, none⟩) (2 ^ wd) (2 ^ wd)) (tab (2 ^ wd) f), boxR A 3 (.int .i64 wd)]) :
    FillSt W0 ((w1.alloc (.cells #[.slice (some ⟨g, 0, none⟩) (2 ^ wd) (2 ^ wd)] 22)).alloc (.cells #[fillV A w1.heap.size (w1.heap.size + 1)] fillT)) A w1.heap.size (w1.heap.size + 1) g wd f := by
  have h := (H.newBox 22 (.slice (some ⟨g, 0, none⟩) (2 ^ wd) (2 ^ wd))).newBox fillT (fillV A w1.heap.size (w1.heap.size + 1))
  rw [World.size_alloc] at h
  refine h.front ?_
  refine (List.perm_append_comm (l₁ := [_, _])).trans ?_
  exact List.Perm.cons _ (List.Perm.cons _ (List.Perm.swap _ _ _))
theorem dmfill_start (W0 : World) (A B C g wd used : Nat) [Lt63 used] (hw : wd ≤ 6) (w : World) (H : FillSt W0 w A B C g wd fun _ => 0) :
    Calls Tryd.prog 81 #[.int .i64 0, .int .i64 used, .int .i64 0, .pointer (some ⟨A, 0, none⟩), .pointer (some ⟨B, 0, none⟩), .pointer (some ⟨C, 0, none⟩)] w fun e w' => e = .returned (.tuple #[]) ∧ FillSt W0 w' A B C g wd (dmF wd used wd 0 fun _ => 0) :=
  dmfill_any W0 A B C g wd used hw wd 0 0 _ w (by omega) (by simp) H
set_option maxHeartbeats 1000000 in
theorem dominoWays_row (wd used N : Nat) [Lt63 used] (hw : wd ≤ 6) (hN : N = 2 ^ wd) (w : World) :
    Calls Tryd.prog 69 #[.int .i64 wd, .int .i64 used] w fun e w' => ∃ g, e = .returned (.slice (some ⟨g, 0, none⟩) N N) ∧ Held w w' [rowI (.slice (some ⟨g, 0, none⟩) N N) (tab N (dW wd used))] := by
  rw [← waysTo_tab hN]
  subst hN
  haveI : Le6 wd := ⟨hw⟩
  have hlen := pow6 hw
  have H := (Held.start w).newBox 3 (.int .i64 wd)
  have hsh : ((shlN 1 wd : Nat) : Int) = ((2 ^ wd : Nat) : Int) := by simp [shlN]
  have HS := Lib.hid hsh
  clear hsh
  go_enter Tryd.func69, Tryd.ntmps69
  go_wp2_with (first | (at_make; refine wpList_make_held rfl _ _ _ rfl elemInt H .i64 .i64 _ _ (2 ^ wd) rfl rfl HS.out HS.out (by omega) (by unfold maxLen; omega) ?_; intro w1 H1; rw [World.size_alloc] at H1; have HF := Lib.hid (fillSt_mk H1.zeros); clear H H1) | (go_at_call 81; go_loud (refine (dmfill_start _ _ _ _ _ _ _ hw _ HF.out).mono ?_; rintro e w' ⟨rfl, H2⟩; have kB := H2.kB)))
  go_ret
  exact ⟨_, rfl, H2.first⟩
theorem dominoWays_any (wd used : Nat) [Lt63 used] (hw : wd ≤ 6) (w : World) :
    Calls Tryd.prog 69 #[.int .i64 wd, .int .i64 used] w fun e w' => ∃ v', e = .returned v' ∧ Held w w' [rowI v' (waysTo wd used)] :=
  (dominoWays_row wd used _ hw rfl w).mono fun _ _ ⟨_, he, H⟩ => ⟨_, he, by rw [waysTo_tab rfl]; exact H⟩
end
section
open Go.ChangeShapes Go.WideShapes Go.ChangeAt Go.RowKit
def fillS (w full out : Nat) : Nat → Int
  | 0 => 1
  | 1 => if full.testBit (w - 1) then (if out.testBit (w - 1) then 0 else 1) else if out.testBit (w - 1) then 1 else 0
  | r + 2 =>
    if full.testBit (w - (r + 2)) then (if out.testBit (w - (r + 2)) then 0 else fillS w full out (r + 1))
    else if out.testBit (w - (r + 2)) then fillS w full out (r + 1)
    else if full.testBit (w - (r + 2) + 1) then 0 else if out.testBit (w - (r + 2) + 1) then 0 else fillS w full out r
theorem fillS_ff {w full out r x : Nat} (hx : w - (r + 1) = x) (h : full.testBit x = true) (h2 : out.testBit x = true) : fillS w full out (r + 1) = 0 := by
  subst hx; cases r <;> simp [fillS, h, h2]
theorem fillS_f {w full out r x : Nat} (hx : w - (r + 1) = x) (h : full.testBit x = true) (h2 : out.testBit x = false) : fillS w full out (r + 1) = fillS w full out r := by
  subst hx; cases r <;> simp [fillS, h, h2]
theorem fillS_o {w full out r x : Nat} (hx : w - (r + 1) = x) (h : full.testBit x = false) (h2 : out.testBit x = true) : fillS w full out (r + 1) = fillS w full out r := by
  subst hx; cases r <;> simp [fillS, h, h2]
theorem fillS_one {w full out x : Nat} (hx : w - (0 + 1) = x) (h : full.testBit x = false) (h2 : out.testBit x = false) : fillS w full out (0 + 1) = 0 := by
  subst hx; simp [fillS, h, h2]
theorem fillS_no {w full out r x : Nat} (hx : w - (r + 1 + 1) = x) (h : full.testBit x = false) (h2 : out.testBit x = false) (h3 : full.testBit (x + 1) = true) : fillS w full out (r + 1 + 1) = 0 := by
  subst hx; simp [fillS, h, h2, h3]
theorem fillS_no2 {w full out r x : Nat} (hx : w - (r + 1 + 1) = x) (h : full.testBit x = false) (h2 : out.testBit x = false) (h4 : out.testBit (x + 1) = true) : fillS w full out (r + 1 + 1) = 0 := by
  subst hx; simp [fillS, h, h2, h4]
theorem fillS_two {w full out r x : Nat} (hx : w - (r + 1 + 1) = x) (h : full.testBit x = false) (h2 : out.testBit x = false) (h3 : full.testBit (x + 1) = false) (h4 : out.testBit (x + 1) = false) : fillS w full out (r + 1 + 1) = fillS w full out r := by
  subst hx; simp [fillS, h, h2, h3, h4]
theorem l11_next {x : Nat} {w u d : Value} {W : World} {Q : Ending → World → Prop} (h : Calls Tryd.prog 70 #[w, .int .i64 ((x + 1 : Nat) : Int), u, d] W Q) : Calls Tryd.prog 70 #[w, .int .i64 ((x : Int) + 1), u, d] W Q := h
theorem l11_next2 {x : Nat} {w u d : Value} {W : World} {Q : Ending → World → Prop} (h : Calls Tryd.prog 70 #[w, .int .i64 ((x + 2 : Nat) : Int), u, d] W Q) : Calls Tryd.prog 70 #[w, .int .i64 ((x : Int) + 2), u, d] W Q := h
set_option maxHeartbeats 2000000 in
theorem l11Fill_any (wd full out : Nat) [Lt63 full] [Lt63 out] (hw : wd ≤ 6) : ∀ (r x : Nat) (w : World), x + r = wd →
    Calls Tryd.prog 70 #[.int .i64 wd, .int .i64 x, .int .i64 full, .int .i64 out] w fun e w' => e = .returned (.int .i64 (fillS wd full out r)) ∧ ∃ x, w' = ext w x := by
  intro r
  induction r using Nat.strongRecOn with
  | ind r ih =>
    intro x w hx
    cases r with
    | zero =>
      obtain rfl : x = wd := by omega
      go_enter Tryd.func70, Tryd.ntmps70
      go_wp2_with fail
      go_ret
      exact ⟨rfl, (by repeat (first | exact ext_refl _ | (with_reducible assumption) | refine ext_ext' ?_ _ | refine ext_alloc' ?_ _ | refine ext_drew' ?_))⟩
    | succ r =>
      have hlt : x < wd := by omega
      have hx6 : x ≤ 6 := by omega
      have hne : ((x : Int) == wd) = false := beq_eq_false_iff_ne.2 (by omega)
      have hbt := bit_test full x
      have hbo := bit_test out x
      haveI : Le64 x := ⟨by omega⟩
      haveI : Le64 (x + 1) := ⟨by omega⟩
      have hX : wd - (r + 1) = x := by omega
      have IH := Lib.hid fun w => l11_next (ih r (by omega) (x + 1) w (by omega))
      have IH2 := Lib.hid fun (s : Nat) (hs : r = s + 1) w => l11_next2 (ih s (by omega) (x + 2) w (by omega))
      cases hf : full.testBit x
      all_goals
        cases ho : out.testBit x
        all_goals
          rw [hf] at hbt
          rw [ho] at hbo
      · cases r with
        | zero =>
          have hx1 : decide ((x : Int) + 1 < wd) = false := decide_eq_false (by omega)
          have HF := Lib.hid (fillS_one hX hf ho)
          clear hf ho hX hx
          go_enter Tryd.func70, Tryd.ntmps70
          go_wp2_with fail
          go_ret
          exact ⟨ret_int HF.out.symm, (by repeat (first | exact ext_refl _ | (with_reducible assumption) | refine ext_ext' ?_ _ | refine ext_alloc' ?_ _ | refine ext_drew' ?_))⟩
        | succ r =>
          have hx1 : decide ((x : Int) + 1 < wd) = true := decide_eq_true (by omega)
          have hbt2 := bit_test0 full (x + 1)
          have hbo2 := bit_test0 out (x + 1)
          cases hf2 : full.testBit (x + 1)
          · rw [hf2] at hbt2
            cases ho2 : out.testBit (x + 1)
            · rw [ho2] at hbo2
              have HF := Lib.hid (fillS_two hX hf ho hf2 ho2)
              clear hf ho hX hx hf2 ho2
              go_enter Tryd.func70, Tryd.ntmps70
              go_wp2_with (first | (go_at_call 70; refine (IH2.out r rfl _).mono ?_; rintro e w' ⟨rfl, xe, rfl⟩))
              go_ret
              exact ⟨ret_int HF.out.symm, (by repeat (first | exact ext_refl _ | (with_reducible assumption) | refine ext_ext' ?_ _ | refine ext_alloc' ?_ _ | refine ext_drew' ?_))⟩
            · rw [ho2] at hbo2
              have HF := Lib.hid (fillS_no2 hX hf ho ho2)
              clear hf ho hX hx hf2 ho2
              go_enter Tryd.func70, Tryd.ntmps70
              go_wp2_with fail
              go_ret
              exact ⟨ret_int HF.out.symm, (by repeat (first | exact ext_refl _ | (with_reducible assumption) | refine ext_ext' ?_ _ | refine ext_alloc' ?_ _ | refine ext_drew' ?_))⟩
          · rw [hf2] at hbt2
            have HF := Lib.hid (fillS_no hX hf ho hf2)
            clear hf ho hX hx hf2
            go_enter Tryd.func70, Tryd.ntmps70
            go_wp2_with fail
            go_ret
            exact ⟨ret_int HF.out.symm, (by repeat (first | exact ext_refl _ | (with_reducible assumption) | refine ext_ext' ?_ _ | refine ext_alloc' ?_ _ | refine ext_drew' ?_))⟩
      · have HF := Lib.hid (fillS_o hX hf ho)
        clear hf ho hX hx
        go_enter Tryd.func70, Tryd.ntmps70
        go_wp2_with (first | (go_at_call 70; refine (IH.out _).mono ?_; rintro e w' ⟨rfl, xe, rfl⟩))
        go_ret
        exact ⟨ret_int HF.out.symm, (by repeat (first | exact ext_refl _ | (with_reducible assumption) | refine ext_ext' ?_ _ | refine ext_alloc' ?_ _ | refine ext_drew' ?_))⟩
      · have HF := Lib.hid (fillS_f hX hf ho)
        clear hf ho hX hx
        go_enter Tryd.func70, Tryd.ntmps70
        go_wp2_with (first | (go_at_call 70; refine (IH.out _).mono ?_; rintro e w' ⟨rfl, xe, rfl⟩))
        go_ret
        exact ⟨ret_int HF.out.symm, (by repeat (first | exact ext_refl _ | (with_reducible assumption) | refine ext_ext' ?_ _ | refine ext_alloc' ?_ _ | refine ext_drew' ?_))⟩
      · have HF := Lib.hid (fillS_ff hX hf ho)
        clear hf ho hX hx
        go_enter Tryd.func70, Tryd.ntmps70
        go_wp2_with fail
        go_ret
        exact ⟨ret_int HF.out.symm, (by repeat (first | exact ext_refl _ | (with_reducible assumption) | refine ext_ext' ?_ _ | refine ext_alloc' ?_ _ | refine ext_drew' ?_))⟩
theorem l11Fill_top (wd full out : Nat) [Lt63 full] [Lt63 out] (hw : wd ≤ 6) (w : World) :
    Calls Tryd.prog 70 #[.int .i64 wd, .int .i64 0, .int .i64 full, .int .i64 out] w fun e w' => e = .returned (.int .i64 (fillS wd full out wd)) ∧ ∃ x, w' = ext w x := l11Fill_any wd full out hw wd 0 w (by omega)
def rowDS (wd a : Nat) : List Int := (List.range (2 ^ wd)).map fun b => fillS wd a b wd
theorem ways_eq : ∀ wd, wd < 5 → ∀ a, a < 2 ^ wd → waysTo wd a = rowDS wd a := by decide +kernel
end
section
open Go.ChangeShapes Go.WideShapes Go.ChangeAt Go.RowKit
def matTo (wd k : Nat) : List (List Int) := (List.range k).map (waysTo wd)
theorem matTo_len (wd k : Nat) : (matTo wd k).length = k := by simp [matTo]
theorem matTo_succ (wd k : Nat) : matTo wd (k + 1) = matTo wd k ++ [waysTo wd k] := by simp [matTo, List.range_succ]
def matV (wd : Int) : Option (List (List Int)) := if btw wd 1 4 then some (matTo wd.toNat (shlN 1 wd.toNat)) else none
theorem matV_no {wd : Int} (h : btw wd 1 4 = false) : matV wd = none := by simp [matV, h]
theorem matV_yes {n : Nat} (h : btw n 1 4 = true) : matV n = some (matTo n (shlN 1 n)) := by simp [matV, h]
theorem shl6 {wd : Nat} (hw : wd ≤ 6) : shlN 1 wd ≤ 64 := by rw [shlN, Nat.one_mul]; exact pow6 hw
theorem shl_pow (wd : Nat) : shlN 1 wd = 2 ^ wd := by rw [shlN, Nat.one_mul]
theorem waysTo_len (wd a : Nat) : (waysTo wd a).length = 2 ^ wd := tab_len _ _
set_option maxHeartbeats 1000000 in
theorem implMat_any (wd : Int) (w : World) : Calls Tryd.prog 41 #[.int .i64 wd] w (RowsPost w (matV wd)) := by
  cases hb : btw wd 1 4
  · have HF := Lib.hid (matV_no hb)
    go_enter Tryd.func41, Tryd.ntmps41
    go_wp2_with (first | (go_at_call 40; refine (between_b _ _ _ _ hb _).mono ?_; rintro e w' ⟨rfl, xe, rfl⟩))
    go_ret2
    exact .fail HF.out (by repeat (first | exact ext_refl _ | (with_reducible assumption) | refine ext_ext' ?_ _ | refine ext_alloc' ?_ _ | refine ext_drew' ?_))
  obtain ⟨b1, b2⟩ := btw_iff.1 hb
  obtain ⟨n, rfl⟩ : ∃ n : Nat, wd = n := ⟨wd.toNat, by omega⟩
  haveI : Le6 n := ⟨by omega⟩
  have hn6 : n ≤ 6 := by omega
  have HF := Lib.hid (matV_yes hb)
  have hlen := shl6 hn6
  go_enter Tryd.func41, Tryd.ntmps41
  go_wp2_with (first | (go_at_call 40; refine (between_b _ _ _ _ hb _).mono ?_; rintro e w' ⟨rfl, xe, rfl⟩))
  go_loopw [4, 11] (fun u i wr => ∃ (v : Value) (k : Nat) (vs : List Value), v = u ∧ k ≤ shlN 1 n ∧ i = .int .i64 k ∧ vs.length = k ∧ Held w wr (grpR v vs (matTo n k) ++ [])) (fun _ i _ => shlN 1 n - (intOf i).toNat)
  case atStart => exact ⟨_, 0, [], rfl, Nat.zero_le _, rfl, rfl, ((Held.start w).to (by repeat (first | exact ext_refl _ | (with_reducible assumption) | refine ext_ext' ?_ _ | refine ext_alloc' ?_ _ | refine ext_drew' ?_))).nilR⟩
  case round =>
    obtain ⟨v, k, vs, rfl, hk, rfl, hvl, H⟩ := hrel
    have HV := Lib.hid (show vs.length = (matTo n k).length by rw [matTo_len, hvl])
    have HVK := Lib.hid hvl
    clear hvl
    by_cases hlt : k < shlN 1 n
    · haveI : Lt63 k := ⟨by omega⟩
      go_wp2_with (first | (go_at_call 69; refine (dominoWays_any _ _ hn6 _).mono ?_; rintro e w' ⟨v', rfl, H2⟩; obtain ⟨ua, uc, rfl⟩ := H2.rowV; have HR := Lib.hid ((H.join H2).pull 1 rfl); clear H H2) | (at_builtin; refine wpList_append_held rfl _ _ _ rfl elemInts (HR.out.to (by repeat (first | exact ext_refl _ | (with_reducible assumption) | refine ext_ext' ?_ _ | refine ext_alloc' ?_ _ | refine ext_drew' ?_))) rfl rfl (Sl_new1 _ _ _) (one_row _ _ _) (by rw [matTo_len]; unfold maxLen; omega) (by rw [matTo_len]; omega) ?_; intro v' w' H))
      go_roundw
      case rel =>
        refine ⟨v', k + 1, vs ++ [.slice ua (waysTo n k).length uc], rfl, hlt, int_succ k, by simp [HVK.out], ?_⟩
        rw [matTo_succ]
        refine Held.snocR HV.out ?_
        exact H
      case measure => simp [intOf]; omega
    · rw [show k = shlN 1 n by omega] at H
      have HH := Lib.hid H
      have HK := Lib.hid (show k = shlN 1 n by omega)
      clear H
      go_wp2_with fail
      go_ret2
      have H := HH.out
      rw [List.append_nil] at H
      exact .got HF.out (by have h := HV.out; rw [h, matTo_len, matTo_len, HK.out]) H
def rowTo (wd a k : Nat) : List Int := (List.range k).map fun b => fillS wd a b wd
theorem rowTo_len (wd a k : Nat) : (rowTo wd a k).length = k := by simp [rowTo]
theorem rowTo_succ (wd a k : Nat) : rowTo wd a (k + 1) = rowTo wd a k ++ [fillS wd a k wd] := by simp [rowTo, List.range_succ]
theorem rowTo_all {n k : Nat} (h4 : n ≤ 4) (hk : k < shlN 1 n) : rowTo n k (shlN 1 n) = waysTo n k := by
  rw [shl_pow] at hk ⊢
  exact (ways_eq n (by omega) k hk).symm
set_option maxHeartbeats 2000000 in
theorem specMat_any (wd : Int) (w : World) : Calls Tryd.prog 42 #[.int .i64 wd] w (RowsPost w (matV wd)) := by
  cases hb : btw wd 1 4
  · have HF := Lib.hid (matV_no hb)
    go_enter Tryd.func42, Tryd.ntmps42
    go_wp2_with (first | (go_at_call 46; refine (l1In_b _ _ _ _ hb _).mono ?_; rintro e w' ⟨rfl, xe, rfl⟩))
    go_ret2
    exact .failE HF.out (((Held.start w).empty _ _).to (by repeat (first | exact ext_refl _ | (with_reducible assumption) | refine ext_ext' ?_ _ | refine ext_alloc' ?_ _ | refine ext_drew' ?_)))
  obtain ⟨b1, b2⟩ := btw_iff.1 hb
  obtain ⟨n, rfl⟩ : ∃ n : Nat, wd = n := ⟨wd.toNat, by omega⟩
  haveI : Le6 n := ⟨by omega⟩
  have hn6 : n ≤ 6 := by omega
  have HF := Lib.hid (matV_yes hb)
  have hlen := shl6 hn6
  go_enter Tryd.func42, Tryd.ntmps42
  go_wp2_with (first | (go_at_call 46; refine (l1In_b _ _ _ _ hb _).mono ?_; rintro e w' ⟨rfl, xe, rfl⟩))
  go_loopw [4, 5] (fun u i wr => ∃ (v : Value) (k : Nat) (vs : List Value), v = u ∧ k ≤ shlN 1 n ∧ i = .int .i64 k ∧ vs.length = k ∧ Held w wr (grpR v vs (matTo n k) ++ [])) (fun _ i _ => shlN 1 n - (intOf i).toNat)
  case atStart => exact ⟨_, 0, [], rfl, Nat.zero_le _, rfl, rfl, (((Held.start w).empty _ _).to (by repeat (first | exact ext_refl _ | (with_reducible assumption) | refine ext_ext' ?_ _ | refine ext_alloc' ?_ _ | refine ext_drew' ?_))).grp0⟩
  case round =>
    obtain ⟨v, k, vs, rfl, hk, rfl, hvl, H⟩ := hrel
    have HV := Lib.hid (show vs.length = (matTo n k).length by rw [matTo_len, hvl])
    have HVK := Lib.hid hvl
    clear hvl
    by_cases hlt : k < shlN 1 n
    · haveI : Lt63 k := ⟨by omega⟩
      have H0 := Lib.hid (H.empty 3 1)
      clear H
      go_wp2_with fail
      go_loopw [6, 7] (fun u i wr2 => ∃ (r : Value) (q : Nat), r = u ∧ q ≤ shlN 1 n ∧ i = .int .i64 q ∧ Held w wr2 (rowI r (rowTo n k q) :: (grpR v vs (matTo n k) ++ []))) (fun _ i _ => shlN 1 n - (intOf i).toNat)
      case atStart => exact ⟨_, 0, rfl, Nat.zero_le _, rfl, H0.out⟩
      case round =>
        clear H0
        obtain ⟨r, q, rfl, hq, rfl, H⟩ := hrel
        by_cases hlt2 : q < shlN 1 n
        · haveI : Lt63 q := ⟨by omega⟩
          go_wp2_with (first | (go_at_call 70; refine (l11Fill_top _ _ _ hn6 _).mono ?_; rintro e w' ⟨rfl, xe, rfl⟩) | (at_builtin; refine wpList_append_held (m := 1) rfl _ _ _ rfl elemInt (H.to (by repeat (first | exact ext_refl _ | (with_reducible assumption) | refine ext_ext' ?_ _ | refine ext_alloc' ?_ _ | refine ext_drew' ?_))) rfl rfl (Sl_new1 _ _ _) (one_lit _) (by rw [rowTo_len]; unfold maxLen; omega) (by rw [rowTo_len]; omega) ?_; intro v' w' H; have H := H.snoc))
          go_roundw
          case rel =>
            refine ⟨v', q + 1, rfl, hlt2, int_succ q, ?_⟩
            rw [rowTo_succ]
            exact H
          case measure => simp [intOf]; omega
        · rw [show q = shlN 1 n by omega, rowTo_all (by omega) hlt] at H
          obtain ⟨ua, uc, rfl⟩ := H.rowV
          have HR := Lib.hid (H.pull 1 rfl)
          clear H
          go_wp2_with (first | (at_builtin; refine wpList_append_held rfl _ _ _ rfl elemInts (HR.out.to (by repeat (first | exact ext_refl _ | (with_reducible assumption) | refine ext_ext' ?_ _ | refine ext_alloc' ?_ _ | refine ext_drew' ?_))) rfl rfl (Sl_new1 _ _ _) (one_row _ _ _) (by rw [matTo_len]; unfold maxLen; omega) (by rw [matTo_len]; omega) ?_; intro v' w' H))
          go_roundw
          case rel =>
            refine ⟨v', k + 1, vs ++ [.slice ua (waysTo n k).length uc], rfl, hlt, int_succ k, by simp [HVK.out], ?_⟩
            rw [matTo_succ]
            refine Held.snocR HV.out ?_
            exact H
          case measure => simp [intOf]; omega
    · rw [show k = shlN 1 n by omega] at H
      have HH := Lib.hid H
      have HK := Lib.hid (show k = shlN 1 n by omega)
      clear H
      go_wp2_with fail
      go_ret2
      have H := HH.out
      rw [List.append_nil] at H
      exact .got HF.out (by have h := HV.out; rw [h, matTo_len, matTo_len, HK.out]) H
end
section
open Go.ChangeShapes Go.WideShapes Go.ChangeAt Go.RowKit
def recV (wd : Int) : Option (List Int) := if btw wd 1 3 then charV (matTo wd.toNat (shlN 1 wd.toNat)) else none
theorem recV_no {wd : Int} (h : btw wd 1 3 = false) : recV wd = none := by simp [recV, h]
theorem recV_yes {n : Nat} (h : btw n 1 3 = true) : recV n = charV (matTo n (shlN 1 n)) := by simp [recV, h]
theorem recV_len (wd : Int) : ((recV wd).getD []).length ≤ 8 := by
  unfold recV
  split
  · exact charV_len _
  · simp
theorem mat_rows {w w' : World} {n : Nat} {e : Ending} (h : btw n 1 4 = true) (K : RowsPost w (matV n) e w') : ∃ a cap, e = .returned (.tuple #[.slice a (matTo n (shlN 1 n)).length cap, .bool true]) ∧ (∃ x, w' = ext w x) ∧ RowsAt w' (.slice a (matTo n (shlN 1 n)).length cap) (matTo n (shlN 1 n)) := by
  obtain ⟨v', vs, he, hl, H⟩ := K
  rw [matV_yes h] at he hl H
  simp only [Option.getD_some, Option.isSome_some] at he hl H
  have R := Held.rows (L := []) (by rw [List.append_nil]; exact H) hl
  have R2 := R
  obtain ⟨a, b, o, cap, us, hv, _⟩ := R.opn
  subst hv
  exact ⟨a, cap, he, ext_of H.bel, R2⟩
theorem mat_no {w w' : World} {wd : Int} {e : Ending} (h : btw wd 1 4 = false) (K : RowsPost w (matV wd) e w') : ∃ v, e = .returned (.tuple #[v, .bool false]) ∧ ∃ x, w' = ext w x := by
  obtain ⟨v', vs, he, hl, H⟩ := K
  rw [matV_no h] at he
  exact ⟨v', he, ext_of H.bel⟩
theorem ExtPost.of {w w1 w' : World} {r q : Option (List Int)} {v : Value} (h : r = q) (hx : ∃ x, w1 = ext w x) (hx2 : ∃ x, w' = ext w1 x) (ho : OwnI w' w1.heap.size v (q.getD [])) : ExtPost w r (.returned (.tuple #[v, .bool q.isSome])) w' := by
  subst h; exact ⟨_, rfl, ext_trans hx hx2, own_base ho (bel_of_ext hx).size⟩
theorem implRec_any (wd : Int) (w : World) : Calls Tryd.prog 12 #[.int .i64 wd] w (ExtPost w (recV wd)) := by
  cases h1 : btw wd 1 3
  · have HF := Lib.hid (recV_no h1)
    go_enter Tryd.func12, Tryd.ntmps12
    go_wp2_with (first | (go_at_call 40; refine (between_b _ _ _ _ h1 _).mono ?_; rintro e w' ⟨rfl, xe, rfl⟩))
    go_ret2
    exact .fail HF.out (by repeat (first | exact ext_refl _ | (with_reducible assumption) | refine ext_ext' ?_ _ | refine ext_alloc' ?_ _ | refine ext_drew' ?_))
  obtain ⟨b1, b2⟩ := btw_iff.1 h1
  obtain ⟨n, rfl⟩ : ∃ n : Nat, wd = n := ⟨wd.toNat, by omega⟩
  have h4 : btw n 1 4 = true := btw_iff.2 ⟨b1, by omega⟩
  have HF := Lib.hid (recV_yes h1)
  have H4 := Lib.hid h4
  clear h4
  go_enter Tryd.func12, Tryd.ntmps12
  go_wp2_with (first | (go_at_call 40; refine (between_b _ _ _ _ h1 _).mono ?_; rintro e w' ⟨rfl, xe, rfl⟩) | (go_at_call 41; refine (implMat_any _ _).mono ?_; rintro e w' K; obtain ⟨a, cap, rfl, hx, R⟩ := mat_rows H4.out K; have HX := Lib.hid hx; have R := Lib.hid R; clear hx K) | (go_at_call 24; refine (implChar_any _ _ _ R.out).mono ?_; rintro e w' ⟨v', rfl, hx2, own⟩; have HX2 := Lib.hid hx2; clear hx2))
  go_ret2
  obtain ⟨xe, rfl⟩ := HX.out
  exact .of HF.out (by repeat (first | exact ext_refl _ | (with_reducible assumption) | refine ext_ext' ?_ _ | refine ext_alloc' ?_ _ | refine ext_drew' ?_)) HX2.out own
theorem specRec_any (wd : Int) (w : World) : Calls Tryd.prog 13 #[.int .i64 wd] w (ExtPost w (recV wd)) := by
  cases h1 : btw wd 1 4
  · have HF := Lib.hid (recV_no (wd := wd) (by cases h : btw wd 1 3 with | false => rfl | true => have := btw_iff.1 h; rw [← h1]; exact (btw_iff.2 ⟨by omega, by omega⟩).symm))
    have H1 := Lib.hid h1
    clear h1
    go_enter Tryd.func13, Tryd.ntmps13
    go_wp2_with (first | (go_at_call 42; refine (specMat_any _ _).mono ?_; rintro e w' K; obtain ⟨v, rfl, xe, rfl⟩ := mat_no H1.out K; clear K))
    go_ret2
    exact .failE HF.out (((Held.start w).to (by repeat (first | exact ext_refl _ | (with_reducible assumption) | refine ext_ext' ?_ _ | refine ext_alloc' ?_ _ | refine ext_drew' ?_))).empty _ _)
  obtain ⟨b1, b2⟩ := btw_iff.1 h1
  obtain ⟨n, rfl⟩ : ∃ n : Nat, wd = n := ⟨wd.toNat, by omega⟩
  have H4 := Lib.hid h1
  clear h1
  cases h3 : btw (n : Int) 1 3
  · have HF := Lib.hid (recV_no h3)
    have hgt : 3 < n := by have := btw_not.1 h3; omega
    have H3 := Lib.hid h3
    clear h3
    go_enter Tryd.func13, Tryd.ntmps13
    go_wp2_with (first | (go_at_call 42; refine (specMat_any _ _).mono ?_; rintro e w' K; obtain ⟨a, cap, rfl, ⟨xe, rfl⟩, R⟩ := mat_rows H4.out K; clear K R))
    go_ret2
    exact .failE HF.out (((Held.start w).to (by repeat (first | exact ext_refl _ | (with_reducible assumption) | refine ext_ext' ?_ _ | refine ext_alloc' ?_ _ | refine ext_drew' ?_))).empty _ _)
  have HF := Lib.hid (recV_yes h3)
  obtain ⟨_, b3⟩ := btw_iff.1 h3
  have H3 := Lib.hid h3
  clear h3
  go_enter Tryd.func13, Tryd.ntmps13
  go_wp2_with (first | (go_at_call 42; refine (specMat_any _ _).mono ?_; rintro e w' K; obtain ⟨a, cap, rfl, hx, R⟩ := mat_rows H4.out K; have HX := Lib.hid hx; have R := Lib.hid R; clear hx K) | (go_at_call 25; refine (specChar_any _ _ _ R.out).mono ?_; rintro e w' ⟨v', rfl, hx2, own⟩; have HX2 := Lib.hid hx2; clear hx2))
  go_ret2
  obtain ⟨xe, rfl⟩ := HX.out
  exact .of HF.out (by repeat (first | exact ext_refl _ | (with_reducible assumption) | refine ext_ext' ?_ _ | refine ext_alloc' ?_ _ | refine ext_drew' ?_)) HX2.out own
end
section
open Go.ChangeShapes Go.WideShapes Go.ChangeAt Go.RowKit
def ssB (wd : Nat) (c : Int) (a : Nat) (g : Nat → Int) : Nat → Nat → Int := iter (fun b g => upd g b (wrap64 (g b + wrap64 (c * dW wd a b)))) g
theorem ssB_succ (wd : Nat) (c : Int) (a : Nat) (g : Nat → Int) (b : Nat) : ssB wd c a g (b + 1) = upd (ssB wd c a g b) b (wrap64 (ssB wd c a g b b + wrap64 (c * dW wd a b))) := rfl
def ssA (wd : Nat) (f : Nat → Int) : Nat → Nat → Int := iter (fun a g => ssB wd (f a) a g (shlN 1 wd)) fun _ => 0
theorem ssA_succ (wd : Nat) (f : Nat → Int) (a : Nat) : ssA wd f (a + 1) = ssB wd (f a) a (ssA wd f a) (shlN 1 wd) := rfl
def ssN (wd : Nat) : Nat → Nat → Int := iter (fun _ f => ssA wd f (shlN 1 wd)) (upd (fun _ => 0) 0 1)
theorem ssN_succ (wd n : Nat) : ssN wd (n + 1) = ssA wd (ssN wd n) (shlN 1 wd) := rfl
theorem shl_pos (wd : Nat) : 0 < shlN 1 wd := by rw [shl_pow]; exact Nat.two_pow_pos _
end
section
open Go.ChangeShapes Go.WideShapes Go.ChangeAt Go.RowKit
def stripT : List (List (List Int)) := [[[]],
  [[1, 0], [0, 1], [1, 0], [0, 1], [1, 0], [0, 1], [1, 0], [0, 1], [1, 0], [0, 1], [1, 0], [0, 1], [1, 0], [0, 1], [1, 0], [0, 1], [1, 0]],
  [[1, 0, 0, 0], [1, 0, 0, 1], [2, 0, 0, 1], [3, 0, 0, 2], [5, 0, 0, 3], [8, 0, 0, 5], [13, 0, 0, 8], [21, 0, 0, 13], [34, 0, 0, 21], [55, 0, 0, 34], [89, 0, 0, 55], [144, 0, 0, 89], [233, 0, 0, 144], [377, 0, 0, 233], [610, 0, 0, 377], [987, 0, 0, 610], [1597, 0, 0, 987]],
  [[1, 0, 0, 0, 0, 0, 0, 0], [0, 1, 0, 0, 1, 0, 0, 1], [3, 0, 0, 1, 0, 0, 1, 0], [0, 4, 0, 0, 4, 0, 0, 3], [11, 0, 0, 4, 0, 0, 4, 0], [0, 15, 0, 0, 15, 0, 0, 11], [41, 0, 0, 15, 0, 0, 15, 0], [0, 56, 0, 0, 56, 0, 0, 41], [153, 0, 0, 56, 0, 0, 56, 0], [0, 209, 0, 0, 209, 0, 0, 153], [571, 0, 0, 209, 0, 0, 209, 0], [0, 780, 0, 0, 780, 0, 0, 571], [2131, 0, 0, 780, 0, 0, 780, 0], [0, 2911, 0, 0, 2911, 0, 0, 2131], [7953, 0, 0, 2911, 0, 0, 2911, 0], [0, 10864, 0, 0, 10864, 0, 0, 7953], [29681, 0, 0, 10864, 0, 0, 10864, 0]],
  [[1, 0, 0, 0, 0, 0, 0, 0, 0, 0, 0, 0, 0, 0, 0, 0], [1, 0, 0, 1, 0, 0, 0, 0, 0, 1, 0, 0, 1, 0, 0, 1], [5, 0, 0, 2, 0, 0, 1, 0, 0, 1, 0, 0, 2, 0, 0, 1], [11, 0, 0, 7, 0, 0, 1, 0, 0, 6, 0, 0, 7, 0, 0, 5], [36, 0, 0, 18, 0, 0, 6, 0, 0, 12, 0, 0, 18, 0, 0, 11], [95, 0, 0, 54, 0, 0, 12, 0, 0, 42, 0, 0, 54, 0, 0, 36], [281, 0, 0, 149, 0, 0, 42, 0, 0, 107, 0, 0, 149, 0, 0, 95], [781, 0, 0, 430, 0, 0, 107, 0, 0, 323, 0, 0, 430, 0, 0, 281], [2245, 0, 0, 1211, 0, 0, 323, 0, 0, 888, 0, 0, 1211, 0, 0, 781], [6336, 0, 0, 3456, 0, 0, 888, 0, 0, 2568, 0, 0, 3456, 0, 0, 2245], [18061, 0, 0, 9792, 0, 0, 2568, 0, 0, 7224, 0, 0, 9792, 0, 0, 6336], [51205, 0, 0, 27853, 0, 0, 7224, 0, 0, 20629, 0, 0, 27853, 0, 0, 18061], [145601, 0, 0, 79058, 0, 0, 20629, 0, 0, 58429, 0, 0, 79058, 0, 0, 51205], [413351, 0, 0, 224659, 0, 0, 58429, 0, 0, 166230, 0, 0, 224659, 0, 0, 145601], [1174500, 0, 0, 638010, 0, 0, 166230, 0, 0, 471780, 0, 0, 638010, 0, 0, 413351], [3335651, 0, 0, 1812510, 0, 0, 471780, 0, 0, 1340730, 0, 0, 1812510, 0, 0, 1174500], [9475901, 0, 0, 5148161, 0, 0, 1340730, 0, 0, 3807431, 0, 0, 5148161, 0, 0, 3335651]]]
def stT (wd i : Nat) : List Int := (stripT.getD wd []).getD i []
theorem ssB_congr {wd N : Nat} {c : Int} {a : Nat} {g g' : Nat → Int} (h : ∀ q, q < N → g q = g' q) : ∀ b, b ≤ N → ∀ q, q < N → ssB wd c a g b q = ssB wd c a g' b q := by
  intro b
  induction b with
  | zero => intro _ q hq; exact h q hq
  | succ b ih =>
    intro hb q hq
    rw [ssB_succ, ssB_succ]
    unfold upd
    rw [ih (by omega) b (by omega), ih (by omega) q hq]
theorem ssA_congr {wd : Nat} {f f' : Nat → Int} (h : ∀ q, q < shlN 1 wd → f q = f' q) : ∀ a, a ≤ shlN 1 wd → ∀ q, q < shlN 1 wd → ssA wd f a q = ssA wd f' a q := by
  intro a
  induction a with
  | zero => intro _ q hq; rfl
  | succ a ih =>
    intro ha q hq
    rw [ssA_succ, ssA_succ, h a (by omega)]
    exact ssB_congr (ih (by omega)) _ (Nat.le_refl _) q hq
theorem stT_zero : ∀ wd, wd < 5 → 1 ≤ wd → tab (shlN 1 wd) (ssN wd 0) = stT wd 0 := by decide +kernel
theorem stT_step : ∀ wd, wd < 5 → 1 ≤ wd → ∀ i, i < 16 → tab (shlN 1 wd) (ssA wd (nth (stT wd i)) (shlN 1 wd)) = stT wd (i + 1) := by decide +kernel
theorem stT_all {wd : Nat} (h1 : 1 ≤ wd) (h4 : wd < 5) : ∀ i, i ≤ 16 → tab (shlN 1 wd) (ssN wd i) = stT wd i := by
  intro i
  induction i with
  | zero => intro _; exact stT_zero wd h4 h1
  | succ i ih =>
    intro hi
    rw [← stT_step wd h4 h1 i (by omega), ssN_succ]
    refine tab_congr fun q hq => ssA_congr (fun k hk => ?_) _ (Nat.le_refl _) q hq
    rw [← ih (by omega), tab_nth _ hk]
theorem stT_pos : ∀ wd, wd < 5 → 1 ≤ wd → ∀ i, i < 17 → 0 ≤ nth (stT wd i) 0 := by decide +kernel
theorem ssN_pos {wd i : Nat} (h1 : 1 ≤ wd) (h4 : wd < 5) (hi : i ≤ 16) : 0 ≤ ssN wd i 0 := by
  have h := stT_pos wd h4 h1 i (by omega)
  rw [← stT_all h1 h4 i hi, tab_nth _ (shl_pos wd)] at h
  exact h
end
section
open Go.ChangeShapes Go.WideShapes Go.ChangeAt Go.RowKit
def okW (wd n : Int) : Bool := btw wd 1 4 && btw n 0 16
def scV (wd n : Int) : Int := if okW wd n then ssN wd.toNat n.toNat 0 else -1
def seqTo (wd k : Nat) : List Int := (List.range k).map fun j => ssN wd j 0
theorem seqTo_len (wd k : Nat) : (seqTo wd k).length = k := by simp [seqTo]
theorem seqTo_succ (wd k : Nat) : seqTo wd (k + 1) = seqTo wd k ++ [ssN wd k 0] := by simp [seqTo, List.range_succ]
theorem seqTo_nth {wd k j : Nat} (h : j < k) : nth (seqTo wd k) j = ssN wd j 0 := by simp [seqTo, nth, List.getD, h]
def seqV (wd n : Int) : List Int := if okW wd n then seqTo wd.toNat (n.toNat + 1) else []
theorem okW_w {wd n : Int} (h : btw wd 1 4 = false) : okW wd n = false := by simp [okW, h]
theorem okW_n {wd n : Int} (h : btw n 0 16 = false) : okW wd n = false := by simp [okW, h]
theorem okW_y {wd n : Int} (h : btw wd 1 4 = true) (h2 : btw n 0 16 = true) : okW wd n = true := by simp [okW, h, h2]
theorem scV_no {wd n : Int} (h : okW wd n = false) : scV wd n = -1 := by simp [scV, h]
theorem scV_yes {wd n : Nat} (h : okW wd n = true) : scV wd n = ssN wd n 0 := by simp [scV, h]
theorem seqV_no {wd n : Int} (h : okW wd n = false) : seqV wd n = [] := by simp [seqV, h]
theorem seqV_yes {wd n : Nat} (h : okW wd n = true) : seqV wd n = seqTo wd (n + 1) := by simp [seqV, h]
theorem okW_nat {wd n : Int} (h : okW wd n = true) : ∃ W m : Nat, wd = W ∧ n = m ∧ 1 ≤ W ∧ W ≤ 4 ∧ m ≤ 16 := by
  simp only [okW, Bool.and_eq_true, btw_iff] at h
  exact ⟨wd.toNat, n.toNat, by omega, by omega, by omega, by omega, by omega⟩
theorem scV_neg {wd n : Int} : decide (scV wd n < 0) = !okW wd n := by
  cases h : okW wd n
  · simp [scV_no h]
  · obtain ⟨W, m, rfl, rfl, b1, b2, b3⟩ := okW_nat h
    have := ssN_pos b1 (by omega) b3
    rw [scV_yes h]; simp; omega
end
section
open Go.ChangeShapes Go.WideShapes Go.ChangeAt Go.RowKit
/-! ### characteristic numbers -/
theorem prTo_id_lo (m : List (List Int)) {n : Nat} (hm : sqB m 8 20 = true) (i j : Nat) : ∀ k, k ≤ m.length → i < m.length → j < m.length → prTo m (idM m.length) i j k = if j < k then nth (rAt m i) j else 0
  | 0, _, _, _ => by simp [prTo, iter]
  | k + 1, hk, hi, hj => by
    have ih := prTo_id_lo m (n := n) hm i j k (by omega) hi hj
    obtain ⟨q1, q2, q3⟩ := sqB_bd hm
    have hb := (q3 i hi).2 k (by omega)
    have hb2 := (q3 i hi).2 j hj
    have hid : nth (rAt (idM m.length) k) j = if j = k then 1 else 0 := by
      have : rAt (idM m.length) k = idRow m.length k := by simp [rAt, idM, idTo, List.getD, show k < m.length by omega]
      rw [this, idRow, tab_nth _ hj]; rfl
    rw [prTo_succ, ih, hid]
    by_cases e : j = k
    · subst e
      rw [if_neg (by omega), if_pos rfl, if_pos (by omega)]
      simp only [wrap64]; omega
    · rw [if_neg e]
      by_cases h2 : j < k
      · rw [if_pos h2, if_pos (by omega)]; simp only [wrap64]; omega
      · rw [if_neg h2, if_neg (by omega)]; simp only [wrap64]; omega
theorem diag_id {m : List (List Int)} (hm : sqB m 8 20 = true) : ∀ k, k ≤ m.length → diagTo (prod m (idM m.length)) k = diagTo m k
  | 0, _ => rfl
  | k + 1, hk => by
    rw [diagTo_succ, diagTo_succ, diag_id hm k (by omega)]
    have e : rAt (prod m (idM m.length)) k = prodRow m (idM m.length) k := by simp [rAt, prod, prodTo, List.getD, show k < m.length by omega]
    have hil : (idM m.length).length = m.length := idTo_len _ _
    rw [e, prodRow, tab_nth _ (by rw [hil]; omega), hil, prTo_id_lo m (n := 0) hm k k _ (Nat.le_refl _) (by omega) (by omega), if_pos (by omega)]
theorem diagTo_bd {m : List (List Int)} (hm : sqB m 8 20 = true) : ∀ k, k ≤ m.length → 0 ≤ diagTo m k ∧ diagTo m k ≤ 20 * k
  | 0, _ => by simp [diagTo, iter]
  | k + 1, hk => by
    obtain ⟨q1, q2, q3⟩ := sqB_bd hm
    have hb := (q3 k (by omega)).2 k (by omega)
    have ih := diagTo_bd hm k (by omega)
    rw [diagTo_succ]
    have : wrap64 (diagTo m k + nth (rAt m k) k) = diagTo m k + nth (rAt m k) k := by simp only [wrap64]; omega
    omega
theorem sqB_up {m : List (List Int)} (hm : sqB m 8 20 = true) : sqB m 16 1000000 = true := by
  obtain ⟨q1, q2, q3⟩ := sqB_bd hm
  simp only [sqB, Bool.and_eq_true, btw_iff]
  refine ⟨allTo_true.2 fun i hi => sqRow_yes (q3 i hi).1 (allTo_true.2 fun k hk => ?_), by omega, by omega⟩
  have := (q3 i hi).2 k (by rw [← (q3 i hi).1]; exact hk)
  exact btw_iff.2 ⟨by omega, by omega⟩
theorem char_facts {m : List (List Int)} {h : List Int} (e : charV m = some h) : h.length = m.length ∧ 0 < h.length ∧ nth h 0 = traceV m := by
  unfold charV at e
  split at e
  · rename_i hm
    simp only [Option.some.injEq] at e
    subst e
    obtain ⟨q1, q2, q3⟩ := sqB_bd hm
    refine ⟨chTo_len _ _, by rw [chTo_len]; omega, ?_⟩
    have h0 : nth (chTo m m.length) 0 = chC m 0 := by simp [nth, chTo, List.getD, show 0 < m.length by omega]
    have hp : (prod m (idM m.length)).length = m.length := prodTo_len _ _ _
    have hd : diag (prod m (chP m 0)) = diag m := by
      show diagTo (prod m (idM m.length)) (prod m (idM m.length)).length = diagTo m m.length
      rw [hp, diag_id hm _ (Nat.le_refl _)]
    have hb := diagTo_bd hm m.length (Nat.le_refl _)
    rw [h0, traceV, if_pos (sqB_up hm), chC, quoV, hd]
    show wrap64 ((diagTo m m.length).tdiv 1) = diagTo m m.length
    rw [Int.tdiv_one]
    simp only [wrap64]; omega
  · cases e
/-! ### extended lists -/
theorem nth_app {l m : List Int} {k : Nat} (h : k < l.length) : nth (l ++ m) k = nth l k := by simp [nth, List.getD, List.getElem?_append_left h]
theorem extTo_nth (l c : List Int) {i : Nat} : ∀ {k q : Nat}, k ≤ q → i < l.length + k → nth (extTo l c q) i = nth (extTo l c k) i
  | k, 0, h, _ => by have : k = 0 := by omega
                     subst this; rfl
  | k, q + 1, h, hi => by
    by_cases e : k = q + 1
    · subst e; rfl
    · rw [extTo_succ, nth_app (by rw [extTo_len]; omega), extTo_nth l c (k := k) (q := q) (by omega) hi]
theorem dotTo_congr {l l' c : List Int} {m : Nat} : ∀ k, k ≤ m → (∀ i, i < m → nth l i = nth l' i) → dotTo l c m k = dotTo l' c m k
  | 0, _, _ => rfl
  | k + 1, hk, h => by rw [dotTo_succ, dotTo_succ, dotTo_congr k (by omega) h, h (m - 1 - k) (by omega)]
theorem ext_rec {l c : List Int} {n : Int} {y : List Int} (h : extV l c n = some y) : (y.length : Int) = l.length + n ∧ (isRecB l c = true → isRecB y c = true) := by
  unfold extV at h
  split at h
  · rename_i hc
    simp only [Bool.and_eq_true, preB, btw_iff, decide_eq_true_eq] at hc
    obtain ⟨⟨⟨⟨⟨⟨h1, h2⟩, h3⟩, h4⟩, h5⟩, h6⟩, hall⟩ := hc
    simp only [Option.some.injEq] at h
    subst h
    have hlen := extTo_len l c n.toNat
    refine ⟨by rw [hlen]; omega, fun hr => ?_⟩
    simp only [isRecB, Bool.and_eq_true, decide_eq_true_eq] at hr ⊢
    obtain ⟨⟨⟨⟨r1, r2⟩, r3⟩, r4⟩, r5⟩ := hr
    refine ⟨⟨⟨⟨r1, r2⟩, by rw [hlen]; omega⟩, ?_⟩, ?_⟩
    · -- all numbers fine
      unfold numsB
      rw [allTo_true]
      intro i hi
      rw [hlen] at hi
      by_cases e : i < l.length
      · rw [extTo_nth l c (k := 0) (Nat.zero_le _) (by omega)]
        exact allTo_true.1 h3 i e
      · obtain ⟨k, rfl⟩ : ∃ k, i = l.length + k := ⟨i - l.length, by omega⟩
        have hk : k < n.toNat := by omega
        have := allTo_true.1 hall k hk
        rw [extTo_nth l c (k := k + 1) (by omega) (by omega), extTo_succ]
        have e2 : nth (extTo l c k ++ [nxt c (extTo l c k)]) (l.length + k) = nxt c (extTo l c k) := by
          rw [← extTo_len l c k]; simp [nth, List.getD]
        rw [e2]; exact this
    · unfold recB
      rw [allTo_true]
      intro j hj
      rw [hlen] at hj
      rw [beq_iff_eq]
      by_cases e : c.length + j < l.length
      · have h5 := allTo_true.1 r5 j (by omega)
        rw [beq_iff_eq] at h5
        rw [extTo_nth l c (k := 0) (Nat.zero_le _) (by omega)]
        show _ = nth l (c.length + j)
        rw [← h5]
        exact dotTo_congr _ (by omega) fun i hi => extTo_nth l c (k := 0) (Nat.zero_le _) (by omega)
      · obtain ⟨k, hk⟩ : ∃ k, c.length + j = l.length + k := ⟨c.length + j - l.length, by omega⟩
        rw [hk, extTo_nth l c (i := l.length + k) (k := k + 1) (by omega) (by omega), extTo_succ]
        have e2 : nth (extTo l c k ++ [nxt c (extTo l c k)]) (l.length + k) = nxt c (extTo l c k) := by
          rw [← extTo_len l c k]; simp [nth, List.getD]
        rw [e2, nxt, extTo_len]
        exact dotTo_congr _ (by omega) fun i hi => extTo_nth l c (k := k) (by omega) (by omega)
  · cases h
/-! ### the shortest -/
theorem firstTo_some {α : Type} {g : Nat → Option α} {x : α} : ∀ n, firstTo g n = some x → ∃ k, k < n ∧ g k = some x
  | 0, h => by simp [firstTo] at h
  | n + 1, h => by
    rw [firstTo] at h
    cases hf : firstTo g n with
    | none => rw [hf] at h; exact ⟨n, by omega, by simpa using h⟩
    | some y =>
      rw [hf] at h
      obtain ⟨k, hk, e⟩ := firstTo_some n hf
      have : y = x := by simpa using h
      subst this
      exact ⟨k, by omega, e⟩
theorem digs_bd : ∀ (n code k : Nat), k < n → -4 ≤ nth (digs n code) k ∧ nth (digs n code) k ≤ 4
  | 0, _, _, h => by omega
  | n + 1, code, 0, _ => by
    have := Nat.mod_lt (code / 9 ^ n) (show 9 > 0 by omega)
    show -4 ≤ ((code / 9 ^ n % 9 : Nat) : Int) - 4 ∧ ((code / 9 ^ n % 9 : Nat) : Int) - 4 ≤ 4
    omega
  | n + 1, code, k + 1, h => digs_bd n code k (by omega)
theorem short_rec {l : List Int} {most : Int} {f : List Int} (h : shortV l most = some f) : isRecB l f = true ∧ (f.length : Int) ≤ most := by
  unfold shortV at h
  split at h
  · rename_i hc
    simp only [Bool.and_eq_true, fineB, btw_iff, decide_eq_true_eq] at hc
    obtain ⟨i, hi, e⟩ := firstTo_some _ h
    unfold levelV at e
    split at e
    · rw [recOf_codes] at e
      obtain ⟨q, hq, e2⟩ := firstTo_some _ e
      simp only [List.nil_append] at e2
      split at e2
      · rename_i hr
        simp only [Option.some.injEq] at e2
        subst e2
        refine ⟨?_, by rw [digs_len]; omega⟩
        simp only [isRecB, Bool.and_eq_true, decide_eq_true_eq, btw_iff, digs_len]
        refine ⟨⟨⟨⟨⟨by omega, by omega⟩, ?_⟩, hc.1.2⟩, hc.1.1⟩, hr⟩
        unfold numsB
        rw [allTo_true]
        intro k hk
        rw [digs_len] at hk
        have := digs_bd (i + 1) q k hk
        exact btw_iff.2 (by omega)
      · cases e2
    · cases e
  · cases h
/-! ### the strips' recurrences -/
theorem seq_tab {wd : Nat} (h1 : 1 ≤ wd) (h4 : wd < 5) : seqTo wd 17 = (List.range 17).map fun j => nth (stT wd j) 0 := by
  unfold seqTo
  refine List.map_congr_left fun j hj => ?_
  have hj := List.mem_range.1 hj
  have := stT_all h1 h4 j (by omega)
  rw [← this, tab_nth _ (by unfold shlN; have := Nat.two_pow_pos wd; omega)]
theorem strip_table : ∀ wd, wd < 4 → 1 ≤ wd → isRecB ((List.range 17).map fun j => nth (stT wd j) 0) ((charV (matTo wd (shlN 1 wd))).getD []) = true := by decide +kernel
theorem strip_rec {wd : Int} {d : List Int} (h : recV wd = some d) : isRecB (seqV wd 16) d = true := by
  unfold recV at h
  split at h
  · rename_i hb
    rw [btw_iff] at hb
    obtain ⟨W, rfl⟩ : ∃ W : Nat, wd = W := ⟨wd.toNat, by omega⟩
    simp only [Int.toNat_natCast] at h
    have := strip_table W (by omega) (by omega)
    rw [h] at this
    have e : seqV (W : Int) 16 = seqTo W 17 := by
      have hok : okW (W : Int) 16 = true := by simp only [okW, Bool.and_eq_true, btw_iff]; omega
      rw [seqV, if_pos hok]; rfl
    rw [e, seq_tab (by omega) (by omega)]
    exact this
  · cases h
end
section
open Go.ChangeShapes Go.WideShapes Go.ChangeAt Go.RowKit
/-- a matrix of the width n that lies in w: addresses and cells -/
def MatF (n N : Nat) (w : World) (a : Option Addr) (cap : Nat) : Prop :=
  ∃ b o, ∀ k, k < N → Old w b ∧ (∀ w', (Instr.indexAt 43 (.slice a N cap) (.int .i64 k)).run Tryd.prog w' = .ok (.pointer (some ⟨b, o + k, none⟩)) w') ∧
    ∃ a2 b2 o2 cap2, w.cell? ⟨b, o + k, none⟩ = some (.slice a2 N cap2) ∧ ∀ j, j < N → Old w b2 ∧ (∀ w', (Instr.indexAt 22 (.slice a2 N cap2) (.int .i64 j)).run Tryd.prog w' = .ok (.pointer (some ⟨b2, o2 + j, none⟩)) w') ∧ w.cell? ⟨b2, o2 + j, none⟩ = some (.int .i64 (dW n k j))
theorem matTo_rAt' (wd n k : Nat) (h : k < n) : rAt (matTo wd n) k = waysTo wd k := by simp [rAt, matTo, List.getD, h]
theorem specMat_yes (n N : Nat) (h1 : 1 ≤ n) (h4 : n ≤ 4) (hN : N = shlN 1 n) (w : World) :
    Calls Tryd.prog 42 #[.int .i64 n] w fun e w' => ∃ a cap, e = .returned (.tuple #[.slice a N cap, .bool true]) ∧ (∃ x, w' = ext w x) ∧ MatF n N w' a cap := by
  refine (specMat_any n w).mono ?_
  rintro e w' ⟨v', vs, he, hl, H⟩
  have hb : btw (n : Int) 1 4 = true := btw_iff.2 ⟨by omega, by omega⟩
  rw [matV_yes hb] at he hl H
  simp only [Option.getD_some, Option.isSome_some] at he hl H
  rw [← hN] at hl H
  have R := Held.rows (L := []) (by rw [List.append_nil]; exact H) hl
  obtain ⟨a, b, o, cap, us, hv, c1, c2, c3, hc⟩ := R.opn
  rw [matTo_len] at hv hc c1 c2
  subst hv
  refine ⟨a, cap, he, ext_of H.bel, b, o, fun k hk => ?_⟩
  obtain ⟨g1, g2, g3, g4⟩ := hc k hk
  obtain ⟨a2, b2, o2, cap2, e2, d1, d2, d3, hd⟩ := g4.opn
  rw [matTo_rAt' _ _ _ hk, waysTo_len, ← shl_pow, ← hN] at e2 hd
  refine ⟨g1, g2, a2, b2, o2, cap2, by rw [g3, e2], fun j hj => ?_⟩
  obtain ⟨q1, q2, q3⟩ := hd j hj
  exact ⟨q1, q2, q3⟩
theorem specMat_no (wd : Int) (h : btw wd 1 4 = false) (w : World) :
    Calls Tryd.prog 42 #[.int .i64 wd] w fun e w' => ∃ v, e = .returned (.tuple #[v, .bool false]) ∧ ∃ x, w' = ext w x := by
  refine (specMat_any wd w).mono ?_
  rintro e w' ⟨v', vs, he, hl, H⟩
  rw [matV_no h] at he
  exact ⟨v', he, ext_of H.bel⟩
set_option maxHeartbeats 4000000 in
set_option maxRecDepth 100000 in
theorem specSeq_any (wd n : Int) (w : World) : Calls Tryd.prog 16 #[.int .i64 wd, .int .i64 n] w (IntsPost w (seqV wd n)) := by
  cases h1 : btw wd 1 4
  · have HF := Lib.hid (seqV_no (okW_w (n := n) h1))
    have H1 := Lib.hid h1
    clear h1
    go_enter Tryd.func16, Tryd.ntmps16
    go_wp2_with (first | (go_at_call 42; refine (specMat_no _ H1.out _).mono ?_; rintro e w' ⟨vm, rfl, xe, rfl⟩; have H := ((Held.start w).ext xe).empty 3 1))
    go_ret
    exact .empty HF.out (H.to (by repeat (first | exact ext_refl _ | (with_reducible assumption) | refine ext_ext' ?_ _ | refine ext_alloc' ?_ _ | refine ext_drew' ?_)))
  obtain ⟨b1, b2⟩ := btw_iff.1 h1
  obtain ⟨W, rfl⟩ : ∃ W : Nat, wd = W := ⟨wd.toNat, by omega⟩
  have bw1 : 1 ≤ W := by omega
  have bw2 : W ≤ 4 := by omega
  obtain ⟨N, hN⟩ : ∃ N, N = shlN 1 W := ⟨_, rfl⟩
  cases h2 : btw n 0 16
  · have HF := Lib.hid (seqV_no (okW_n (wd := W) h2))
    have HN := Lib.hid hN
    clear hN h1
    go_enter Tryd.func16, Tryd.ntmps16
    go_wp2_with (first | (go_at_call 42; refine (specMat_yes _ N bw1 bw2 HN.out _).mono ?_; rintro e w' ⟨am, cm, rfl, ⟨xe, rfl⟩, hm⟩; have H := ((Held.start w).ext xe).empty 3 1; clear hm) | (go_at_call 46; refine (l1In_b _ _ _ _ h2 _).mono ?_; rintro e w' ⟨rfl, xe, rfl⟩))
    go_ret
    exact .empty HF.out (H.to (by repeat (first | exact ext_refl _ | (with_reducible assumption) | refine ext_ext' ?_ _ | refine ext_alloc' ?_ _ | refine ext_drew' ?_)))
  obtain ⟨W', m, hW, rfl, _, _, b3⟩ := okW_nat (okW_y h1 h2)
  have HF := Lib.hid (seqV_yes (okW_y h1 h2))
  have hlen := shl6 (wd := W) (by omega)
  have hpos := shl_pos W
  rw [← hN] at hlen hpos
  have HN := Lib.hid hN
  clear hN h1 hW
  go_enter Tryd.func16, Tryd.ntmps16
  go_wp2_with (first | (go_at_call 42; refine (specMat_yes _ N bw1 bw2 HN.out _).mono ?_; rintro e w' ⟨am, cm, rfl, hx, hm⟩; have HB := Lib.hid (bel_of_ext hx); have HM := Lib.hid hm; have H := (Held.start w').empty 3 1; clear hx hm) | (go_at_call 46; refine (l1In_b _ _ _ _ h2 _).mono ?_; rintro e w' ⟨rfl, xe, rfl⟩) | (at_make; refine wpList_make_held rfl _ _ _ rfl elemInt (H.to (by repeat (first | exact ext_refl _ | (with_reducible assumption) | refine ext_ext' ?_ _ | refine ext_alloc' ?_ _ | refine ext_drew' ?_))) .i64 .i64 _ _ N rfl rfl rfl rfl (by omega) (by unfold maxLen; omega) ?_; intro w1 H1; have H := H1.zeros; clear H1; obtain ⟨k1, k2⟩ := H.cellRow hpos; have HH := Lib.hid (H.storeRow 0 1); clear H))
  go_loopw [7, 8, 9] (fun u7 u8 i wr => ∃ (r : Value) (g k : Nat), r = u7 ∧ u8 = .slice (some ⟨g, 0, none⟩) N N ∧ k ≤ m + 1 ∧ i = .int .i64 k ∧ Held w' wr [rowI r (seqTo W k), rowT g N (ssN W k)]) (fun _ _ i _ => m + 1 - (intOf i).toNat)
  case atStart => exact ⟨_, _, 0, rfl, rfl, Nat.zero_le _, rfl, HH.out.swap⟩
  case round =>
    clear HH k1 k2 H
    obtain ⟨r, g, k, rfl, rfl, hk, rfl, H⟩ := hrel
    by_cases hlt : k < m + 1
    · have hle : decide ((k : Int) ≤ m) = true := decide_eq_true (by omega)
      obtain ⟨k1, k2⟩ := H.swap.cellRow hpos
      clear k2
      go_wp2_with (first | (at_builtin; refine wpList_append_held (m := 1) rfl _ _ _ rfl elemInt (H.to (by repeat (first | exact ext_refl _ | (with_reducible assumption) | refine ext_ext' ?_ _ | refine ext_alloc' ?_ _ | refine ext_drew' ?_))) rfl rfl (Sl_new1 _ _ _) (one_lit _) (by rw [seqTo_len]; unfold maxLen; omega) (by rw [seqTo_len]; omega) ?_; intro v2 w2 H2; have H2 := H2.snoc; clear k1) | (at_make; refine wpList_make_held rfl _ _ _ rfl elemInt H2 .i64 .i64 _ _ N rfl rfl rfl rfl (by omega) (by unfold maxLen; omega) ?_; intro w3 H3))
      have H4 := H3.zeros
      clear H3 H2 H
      generalize w2.heap.size = g2 at H4 ⊢
      go_loopw [11] (fun i wr2 => ∃ a : Nat, a ≤ N ∧ i = .int .i64 a ∧ Held w' wr2 [rowT g2 N (ssA W (ssN W k) a), rowI v2 (seqTo W k ++ [ssN W k 0]), rowT g N (ssN W k)]) (fun i _ => N - (intOf i).toNat)
      case atStart => exact ⟨0, Nat.zero_le _, rfl, H4⟩
      case round =>
        clear H4
        obtain ⟨a, ha, rfl, H⟩ := hrel
        by_cases hlt2 : a < N
        · go_wp2_with fail
          go_loopw [12] (fun i wr3 => ∃ b : Nat, b ≤ N ∧ i = .int .i64 b ∧ Held w' wr3 [rowT g2 N (ssB W (ssN W k a) a (ssA W (ssN W k) a) b), rowI v2 (seqTo W k ++ [ssN W k 0]), rowT g N (ssN W k)]) (fun i _ => N - (intOf i).toNat)
          case atStart => exact ⟨0, Nat.zero_le _, rfl, H⟩
          case round =>
            clear H
            obtain ⟨b, hb, rfl, H⟩ := hrel
            by_cases hlt3 : b < N
            · obtain ⟨bm, om, hM⟩ := HM.out
              obtain ⟨m1, m2, a2, b2, o2, cap2, m3, hM2⟩ := hM a hlt2
              obtain ⟨m4, m5, m6⟩ := hM2 b hlt3
              have k1 := H.cellO m1 m3
              have k2 := H.cellO m4 m6
              obtain ⟨k3, k4⟩ := (H.pull 2 rfl).cellRow hlt2
              obtain ⟨k5, k6⟩ := H.cellRow hlt3
              clear hM hM2 k4 m3 m6
              go_wp2_with fail
              go_still_tail 20, (by kernel_rfl)
              change wpList _ _ _ _ _ wr.drew
              have H2 := H.to (w' := wr.drew) (by repeat (first | exact ext_refl _ | (with_reducible assumption) | refine ext_ext' ?_ _ | refine ext_alloc' ?_ _ | refine ext_drew' ?_))
              clear k1 k2 k3 k5 k6 H
              generalize wr.drew = w4 at H2 ⊢
              obtain ⟨k5, k6⟩ := H2.cellRow hlt3
              have H3 := Lib.hid fun x => H2.storeRow b x
              clear H2
              go_wp2_with fail
              go_roundw
              case rel => exact ⟨b + 1, hlt3, int_succ b, by rw [ssB_succ]; exact H3.out _⟩
              case measure => simp [intOf]; omega
            · rw [show b = N by omega] at H
              have HH := Lib.hid H
              clear H
              go_wp2_with fail
              go_roundw
              case rel => exact ⟨a + 1, hlt2, int_succ a, by rw [ssA_succ, ← HN.out]; exact HH.out⟩
              case measure => simp [intOf]; omega
        · rw [show a = N by omega] at H
          have HH := Lib.hid (H.pull 2 rfl).drop
          clear H
          go_wp2_with fail
          go_roundw
          case rel => exact ⟨v2, g2, k + 1, rfl, rfl, hlt, int_succ k, by rw [seqTo_succ, ssN_succ, ← HN.out]; exact HH.out.swap⟩
          case measure => simp [intOf]; omega
    · have hle : decide ((k : Int) ≤ m) = false := decide_eq_false (by omega)
      rw [show k = m + 1 by omega] at H
      have HH := Lib.hid (Held.base HB.out H)
      clear H
      go_wp2_with fail
      go_ret
      exact .got HF.out HH.out
end
end Go.Proofs.YtchcepihmphdmaaDoor
