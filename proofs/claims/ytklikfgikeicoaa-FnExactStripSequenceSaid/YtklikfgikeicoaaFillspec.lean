/- l11Fill of the reference; the matrix of a width; it is the program's. -/
import Derived.Test.YtklikfgikeicoaaRows
import Derived.WalkKit
import Derived.ProofKit
import Derived.OpenShut
import Derived.BigQuiet
import Derived.Lib.Hide
import Derived.Deep.QuietTactic
import Derived.Outline
import Derived.Test.YtklikfgikeicoaaWays
import Derived.Test.YtklikfgikeicoaaBetween
namespace Go.Proofs.Ytklikfgikeicoaa
open Go.ChangeShapes Go.WideShapes Go.ChangeAt Go.RowKit
set_option linter.unusedVariables false
def fillS (w full out : Nat) : Nat → Int
  | 0 => 1
  | 1 => if full.testBit (w - 1) then (if out.testBit (w - 1) then 0 else 1) else if out.testBit (w - 1) then 1 else 0
  | r + 2 =>
    if full.testBit (w - (r + 2)) then (if out.testBit (w - (r + 2)) then 0 else fillS w full out (r + 1))
    else if out.testBit (w - (r + 2)) then fillS w full out (r + 1)
    else if full.testBit (w - (r + 2) + 1) then 0 else if out.testBit (w - (r + 2) + 1) then 0 else fillS w full out r
theorem fillS_ff {w full out r x : Nat} (hx : w - (r + 1) = x) (h : full.testBit x = true) (h2 : out.testBit x = true) : fillS w full out (r + 1) = 0 := by
  subst hx; cases r <;> simp [fillS, h, h2]
theorem fillS_f {w full out r x : Nat} (hx : w - (r + 1) = x) (h : full.testBit x = true) (h2 : out.testBit x = false) : fillS w full out (r + 1) = fillS w full out r := by
  subst hx; cases r <;> simp [fillS, h, h2]
theorem fillS_o {w full out r x : Nat} (hx : w - (r + 1) = x) (h : full.testBit x = false) (h2 : out.testBit x = true) : fillS w full out (r + 1) = fillS w full out r := by
  subst hx; cases r <;> simp [fillS, h, h2]
theorem fillS_one {w full out x : Nat} (hx : w - (0 + 1) = x) (h : full.testBit x = false) (h2 : out.testBit x = false) : fillS w full out (0 + 1) = 0 := by
  subst hx; simp [fillS, h, h2]
theorem fillS_no {w full out r x : Nat} (hx : w - (r + 1 + 1) = x) (h : full.testBit x = false) (h2 : out.testBit x = false) (h3 : full.testBit (x + 1) = true) : fillS w full out (r + 1 + 1) = 0 := by
  subst hx; simp [fillS, h, h2, h3]
theorem fillS_no2 {w full out r x : Nat} (hx : w - (r + 1 + 1) = x) (h : full.testBit x = false) (h2 : out.testBit x = false) (h4 : out.testBit (x + 1) = true) : fillS w full out (r + 1 + 1) = 0 := by
  subst hx; simp [fillS, h, h2, h4]
theorem fillS_two {w full out r x : Nat} (hx : w - (r + 1 + 1) = x) (h : full.testBit x = false) (h2 : out.testBit x = false) (h3 : full.testBit (x + 1) = false) (h4 : out.testBit (x + 1) = false) : fillS w full out (r + 1 + 1) = fillS w full out r := by
  subst hx; simp [fillS, h, h2, h3, h4]
theorem l11_next {x : Nat} {w u d : Value} {W : World} {Q : Ending → World → Prop} (h : Calls Try.prog 30 #[w, .int .i64 ((x + 1 : Nat) : Int), u, d] W Q) : Calls Try.prog 30 #[w, .int .i64 ((x : Int) + 1), u, d] W Q := h
theorem l11_next2 {x : Nat} {w u d : Value} {W : World} {Q : Ending → World → Prop} (h : Calls Try.prog 30 #[w, .int .i64 ((x + 2 : Nat) : Int), u, d] W Q) : Calls Try.prog 30 #[w, .int .i64 ((x : Int) + 2), u, d] W Q := h
set_option maxHeartbeats 2000000 in
theorem l11Fill_any (wd full out : Nat) [Lt63 full] [Lt63 out] (hw : wd ≤ 6) : ∀ (r x : Nat) (w : World), x + r = wd →
    Calls Try.prog 30 #[.int .i64 wd, .int .i64 x, .int .i64 full, .int .i64 out] w fun e w' => e = .returned (.int .i64 (fillS wd full out r)) ∧ ∃ x, w' = ext w x := by
  intro r
  induction r using Nat.strongRecOn with
  | ind r ih =>
    intro x w hx
    cases r with
    | zero =>
      obtain rfl : x = wd := by omega
      go_enter Try.func30, Try.ntmps30
      go_wp2_with fail
      go_ret
      exact ⟨rfl, (by repeat (first | exact ext_refl _ | (with_reducible assumption) | refine ext_ext' ?_ _ | refine ext_alloc' ?_ _ | refine ext_drew' ?_))⟩
    | succ r =>
      have hlt : x < wd := by omega
      have hx6 : x ≤ 6 := by omega
      have hne : ((x : Int) == wd) = false := beq_eq_false_iff_ne.2 (by omega)
      have hbt := bit_test full x
      have hbo := bit_test out x
      haveI : Le64 x := ⟨by omega⟩
      haveI : Le64 (x + 1) := ⟨by omega⟩
      have hX : wd - (r + 1) = x := by omega
      have IH := Lib.hid fun w => l11_next (ih r (by omega) (x + 1) w (by omega))
      have IH2 := Lib.hid fun (s : Nat) (hs : r = s + 1) w => l11_next2 (ih s (by omega) (x + 2) w (by omega))
      cases hf : full.testBit x
      all_goals
        cases ho : out.testBit x
        all_goals
          rw [hf] at hbt
          rw [ho] at hbo
      · cases r with
        | zero =>
          have hx1 : decide ((x : Int) + 1 < wd) = false := decide_eq_false (by omega)
          have HF := Lib.hid (fillS_one hX hf ho)
          clear hf ho hX hx
          go_enter Try.func30, Try.ntmps30
          go_wp2_with fail
          go_ret
          exact ⟨ret_int HF.out.symm, (by repeat (first | exact ext_refl _ | (with_reducible assumption) | refine ext_ext' ?_ _ | refine ext_alloc' ?_ _ | refine ext_drew' ?_))⟩
        | succ r =>
          have hx1 : decide ((x : Int) + 1 < wd) = true := decide_eq_true (by omega)
          have hbt2 := bit_test0 full (x + 1)
          have hbo2 := bit_test0 out (x + 1)
          cases hf2 : full.testBit (x + 1)
          · rw [hf2] at hbt2
            cases ho2 : out.testBit (x + 1)
            · rw [ho2] at hbo2
              have HF := Lib.hid (fillS_two hX hf ho hf2 ho2)
              clear hf ho hX hx hf2 ho2
              go_enter Try.func30, Try.ntmps30
              go_wp2_with (first | (go_at_call 30; refine (IH2.out r rfl _).mono ?_; rintro e w' ⟨rfl, xe, rfl⟩))
              go_ret
              exact ⟨ret_int HF.out.symm, (by repeat (first | exact ext_refl _ | (with_reducible assumption) | refine ext_ext' ?_ _ | refine ext_alloc' ?_ _ | refine ext_drew' ?_))⟩
            · rw [ho2] at hbo2
              have HF := Lib.hid (fillS_no2 hX hf ho ho2)
              clear hf ho hX hx hf2 ho2
              go_enter Try.func30, Try.ntmps30
              go_wp2_with fail
              go_ret
              exact ⟨ret_int HF.out.symm, (by repeat (first | exact ext_refl _ | (with_reducible assumption) | refine ext_ext' ?_ _ | refine ext_alloc' ?_ _ | refine ext_drew' ?_))⟩
          · rw [hf2] at hbt2
            have HF := Lib.hid (fillS_no hX hf ho hf2)
            clear hf ho hX hx hf2
            go_enter Try.func30, Try.ntmps30
            go_wp2_with fail
            go_ret
            exact ⟨ret_int HF.out.symm, (by repeat (first | exact ext_refl _ | (with_reducible assumption) | refine ext_ext' ?_ _ | refine ext_alloc' ?_ _ | refine ext_drew' ?_))⟩
      · have HF := Lib.hid (fillS_o hX hf ho)
        clear hf ho hX hx
        go_enter Try.func30, Try.ntmps30
        go_wp2_with (first | (go_at_call 30; refine (IH.out _).mono ?_; rintro e w' ⟨rfl, xe, rfl⟩))
        go_ret
        exact ⟨ret_int HF.out.symm, (by repeat (first | exact ext_refl _ | (with_reducible assumption) | refine ext_ext' ?_ _ | refine ext_alloc' ?_ _ | refine ext_drew' ?_))⟩
      · have HF := Lib.hid (fillS_f hX hf ho)
        clear hf ho hX hx
        go_enter Try.func30, Try.ntmps30
        go_wp2_with (first | (go_at_call 30; refine (IH.out _).mono ?_; rintro e w' ⟨rfl, xe, rfl⟩))
        go_ret
        exact ⟨ret_int HF.out.symm, (by repeat (first | exact ext_refl _ | (with_reducible assumption) | refine ext_ext' ?_ _ | refine ext_alloc' ?_ _ | refine ext_drew' ?_))⟩
      · have HF := Lib.hid (fillS_ff hX hf ho)
        clear hf ho hX hx
        go_enter Try.func30, Try.ntmps30
        go_wp2_with fail
        go_ret
        exact ⟨ret_int HF.out.symm, (by repeat (first | exact ext_refl _ | (with_reducible assumption) | refine ext_ext' ?_ _ | refine ext_alloc' ?_ _ | refine ext_drew' ?_))⟩
theorem l11Fill_top (wd full out : Nat) [Lt63 full] [Lt63 out] (hw : wd ≤ 6) (w : World) :
    Calls Try.prog 30 #[.int .i64 wd, .int .i64 0, .int .i64 full, .int .i64 out] w fun e w' => e = .returned (.int .i64 (fillS wd full out wd)) ∧ ∃ x, w' = ext w x := l11Fill_any wd full out hw wd 0 w (by omega)
def rowS (wd a : Nat) : List Int := (List.range (2 ^ wd)).map fun b => fillS wd a b wd
theorem ways_eq : ∀ wd, wd < 5 → ∀ a, a < 2 ^ wd → waysTo wd a = rowS wd a := by decide +kernel
end Go.Proofs.Ytklikfgikeicoaa
