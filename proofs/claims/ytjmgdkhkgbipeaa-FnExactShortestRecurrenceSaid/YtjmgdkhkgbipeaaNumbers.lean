/- areNumbers, l12Fine, isCoefficients. -/
import Derived.Test.YtjmgdkhkgbipeaaRows
import Derived.WalkKit
import Derived.ProofKit
import Derived.OpenShut
import Derived.BigQuiet
import Derived.Lib.Hide
import Derived.Deep.QuietTactic
import Derived.Outline
import Derived.Test.YtjmgdkhkgbipeaaInts
import Derived.Test.YtjmgdkhkgbipeaaBetween
namespace Go.Proofs.Ytjmgdkhkgbipeaa
open Go.ChangeShapes Go.WideShapes Go.ChangeAt Go.RowKit
set_option linter.unusedVariables false
def numB (x : Int) : Bool := btw x (-1000000000) 1000000000
def numsB (xs : List Int) : Bool := allTo (fun k => numB (nth xs k)) xs.length
theorem areNumbers_any (xs : List Int) (v : Value) (w : World) (h : IntsAt w v xs) :
    Calls Try.prog 55 #[v] w fun e w' => e = .returned (.bool (numsB xs)) ∧ ∃ x, w' = ext w x := by
  obtain ⟨a, b, o, cap, rfl, hc1, hc2, hc3, hcell⟩ := h.opn
  go_enter Try.func55, Try.ntmps55
  go_wp2_with fail
  go_loopw [4, 7] (fun x i wr => ∃ k : Nat, k ≤ xs.length ∧ i = .int .i64 k ∧ allTo (fun k => numB (nth xs k)) k = true ∧ ∃ x, wr = ext w x) (fun x i _ => xs.length - (intOf i).toNat)
  case atStart => exact ⟨0, Nat.zero_le _, rfl, rfl, ext_refl _⟩
  case round =>
    obtain ⟨k, hk, rfl, hall, x, rfl⟩ := hrel
    have hall' := Lib.hid hall
    clear hall
    by_cases hlt : k < xs.length
    · obtain ⟨hb, hi, hck⟩ := hcell k hlt
      clear hcell
      go_wp2_with (go_at_call 56; refine (between_any _ _ _ _).mono ?_; rintro e w' ⟨rfl, xe, rfl⟩)
      · go_ret
        exact ⟨ret_bool (allTo_false hlt (bool_not (by assumption))).symm, (by repeat (first | exact ext_refl _ | (with_reducible assumption) | refine ext_ext' ?_ _ | refine ext_alloc' ?_ _ | refine ext_drew' ?_))⟩
      · go_roundw
        case rel => exact ⟨k + 1, hlt, int_succ k, allTo_succ hall'.out (bool_not' (by assumption)), (by repeat (first | exact ext_refl _ | (with_reducible assumption) | refine ext_ext' ?_ _ | refine ext_alloc' ?_ _ | refine ext_drew' ?_))⟩
        case measure => simp [intOf]; omega
    · go_wp2_with fail
      go_ret
      obtain rfl : k = xs.length := by omega
      exact ⟨ret_bool hall'.out.symm, (by repeat (first | exact ext_refl _ | (with_reducible assumption) | refine ext_ext' ?_ _ | refine ext_alloc' ?_ _ | refine ext_drew' ?_))⟩
def coefB (c : List Int) : Bool := btw c.length 1 8 && numsB c
theorem isCoefficients_any (xs : List Int) (v : Value) (w : World) (h : IntsAt w v xs) :
    Calls Try.prog 54 #[v] w fun e w' => e = .returned (.bool (coefB xs)) ∧ ∃ x, w' = ext w x := by
  have h0 := h
  obtain ⟨a, b, o, cap, rfl, hc1, hc2, hc3, hcell⟩ := h.opn
  clear hcell
  have hx : coefB xs = (btw xs.length 1 8 && numsB xs) := rfl
  have hx' := Lib.hid hx
  clear hx
  cases hb : btw xs.length 1 8
  · go_enter Try.func54, Try.ntmps54
    go_wp2_with (first | (go_at_call 56; refine (between_b _ _ _ _ hb _).mono ?_; rintro e w' ⟨rfl, xe, rfl⟩))
    go_ret
    exact ⟨ret_bool (by rw [hx'.out, hb]; rfl), (by repeat (first | exact ext_refl _ | (with_reducible assumption) | refine ext_ext' ?_ _ | refine ext_alloc' ?_ _ | refine ext_drew' ?_))⟩
  · go_enter Try.func54, Try.ntmps54
    go_wp2_with (first | (go_at_call 56; refine (between_b _ _ _ _ hb _).mono ?_; rintro e w' ⟨rfl, xe, rfl⟩) | (go_at_call 55; refine (areNumbers_any xs _ _ (by first | (with_reducible assumption) | (with_reducible exact IntsAt.mono (by assumption) (bel_of_ext (by repeat (first | exact ext_refl _ | (with_reducible assumption) | refine ext_ext' ?_ _ | refine ext_alloc' ?_ _ | refine ext_drew' ?_)))))).mono ?_; rintro e w' ⟨rfl, xe, rfl⟩))
    go_ret
    exact ⟨ret_bool (by rw [hx'.out, hb]; rfl), (by repeat (first | exact ext_refl _ | (with_reducible assumption) | refine ext_ext' ?_ _ | refine ext_alloc' ?_ _ | refine ext_drew' ?_))⟩
def fineB (xs : List Int) : Bool := numsB xs && decide ((xs.length : Int) ≤ 40)
theorem l12Fine_any (xs : List Int) (v : Value) (w : World) (h : IntsAt w v xs) :
    Calls Try.prog 51 #[v] w fun e w' => e = .returned (.bool (fineB xs)) ∧ ∃ x, w' = ext w x := by
  obtain ⟨a, b, o, cap, rfl, hc1, hc2, hc3, hcell⟩ := h.opn
  go_enter Try.func51, Try.ntmps51
  go_wp2_with fail
  go_loopw [3] (fun i wr => ∃ k : Nat, k ≤ xs.length ∧ i = .int .i64 k ∧ allTo (fun k => numB (nth xs k)) k = true ∧ ∃ x, wr = ext w x) (fun i _ => xs.length - (intOf i).toNat)
  case atStart => exact ⟨0, Nat.zero_le _, rfl, rfl, ext_refl _⟩
  case round =>
    obtain ⟨k, hk, rfl, hall, x, rfl⟩ := hrel
    have hall' := Lib.hid hall
    clear hall
    by_cases hlt : k < xs.length
    · obtain ⟨hb, hi, hck⟩ := hcell k hlt
      clear hcell
      go_wp2_with (go_at_call 52; refine (l1In_any _ _ _ _).mono ?_; rintro e w' ⟨rfl, xe, rfl⟩)
      · go_ret
        refine ⟨ret_bool ?_, (by repeat (first | exact ext_refl _ | (with_reducible assumption) | refine ext_ext' ?_ _ | refine ext_alloc' ?_ _ | refine ext_drew' ?_))⟩
        have := allTo_false (p := fun k => numB (nth xs k)) hlt (bool_not (by assumption))
        simp [fineB, numsB, this]
      · go_roundw
        case rel => exact ⟨k + 1, hlt, int_succ k, allTo_succ hall'.out (bool_not' (by assumption)), (by repeat (first | exact ext_refl _ | (with_reducible assumption) | refine ext_ext' ?_ _ | refine ext_alloc' ?_ _ | refine ext_drew' ?_))⟩
        case measure => simp [intOf]; omega
    · go_wp2_with fail
      go_ret
      obtain rfl : k = xs.length := by omega
      refine ⟨ret_bool ?_, (by repeat (first | exact ext_refl _ | (with_reducible assumption) | refine ext_ext' ?_ _ | refine ext_alloc' ?_ _ | refine ext_drew' ?_))⟩
      show _ = (allTo (fun k => numB (nth xs k)) xs.length && _)
      rw [hall'.out]; rfl
end Go.Proofs.Ytjmgdkhkgbipeaa
