/- Whether a region has a cell; of the program and of the reference. -/
import Derived.Test.YtncmnmbapalonaaGreatRows
import Derived.WalkKit
import Derived.ProofKit
import Derived.OpenShut
import Derived.BigQuiet
import Derived.Lib.Hide
import Derived.Deep.QuietTactic
import Derived.Outline
import Derived.Test.YtncmnmbapalonaaGreatMask
namespace Go.Proofs.YtncmnmbapalonaaGreat
open Go.ChangeShapes Go.WideShapes Go.ChangeAt Go.RowKit
set_option linter.unusedVariables false
def hasB (W : Nat) (rows : List Int) (x y : Int) : Bool := btw x 0 ((W : Int) - 1) && (btw y 0 ((rows.length : Int) - 1) && (rowN rows y.toNat).testBit x.toNat)
theorem hasB_x {W : Nat} {rows : List Int} {x y : Int} (h : btw x 0 ((W : Int) - 1) = false) : hasB W rows x y = false := by simp [hasB, h]
theorem hasB_y {W : Nat} {rows : List Int} {x y : Int} (h : btw y 0 ((rows.length : Int) - 1) = false) : hasB W rows x y = false := by simp [hasB, h]
theorem hasB_in {W : Nat} {rows : List Int} {x y : Nat} (h : btw x 0 ((W : Int) - 1) = true) (h2 : btw y 0 ((rows.length : Int) - 1) = true) : hasB W rows x y = (rowN rows y).testBit x := by simp [hasB, h, h2]
theorem hasB_at {W : Nat} {rows : List Int} {x y : Nat} (h : x < W) (h2 : y < rows.length) : hasB W rows x y = (rowN rows y).testBit x := hasB_in (btw_iff.2 ⟨by omega, by omega⟩) (btw_iff.2 ⟨by omega, by omega⟩)
theorem row_lt63 {W : Nat} {rows : List Int} {y : Nat} (hW : W ≤ 6) (h : rowN rows y < 2 ^ W) : Lt63 (rowN rows y) := ⟨by have := Nat.pow_le_pow_right (n := 2) (by omega) hW; omega⟩
set_option maxHeartbeats 1000000 in
theorem has_any (W : Nat) (rows : List Int) (x y : Int) (v : Value) (w : World) (h : IntsAt w v rows) (hr : regB W rows = true) :
    Calls Tryz.prog 67 #[.agg #[.int .i64 W, v], .int .i64 x, .int .i64 y] w fun e w' => e = .returned (.bool (hasB W rows x y)) ∧ ∃ x, w' = ext w x := by
  obtain ⟨a, b, o, cap, rfl, hc1, hc2, hc3, hcell⟩ := h.opn
  obtain ⟨W', hWW, hW1, hW2, hl1, hl2, hrow⟩ := regB_bd hr
  obtain rfl : W = W' := by omega
  cases h1 : btw x 0 ((W : Int) - 1)
  · have HF := Lib.hid (hasB_x (rows := rows) (y := y) h1)
    clear hcell hrow hr hWW
    go_enter Tryz.func67, Tryz.ntmps67
    go_wp2_with (first | (go_at_call 69; refine (between_b _ _ _ _ h1 _).mono ?_; rintro e w' ⟨rfl, xe, rfl⟩))
    go_ret
    exact ⟨ret_bool HF.out.symm, (by repeat (first | exact ext_refl _ | (with_reducible assumption) | refine ext_ext' ?_ _ | refine ext_alloc' ?_ _ | refine ext_drew' ?_))⟩
  cases h2 : btw y 0 ((rows.length : Int) - 1)
  · have HF := Lib.hid (hasB_y (W := W) (x := x) h2)
    clear hcell hrow hr hWW
    go_enter Tryz.func67, Tryz.ntmps67
    go_wp2_with (first | (go_at_call 69; refine (between_any _ _ _ _).mono ?_; rintro e w' ⟨rfl, xe, rfl⟩))
    go_ret
    exact ⟨ret_bool HF.out.symm, (by repeat (first | exact ext_refl _ | (with_reducible assumption) | refine ext_ext' ?_ _ | refine ext_alloc' ?_ _ | refine ext_drew' ?_))⟩
  obtain ⟨x1, x2⟩ := btw_iff.1 h1
  obtain ⟨y1, y2⟩ := btw_iff.1 h2
  obtain ⟨X, rfl⟩ : ∃ X : Nat, x = X := ⟨x.toNat, by omega⟩
  obtain ⟨Y, rfl⟩ : ∃ Y : Nat, y = Y := ⟨y.toNat, by omega⟩
  have HF := Lib.hid (hasB_in h1 h2)
  have hY : Y < rows.length := by omega
  obtain ⟨hb, hi, hck⟩ := hcell Y hY
  obtain ⟨e1, e2⟩ := hrow Y hY
  rw [e1] at hck
  haveI := row_lt63 hW2 e2
  haveI : Le64 X := ⟨by omega⟩
  clear hcell hrow hr hWW e1
  go_enter Tryz.func67, Tryz.ntmps67
  go_wp2_with (first | (go_at_call 69; refine (between_any _ _ _ _).mono ?_; rintro e w' ⟨rfl, xe, rfl⟩))
  go_ret
  exact ⟨ret_bool HF.out.symm, (by repeat (first | exact ext_refl _ | (with_reducible assumption) | refine ext_ext' ?_ _ | refine ext_alloc' ?_ _ | refine ext_drew' ?_))⟩
set_option maxHeartbeats 1000000 in
theorem l6In_any (W : Nat) (rows : List Int) (x y : Int) (v : Value) (w : World) (h : IntsAt w v rows) (hr : regB W rows = true) :
    Calls Tryz.prog 66 #[.agg #[.int .i64 W, v], .int .i64 x, .int .i64 y] w fun e w' => e = .returned (.bool (hasB W rows x y)) ∧ ∃ x, w' = ext w x := by
  obtain ⟨a, b, o, cap, rfl, hc1, hc2, hc3, hcell⟩ := h.opn
  obtain ⟨W', hWW, hW1, hW2, hl1, hl2, hrow⟩ := regB_bd hr
  obtain rfl : W = W' := by omega
  by_cases x1 : 0 ≤ x
  case neg =>
    have HF := Lib.hid (hasB_x (W := W) (rows := rows) (x := x) (y := y) (by simp [btw]; omega))
    have x1' : decide (0 ≤ x) = false := decide_eq_false x1
    clear hcell hrow hr hWW
    go_enter Tryz.func66, Tryz.ntmps66
    go_wp2_with fail
    go_ret
    exact ⟨ret_bool HF.out.symm, (by repeat (first | exact ext_refl _ | (with_reducible assumption) | refine ext_ext' ?_ _ | refine ext_alloc' ?_ _ | refine ext_drew' ?_))⟩
  by_cases y1 : 0 ≤ y
  case neg =>
    have HF := Lib.hid (hasB_y (W := W) (rows := rows) (x := x) (y := y) (by simp [btw]; omega))
    have y1' : decide (0 ≤ y) = false := decide_eq_false y1
    clear hcell hrow hr hWW
    go_enter Tryz.func66, Tryz.ntmps66
    go_wp2_with fail
    go_ret
    exact ⟨ret_bool HF.out.symm, (by repeat (first | exact ext_refl _ | (with_reducible assumption) | refine ext_ext' ?_ _ | refine ext_alloc' ?_ _ | refine ext_drew' ?_))⟩
  obtain ⟨X, rfl⟩ : ∃ X : Nat, x = X := ⟨x.toNat, by omega⟩
  obtain ⟨Y, rfl⟩ : ∃ Y : Nat, y = Y := ⟨y.toNat, by omega⟩
  by_cases x2 : X < W
  case neg =>
    have HF := Lib.hid (hasB_x (W := W) (rows := rows) (x := X) (y := Y) (by simp [btw]; omega))
    have x2' : W ≤ X := by omega
    clear hcell hrow hr hWW
    go_enter Tryz.func66, Tryz.ntmps66
    go_wp2_with fail
    go_ret
    exact ⟨ret_bool HF.out.symm, (by repeat (first | exact ext_refl _ | (with_reducible assumption) | refine ext_ext' ?_ _ | refine ext_alloc' ?_ _ | refine ext_drew' ?_))⟩
  by_cases y2 : Y < rows.length
  case neg =>
    have HF := Lib.hid (hasB_y (W := W) (rows := rows) (x := X) (y := Y) (by simp [btw]; omega))
    have y2' : rows.length ≤ Y := by omega
    clear hcell hrow hr hWW
    go_enter Tryz.func66, Tryz.ntmps66
    go_wp2_with fail
    go_ret
    exact ⟨ret_bool HF.out.symm, (by repeat (first | exact ext_refl _ | (with_reducible assumption) | refine ext_ext' ?_ _ | refine ext_alloc' ?_ _ | refine ext_drew' ?_))⟩
  have HF := Lib.hid (hasB_at x2 y2)
  obtain ⟨hb, hi, hck⟩ := hcell Y y2
  obtain ⟨e1, e2⟩ := hrow Y y2
  rw [e1] at hck
  haveI := row_lt63 hW2 e2
  haveI : Le64 X := ⟨by omega⟩
  clear hcell hrow hr hWW e1
  go_enter Tryz.func66, Tryz.ntmps66
  go_wp2_with fail
  go_ret
  exact ⟨ret_bool HF.out.symm, (by repeat (first | exact ext_refl _ | (with_reducible assumption) | refine ext_ext' ?_ _ | refine ext_alloc' ?_ _ | refine ext_drew' ?_))⟩
end Go.Proofs.YtncmnmbapalonaaGreat
