/- The cells of a region in order; of the program and of the reference. -/
import Derived.Test.YtfodgllclopdaaaRows
import Derived.WalkKit
import Derived.ProofKit
import Derived.OpenShut
import Derived.BigQuiet
import Derived.Lib.Hide
import Derived.Deep.QuietTactic
import Derived.Outline
import Derived.Test.YtfodgllclopdaaaHas
import Derived.Test.YtfodgllclopdaaaRowc
import Derived.Test.YtfodgllclopdaaaCopyregion
namespace Go.Proofs.Ytfodgllclopdaaa
open Go.ChangeShapes Go.WideShapes Go.ChangeAt Go.RowKit
set_option linter.unusedVariables false
def cRow (rows : List Int) (y : Nat) (cs : List (Int × Int)) : Nat → List (Int × Int) := iter (fun x cs => if (rowN rows y).testBit x then cs ++ [((x : Int), (y : Int))] else cs) cs
def cTo (W : Nat) (rows : List Int) : Nat → List (Int × Int) := iter (fun y cs => cRow rows y cs W) []
def cellsR (W : Nat) (rows : List Int) : List (Int × Int) := cTo W rows rows.length
theorem cRow_t {rows : List Int} {y x : Nat} (cs : List (Int × Int)) (h : (rowN rows y).testBit x = true) : cRow rows y cs (x + 1) = cRow rows y cs x ++ [((x : Int), (y : Int))] := by simp [cRow, iter, h]
theorem cRow_f {rows : List Int} {y x : Nat} (cs : List (Int × Int)) (h : (rowN rows y).testBit x = false) : cRow rows y cs (x + 1) = cRow rows y cs x := by simp [cRow, iter, h]
theorem cTo_succ (W : Nat) (rows : List Int) (y : Nat) : cTo W rows (y + 1) = cRow rows y (cTo W rows y) W := rfl
theorem cRow_len (rows : List Int) (y : Nat) (cs : List (Int × Int)) (x : Nat) : (cRow rows y cs x).length ≤ cs.length + x := by
  induction x with
  | zero => exact Nat.le_refl _
  | succ x ih =>
    cases h : (rowN rows y).testBit x
    · rw [cRow_f _ h]; omega
    · rw [cRow_t _ h]; simp; omega
theorem cTo_len (W : Nat) (rows : List Int) (y : Nat) : (cTo W rows y).length ≤ y * W := by
  induction y with
  | zero => simp [cTo, iter]
  | succ y ih => have := cRow_len rows y (cTo W rows y) W; rw [cTo_succ, Nat.add_mul]; omega
theorem cRow_36 {W : Nat} {rows : List Int} {y x : Nat} (hW : W ≤ 6) (hy : y < 6) (hx : x ≤ W) : (cRow rows y (cTo W rows y) x).length ≤ 36 := by
  have h1 := cRow_len rows y (cTo W rows y) x
  have h2 := cTo_len W rows y
  have h3 : y * W ≤ 5 * 6 := Nat.mul_le_mul (by omega) hW
  omega
theorem cellsR_36 {W : Nat} {rows : List Int} (hW : W ≤ 6) (hy : rows.length ≤ 6) : (cellsR W rows).length ≤ 36 := by
  have h2 := cTo_len W rows rows.length
  have h3 : rows.length * W ≤ 6 * 6 := Nat.mul_le_mul hy hW
  unfold cellsR
  omega
def cellsV (wd : Int) (rows : List Int) : List (Int × Int) := if regB wd rows then cellsR wd.toNat rows else []
theorem cellsV_no {wd : Int} {rows : List Int} (h : regB wd rows = false) : cellsV wd rows = [] := by simp [cellsV, h]
theorem cellsV_yes {W : Nat} {rows : List Int} (h : regB W rows = true) : cellsV W rows = cellsR W rows := by simp [cellsV, h]
theorem cellsV_36 (wd : Int) (rows : List Int) : (cellsV wd rows).length ≤ 36 := by
  cases h : regB wd rows
  · rw [cellsV_no h]; simp
  · obtain ⟨W, rfl, _, h2, _, h4, _⟩ := regB_bd h
    rw [cellsV_yes h]; exact cellsR_36 h2 h4
theorem has_b (W : Nat) (rows : List Int) (x y : Nat) (b : Bool) (v : Value) (w : World) (h : IntsAt w v rows) (hr : regB W rows = true) (hx : x < W) (hy : y < rows.length) (hb : (rowN rows y).testBit x = b) :
    Calls Try.prog 65 #[.agg #[.int .i64 W, v], .int .i64 x, .int .i64 y] w fun e w' => e = .returned (.bool b) ∧ ∃ x, w' = ext w x := by
  have := has_any W rows x y v w h hr
  rwa [hasB_at hx hy, hb] at this
set_option maxHeartbeats 2000000 in
theorem cells_any (W : Nat) (rows : List Int) (v : Value) (w : World) (h : IntsAt w v rows) (hr : regB W rows = true) :
    Calls Try.prog 62 #[.agg #[.int .i64 W, v]] w (CellsPost w (cellsR W rows)) := by
  obtain ⟨a, b, o, cap, rfl, hc1, hc2, hc3, hcell⟩ := h.opn
  obtain ⟨W', hWW, hW1, hW2, hl1, hl2, hrow⟩ := regB_bd hr
  obtain rfl : W = W' := by omega
  have h1 := h.alloc (.cells #[.int .i64 W, .slice a rows.length cap] 27)
  have HR := Lib.hid hr
  clear hrow hcell hWW hr
  go_enter Try.func62, Try.ntmps62
  go_wp2_with fail
  go_loopw [3, 9] (fun u i wr => ∃ (r : Value) (k : Nat), r = u ∧ k ≤ rows.length ∧ i = .int .i64 k ∧ Held (w.alloc (.cells #[.int .i64 W, .slice a rows.length cap] 27)) wr [rowC r (cTo W rows k)]) (fun _ i _ => rows.length - (intOf i).toNat)
  case atStart => exact ⟨_, 0, rfl, Nat.zero_le _, rfl, (Held.start _).nilC⟩
  case round =>
    obtain ⟨r, y, rfl, hy, rfl, H⟩ := hrel
    obtain ⟨kb0, kb1⟩ := H.box2
    by_cases hlt : y < rows.length
    · have H0 := Lib.hid H
      clear H
      go_wp2_with fail
      go_loopw [3, 14] (fun u i wr2 => ∃ (r : Value) (x : Nat), r = u ∧ x ≤ W ∧ i = .int .i64 x ∧ Held (w.alloc (.cells #[.int .i64 W, .slice a rows.length cap] 27)) wr2 [rowC r (cRow rows y (cTo W rows y) x)]) (fun _ i _ => W - (intOf i).toNat)
      case atStart => exact ⟨_, 0, rfl, Nat.zero_le _, rfl, H0.out⟩
      case round =>
        clear H0 kb0 kb1
        obtain ⟨r, x, rfl, hx, rfl, H⟩ := hrel
        obtain ⟨kb0, kb1⟩ := H.box2
        by_cases hlt2 : x < W
        · have hlen := cRow_36 (W := W) (rows := rows) (y := y) (x := x) hW2 (by omega) hx
          cases hb : (rowN rows y).testBit x
          · have HB := Lib.hid hb
            clear hb
            go_wp2_with (first | (go_at_call 65; refine (has_b W rows _ _ false _ _ (h1.mono H.bel) HR.out hlt2 hlt HB.out).mono ?_; rintro e w' ⟨rfl, xe, rfl⟩))
            go_roundw
            case rel => exact ⟨r, x + 1, rfl, hlt2, int_succ x, by rw [cRow_f _ HB.out]; exact H.to (by repeat (first | exact ext_refl _ | (with_reducible assumption) | refine ext_ext' ?_ _ | refine ext_alloc' ?_ _ | refine ext_drew' ?_))⟩
            case measure => simp [intOf]; omega
          · have HB := Lib.hid hb
            clear hb
            go_wp2_with (first | (go_at_call 65; refine (has_b W rows _ _ true _ _ (h1.mono H.bel) HR.out hlt2 hlt HB.out).mono ?_; rintro e w' ⟨rfl, xe, rfl⟩) | (at_builtin; refine wpList_append_held (m := 1) rfl _ _ _ rfl elemCell (H.to (by repeat (first | exact ext_refl _ | (with_reducible assumption) | refine ext_ext' ?_ _ | refine ext_alloc' ?_ _ | refine ext_drew' ?_))) rfl rfl (Sl_cell _ _ _ _) (one_cell _ _) (by unfold maxLen; omega) (by omega) ?_; intro v' w' H; have H := H.snocC))
            go_roundw
            case rel => exact ⟨v', x + 1, rfl, hlt2, int_succ x, by rw [cRow_t _ HB.out]; exact H⟩
            case measure => simp [intOf]; omega
        · rw [show x = W by omega, ← cTo_succ] at H
          have HH := Lib.hid H
          clear H
          go_wp2_with fail
          go_roundw
          case rel => exact ⟨r, y + 1, rfl, hlt, int_succ y, HH.out⟩
          case measure => simp [intOf]; omega
    · rw [show y = rows.length by omega] at H
      have HH := Lib.hid H.unbox
      clear H
      go_wp2_with fail
      go_ret
      exact .got rfl HH.out
end Go.Proofs.Ytfodgllclopdaaa
