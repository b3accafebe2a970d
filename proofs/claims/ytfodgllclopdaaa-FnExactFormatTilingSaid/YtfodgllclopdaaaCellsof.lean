/- CellsOf of the program and of the reference. -/
import Derived.Test.YtfodgllclopdaaaRows
import Derived.WalkKit
import Derived.ProofKit
import Derived.OpenShut
import Derived.BigQuiet
import Derived.Lib.Hide
import Derived.Deep.QuietTactic
import Derived.Outline
import Derived.Test.YtfodgllclopdaaaGrid
namespace Go.Proofs.Ytfodgllclopdaaa
open Go.ChangeShapes Go.WideShapes Go.ChangeAt Go.RowKit
set_option linter.unusedVariables false
theorem implCells_any (wd : Int) (rows : List Int) (v : Value) (w : World) (h : IntsAt w v rows) :
    Calls Try.prog 35 #[.agg #[.int .i64 wd, v]] w (CellsPost w (cellsV wd rows)) := by
  have h0 := h
  obtain ⟨a, b, o, cap, rfl, hc1, hc2, hc3, hcell⟩ := h.opn
  have h1 := h0.alloc (.cells #[.int .i64 wd, .slice a rows.length cap] 27)
  clear hcell
  cases hr : regB wd rows
  · have HF := Lib.hid (cellsV_no hr)
    go_enter Try.func35, Try.ntmps35
    go_wp2_with (first | (go_at_call 53; refine (isRegion_any _ _ _ _ h1).mono ?_; rintro e w' ⟨rfl, xe, rfl⟩))
    go_ret
    exact .nil HF.out (by repeat (first | exact ext_refl _ | (with_reducible assumption) | refine ext_ext' ?_ _ | refine ext_alloc' ?_ _ | refine ext_drew' ?_))
  obtain ⟨W, rfl, hW1, hW2, hl1, hl2, hrow⟩ := regB_bd hr
  have HF := Lib.hid (cellsV_yes hr)
  have HR := Lib.hid hr
  clear hrow
  go_enter Try.func35, Try.ntmps35
  go_wp2_with (first | (go_at_call 53; refine (isRegion_any _ _ _ _ h1).mono ?_; rintro e w' ⟨rfl, xe, rfl⟩) | (go_at_call 62; refine (cells_any _ rows _ _ (h1.mono (bel_of_ext (by repeat (first | exact ext_refl _ | (with_reducible assumption) | refine ext_ext' ?_ _ | refine ext_alloc' ?_ _ | refine ext_drew' ?_)))) HR.out).mono ?_; rintro e w' ⟨v', rfl, H⟩))
  go_ret
  exact .got HF.out (Held.unbox (H.base (bel_of_ext (by repeat (first | exact ext_refl _ | (with_reducible assumption) | refine ext_ext' ?_ _ | refine ext_alloc' ?_ _ | refine ext_drew' ?_)))))
theorem l6In_b (W : Nat) (rows : List Int) (x y : Nat) (b : Bool) (v : Value) (w : World) (h : IntsAt w v rows) (hr : regB W rows = true) (hx : x < W) (hy : y < rows.length) (hb : (rowN rows y).testBit x = b) :
    Calls Try.prog 67 #[.agg #[.int .i64 W, v], .int .i64 x, .int .i64 y] w fun e w' => e = .returned (.bool b) ∧ ∃ x, w' = ext w x := by
  have := l6In_any W rows x y v w h hr
  rwa [hasB_at hx hy, hb] at this
set_option maxHeartbeats 2000000 in
theorem specCells_any (wd : Int) (rows : List Int) (v : Value) (w : World) (h : IntsAt w v rows) :
    Calls Try.prog 34 #[.agg #[.int .i64 wd, v]] w (CellsPost w (cellsV wd rows)) := by
  have h0 := h
  obtain ⟨a, b, o, cap, rfl, hc1, hc2, hc3, hcell⟩ := h.opn
  have h1 := h0.alloc (.cells #[.int .i64 wd, .slice a rows.length cap] 27)
  have H0 := (Held.start (w.alloc (.cells #[.int .i64 wd, .slice a rows.length cap] 27))).empty 64 2
  rw [World.size_alloc] at H0
  clear hcell
  cases hr : regB wd rows
  · have HF := Lib.hid (cellsV_no hr)
    go_enter Try.func34, Try.ntmps34
    go_wp2_with fail
    go_loopw [3, 4] (fun u i wr => u = .slice (some ⟨w.heap.size + 1, 0, none⟩) 0 0 ∧ i = .int .i64 0 ∧ Held (w.alloc (.cells #[.int .i64 wd, .slice a rows.length cap] 27)) wr [⟨.slice (some ⟨w.heap.size + 1, 0, none⟩) 0 0, 64, 2, 0, []⟩]) (fun _ _ _ => 0)
    case atStart => exact ⟨rfl, rfl, H0⟩
    case round =>
      clear H0
      obtain ⟨rfl, rfl, H⟩ := hrel
      obtain ⟨kb0, kb1⟩ := H.box2
      by_cases hp : 0 < rows.length
      · go_wp2_with (first | (go_at_call 50; refine (specIsRegion_any _ _ _ _ (h1.mono H.bel)).mono ?_; rintro e w' ⟨rfl, xe, rfl⟩))
        go_ret
        exact .empty HF.out (H.to (by repeat (first | exact ext_refl _ | (with_reducible assumption) | refine ext_ext' ?_ _ | refine ext_alloc' ?_ _ | refine ext_drew' ?_))).unbox
      · have hz : rows.length ≤ 0 := by omega
        go_wp2_with fail
        go_ret
        exact .empty HF.out H.unbox
  obtain ⟨W, rfl, hW1, hW2, hl1, hl2, hrow⟩ := regB_bd hr
  have HF := Lib.hid (cellsV_yes hr)
  have HR := Lib.hid hr
  clear hrow
  go_enter Try.func34, Try.ntmps34
  go_wp2_with fail
  go_loopw [3, 4] (fun u i wr => ∃ (r : Value) (k : Nat), r = u ∧ k ≤ rows.length ∧ i = .int .i64 k ∧ Held (w.alloc (.cells #[.int .i64 W, .slice a rows.length cap] 27)) wr [rowC r (cTo W rows k)]) (fun _ i _ => rows.length - (intOf i).toNat)
  case atStart => exact ⟨_, 0, rfl, Nat.zero_le _, rfl, H0⟩
  case round =>
    clear H0
    obtain ⟨r, y, rfl, hy, rfl, H⟩ := hrel
    obtain ⟨kb0, kb1⟩ := H.box2
    by_cases hlt : y < rows.length
    · go_wp2_with (first | (go_at_call 50; refine (specIsRegion_any _ _ _ _ (h1.mono H.bel)).mono ?_; rintro e w' ⟨rfl, xe, rfl⟩; have H2 := Lib.hid (H.ext xe); clear H kb0 kb1))
      go_loopw [3, 5] (fun u i wr2 => ∃ (r : Value) (x : Nat), r = u ∧ x ≤ W ∧ i = .int .i64 x ∧ Held (w.alloc (.cells #[.int .i64 W, .slice a rows.length cap] 27)) wr2 [rowC r (cRow rows y (cTo W rows y) x)]) (fun _ i _ => W - (intOf i).toNat)
      case atStart => exact ⟨_, 0, rfl, Nat.zero_le _, rfl, H2.out⟩
      case round =>
        clear H2
        obtain ⟨r, x, rfl, hx, rfl, H⟩ := hrel
        obtain ⟨kb0, kb1⟩ := H.box2
        by_cases hlt2 : x < W
        · have hlen := cRow_36 (W := W) (rows := rows) (y := y) (x := x) hW2 (by omega) hx
          cases hb : (rowN rows y).testBit x
          · have HB := Lib.hid hb
            clear hb
            go_wp2_with (first | (go_at_call 67; refine (l6In_b W rows _ _ false _ _ (h1.mono H.bel) HR.out hlt2 hlt HB.out).mono ?_; rintro e w' ⟨rfl, xe, rfl⟩))
            go_roundw
            case rel => exact ⟨r, x + 1, rfl, hlt2, int_succ x, by rw [cRow_f _ HB.out]; exact H.to (by repeat (first | exact ext_refl _ | (with_reducible assumption) | refine ext_ext' ?_ _ | refine ext_alloc' ?_ _ | refine ext_drew' ?_))⟩
            case measure => simp [intOf]; omega
          · have HB := Lib.hid hb
            clear hb
            go_wp2_with (first | (go_at_call 67; refine (l6In_b W rows _ _ true _ _ (h1.mono H.bel) HR.out hlt2 hlt HB.out).mono ?_; rintro e w' ⟨rfl, xe, rfl⟩) | (at_builtin; refine wpList_append_held (m := 1) rfl _ _ _ rfl elemCell (H.to (by repeat (first | exact ext_refl _ | (with_reducible assumption) | refine ext_ext' ?_ _ | refine ext_alloc' ?_ _ | refine ext_drew' ?_))) rfl rfl (Sl_cell _ _ _ _) (one_cell _ _) (by unfold maxLen; omega) (by omega) ?_; intro v' w' H; have H := H.snocC))
            go_roundw
            case rel => exact ⟨v', x + 1, rfl, hlt2, int_succ x, by rw [cRow_t _ HB.out]; exact H⟩
            case measure => simp [intOf]; omega
        · rw [show x = W by omega, ← cTo_succ] at H
          have HH := Lib.hid H
          clear H
          go_wp2_with fail
          go_roundw
          case rel => exact ⟨r, y + 1, rfl, hlt, int_succ y, HH.out⟩
          case measure => simp [intOf]; omega
    · rw [show y = rows.length by omega] at H
      have HH := Lib.hid H.unbox
      clear H
      go_wp2_with fail
      go_ret
      exact .got HF.out HH.out
end Go.Proofs.Ytfodgllclopdaaa
