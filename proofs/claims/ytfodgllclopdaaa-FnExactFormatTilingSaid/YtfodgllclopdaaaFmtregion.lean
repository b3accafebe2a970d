/- FormatRegion of the program and of the reference. -/
import Derived.Test.YtfodgllclopdaaaRows
import Derived.WalkKit
import Derived.ProofKit
import Derived.OpenShut
import Derived.BigQuiet
import Derived.Lib.Hide
import Derived.Deep.QuietTactic
import Derived.Outline
import Derived.Test.YtfodgllclopdaaaHas
import Derived.Test.YtfodgllclopdaaaTexts
import Derived.Test.YtfodgllclopdaaaCopyregion
import Derived.Test.YtfodgllclopdaaaGrid
import Derived.Test.YtfodgllclopdaaaCellsof
namespace Go.Proofs.Ytfodgllclopdaaa
open Go.ChangeShapes Go.WideShapes Go.ChangeAt Go.RowKit
set_option linter.unusedVariables false
def ch (b : Bool) : UInt8 := if b then 35 else 46
def txTo (rows : List Int) (y x : Nat) : List UInt8 := (List.range x).map fun i => ch ((rowN rows y).testBit i)
theorem txTo_len (rows : List Int) (y x : Nat) : (txTo rows y x).length = x := by simp [txTo]
theorem txTo_t {rows : List Int} {y x : Nat} (h : (rowN rows y).testBit x = true) : txTo rows y (x + 1) = txTo rows y x ++ [35] := by simp [txTo, List.range_succ, h, ch]
theorem txTo_f {rows : List Int} {y x : Nat} (h : (rowN rows y).testBit x = false) : txTo rows y (x + 1) = txTo rows y x ++ [46] := by simp [txTo, List.range_succ, h, ch]
def lsTo (W : Nat) (rows : List Int) (k : Nat) : List (List UInt8) := (List.range k).map fun y => txTo rows y W
theorem lsTo_len (W : Nat) (rows : List Int) (k : Nat) : (lsTo W rows k).length = k := by simp [lsTo]
theorem lsTo_succ (W : Nat) (rows : List Int) (k : Nat) : lsTo W rows (k + 1) = lsTo W rows k ++ [txTo rows k W] := by simp [lsTo, List.range_succ]
def ftTo (W : Nat) (rows : List Int) (k : Nat) : List UInt8 := Lib.join (lsTo W rows k) [47]
/-- what stands ahead of row k -/
def ftHd (W : Nat) (rows : List Int) (k : Nat) : List UInt8 := if k = 0 then [] else ftTo W rows k ++ [47]
theorem ftTo_succ (W : Nat) (rows : List Int) (k : Nat) : ftTo W rows (k + 1) = ftHd W rows k ++ txTo rows k W := by
  unfold ftHd ftTo
  rw [lsTo_succ]
  by_cases h : k = 0
  · subst h; simp [lsTo, Lib.join_one]
  · rw [if_neg h, join_snoc _ _ _ (by intro e; have := lsTo_len W rows k; rw [e] at this; exact h this.symm)]
theorem ftTo_len (W : Nat) (rows : List Int) (k : Nat) : (ftTo W rows k).length ≤ k * (W + 1) := by
  induction k with
  | zero => simp [ftTo, lsTo, Lib.join_nil]
  | succ k ih =>
    rw [ftTo_succ, List.length_append, txTo_len, Nat.succ_mul]
    unfold ftHd
    split
    · simp; omega
    · simp; omega
theorem ftHd_len {W : Nat} {rows : List Int} {k : Nat} (hW : W ≤ 6) (hk : k ≤ 6) : (ftHd W rows k).length ≤ 43 ∧ (ftTo W rows k).length ≤ 42 := by
  have h1 := ftTo_len W rows k
  have h2 : k * (W + 1) ≤ 6 * 7 := Nat.mul_le_mul hk (by omega)
  unfold ftHd
  split
  · simp; omega
  · simp; omega
def fmtV (wd : Int) (rows : List Int) : List UInt8 := if regB wd rows then ftTo wd.toNat rows rows.length else []
theorem fmtV_no {wd : Int} {rows : List Int} (h : regB wd rows = false) : fmtV wd rows = [] := by simp [fmtV, h]
theorem fmtV_yes {W : Nat} {rows : List Int} (h : regB W rows = true) : fmtV W rows = ftTo W rows rows.length := by simp [fmtV, h]
theorem ret_str {a b : List UInt8} (h : a = b) : Ending.returned (.string (bsOf a)) = .returned (.string (bsOf b)) := by rw [h]
set_option maxHeartbeats 2000000 in
theorem specFmt_any (wd : Int) (rows : List Int) (v : Value) (w : World) (h : IntsAt w v rows) :
    Calls Try.prog 40 #[.agg #[.int .i64 wd, v]] w fun e w' => e = .returned (.string (bsOf (fmtV wd rows))) ∧ ∃ x, w' = ext w x := by
  have h0 := h
  obtain ⟨a, b, o, cap, rfl, hc1, hc2, hc3, hcell⟩ := h.opn
  have h1 := h0.alloc (.cells #[.int .i64 wd, .slice a rows.length cap] 27)
  clear hcell h h0
  cases hr : regB wd rows
  · have HF := Lib.hid (fmtV_no hr)
    go_enter Try.func40, Try.ntmps40
    go_wp2_with fail
    go_loopw [3, 4] (fun u i wr => u = .string ⟨#[]⟩ ∧ i = .int .i64 0 ∧ ∃ x, wr = ext (w.alloc (.cells #[.int .i64 wd, .slice a rows.length cap] 27)) x) (fun _ _ _ => 0)
    case atStart => exact ⟨rfl, rfl, (by repeat (first | exact ext_refl _ | (with_reducible assumption) | refine ext_ext' ?_ _ | refine ext_alloc' ?_ _ | refine ext_drew' ?_))⟩
    case round =>
      obtain ⟨rfl, rfl, x, rfl⟩ := hrel
      by_cases hp : 0 < rows.length
      · go_wp2_with (first | (go_at_call 50; refine (specIsRegion_any _ _ _ _ (by first | (with_reducible assumption) | (with_reducible exact IntsAt.mono (by assumption) (bel_of_ext (by repeat (first | exact ext_refl _ | (with_reducible assumption) | refine ext_ext' ?_ _ | refine ext_alloc' ?_ _ | refine ext_drew' ?_)))) | (with_reducible exact CellsAt.mono (by assumption) (bel_of_ext (by repeat (first | exact ext_refl _ | (with_reducible assumption) | refine ext_ext' ?_ _ | refine ext_alloc' ?_ _ | refine ext_drew' ?_)))) | (with_reducible exact RegionAt.mono (by assumption) (bel_of_ext (by repeat (first | exact ext_refl _ | (with_reducible assumption) | refine ext_ext' ?_ _ | refine ext_alloc' ?_ _ | refine ext_drew' ?_)))) | (with_reducible exact TextsAt.mono (by assumption) (bel_of_ext (by repeat (first | exact ext_refl _ | (with_reducible assumption) | refine ext_ext' ?_ _ | refine ext_alloc' ?_ _ | refine ext_drew' ?_)))))).mono ?_; rintro e w' ⟨rfl, xe, rfl⟩))
        go_ret
        exact ⟨by rw [HF.out]; rfl, (by repeat (first | exact ext_refl _ | (with_reducible assumption) | refine ext_ext' ?_ _ | refine ext_alloc' ?_ _ | refine ext_drew' ?_))⟩
      · have hz : rows.length ≤ 0 := by omega
        go_wp2_with fail
        go_ret
        exact ⟨by rw [HF.out]; rfl, (by repeat (first | exact ext_refl _ | (with_reducible assumption) | refine ext_ext' ?_ _ | refine ext_alloc' ?_ _ | refine ext_drew' ?_))⟩
  obtain ⟨W, rfl, hW1, hW2, hl1, hl2, hrow⟩ := regB_bd hr
  have HF := Lib.hid (fmtV_yes hr)
  have HR := Lib.hid hr
  clear hrow
  go_enter Try.func40, Try.ntmps40
  go_wp2_with fail
  go_loopw [3, 4] (fun u i wr => ∃ k : Nat, k ≤ rows.length ∧ u = .string (bsOf (ftTo W rows k)) ∧ i = .int .i64 k ∧ ∃ x, wr = ext (w.alloc (.cells #[.int .i64 W, .slice a rows.length cap] 27)) x) (fun _ i _ => rows.length - (intOf i).toNat)
  case atStart => exact ⟨0, Nat.zero_le _, rfl, rfl, (by repeat (first | exact ext_refl _ | (with_reducible assumption) | refine ext_ext' ?_ _ | refine ext_alloc' ?_ _ | refine ext_drew' ?_))⟩
  case round =>
    obtain ⟨y, hy, rfl, rfl, x, rfl⟩ := hrel
    obtain ⟨l1, l2⟩ := ftHd_len (W := W) (rows := rows) (k := y) hW2 (by omega)
    haveI : LenOK (ftTo W rows y) := ⟨by omega⟩
    by_cases hlt : y < rows.length
    · by_cases hy0 : y = 0
      · subst hy0
        have HH := Lib.hid (show ftHd W rows 0 = [] from rfl)
        have HS := Lib.hid (ftTo_succ W rows 0)
        go_wp2_with (first | (go_at_call 50; refine (specIsRegion_any _ _ _ _ (by first | (with_reducible assumption) | (with_reducible exact IntsAt.mono (by assumption) (bel_of_ext (by repeat (first | exact ext_refl _ | (with_reducible assumption) | refine ext_ext' ?_ _ | refine ext_alloc' ?_ _ | refine ext_drew' ?_)))) | (with_reducible exact CellsAt.mono (by assumption) (bel_of_ext (by repeat (first | exact ext_refl _ | (with_reducible assumption) | refine ext_ext' ?_ _ | refine ext_alloc' ?_ _ | refine ext_drew' ?_)))) | (with_reducible exact RegionAt.mono (by assumption) (bel_of_ext (by repeat (first | exact ext_refl _ | (with_reducible assumption) | refine ext_ext' ?_ _ | refine ext_alloc' ?_ _ | refine ext_drew' ?_)))) | (with_reducible exact TextsAt.mono (by assumption) (bel_of_ext (by repeat (first | exact ext_refl _ | (with_reducible assumption) | refine ext_ext' ?_ _ | refine ext_alloc' ?_ _ | refine ext_drew' ?_)))))).mono ?_; rintro e w' ⟨rfl, xe, rfl⟩))
        go_loopw [3, 5] (fun u i wr2 => ∃ q : Nat, q ≤ W ∧ u = .string (bsOf (ftHd W rows 0 ++ txTo rows 0 q)) ∧ i = .int .i64 q ∧ ∃ x, wr2 = ext (w.alloc (.cells #[.int .i64 W, .slice a rows.length cap] 27)) x) (fun _ i _ => W - (intOf i).toNat)
        case atStart => exact ⟨0, Nat.zero_le _, rfl, rfl, (by repeat (first | exact ext_refl _ | (with_reducible assumption) | refine ext_ext' ?_ _ | refine ext_alloc' ?_ _ | refine ext_drew' ?_))⟩
        case round =>
          obtain ⟨q, hq, rfl, rfl, x2, rfl⟩ := hrel
          haveI : LenOK (ftHd W rows 0 ++ txTo rows 0 q) := ⟨by rw [List.length_append, txTo_len]; omega⟩
          by_cases hlt2 : q < W
          · cases hb : (rowN rows 0).testBit q
            all_goals
              have HB := Lib.hid hb
              clear hb
              go_wp2_with (first | (go_at_call 67; refine (l6In_b W rows _ _ _ _ _ (by first | (with_reducible assumption) | (with_reducible exact IntsAt.mono (by assumption) (bel_of_ext (by repeat (first | exact ext_refl _ | (with_reducible assumption) | refine ext_ext' ?_ _ | refine ext_alloc' ?_ _ | refine ext_drew' ?_)))) | (with_reducible exact CellsAt.mono (by assumption) (bel_of_ext (by repeat (first | exact ext_refl _ | (with_reducible assumption) | refine ext_ext' ?_ _ | refine ext_alloc' ?_ _ | refine ext_drew' ?_)))) | (with_reducible exact RegionAt.mono (by assumption) (bel_of_ext (by repeat (first | exact ext_refl _ | (with_reducible assumption) | refine ext_ext' ?_ _ | refine ext_alloc' ?_ _ | refine ext_drew' ?_)))) | (with_reducible exact TextsAt.mono (by assumption) (bel_of_ext (by repeat (first | exact ext_refl _ | (with_reducible assumption) | refine ext_ext' ?_ _ | refine ext_alloc' ?_ _ | refine ext_drew' ?_))))) HR.out hlt2 hlt HB.out).mono ?_; rintro e w' ⟨rfl, xe, rfl⟩))
              go_roundw
              case rel => exact ⟨q + 1, hlt2, by first | rw [txTo_f HB.out, ← List.append_assoc] | rw [txTo_t HB.out, ← List.append_assoc], int_succ q, (by repeat (first | exact ext_refl _ | (with_reducible assumption) | refine ext_ext' ?_ _ | refine ext_alloc' ?_ _ | refine ext_drew' ?_))⟩
              case measure => simp [intOf]; omega
          · have HQ := Lib.hid (show q = W by omega)
            go_wp2_with fail
            go_roundw
            case rel => exact ⟨0 + 1, hlt, by rw [HS.out, HQ.out], int_succ 0, (by repeat (first | exact ext_refl _ | (with_reducible assumption) | refine ext_ext' ?_ _ | refine ext_alloc' ?_ _ | refine ext_drew' ?_))⟩
            case measure => simp [intOf]; omega
      · have hy1 : 0 < y := by omega
        have HH := Lib.hid (show ftHd W rows y = ftTo W rows y ++ [47] by unfold ftHd; rw [if_neg hy0])
        have HS := Lib.hid (ftTo_succ W rows y)
        go_wp2_with (first | (go_at_call 50; refine (specIsRegion_any _ _ _ _ (by first | (with_reducible assumption) | (with_reducible exact IntsAt.mono (by assumption) (bel_of_ext (by repeat (first | exact ext_refl _ | (with_reducible assumption) | refine ext_ext' ?_ _ | refine ext_alloc' ?_ _ | refine ext_drew' ?_)))) | (with_reducible exact CellsAt.mono (by assumption) (bel_of_ext (by repeat (first | exact ext_refl _ | (with_reducible assumption) | refine ext_ext' ?_ _ | refine ext_alloc' ?_ _ | refine ext_drew' ?_)))) | (with_reducible exact RegionAt.mono (by assumption) (bel_of_ext (by repeat (first | exact ext_refl _ | (with_reducible assumption) | refine ext_ext' ?_ _ | refine ext_alloc' ?_ _ | refine ext_drew' ?_)))) | (with_reducible exact TextsAt.mono (by assumption) (bel_of_ext (by repeat (first | exact ext_refl _ | (with_reducible assumption) | refine ext_ext' ?_ _ | refine ext_alloc' ?_ _ | refine ext_drew' ?_)))))).mono ?_; rintro e w' ⟨rfl, xe, rfl⟩))
        go_loopw [3, 5] (fun u i wr2 => ∃ q : Nat, q ≤ W ∧ u = .string (bsOf (ftHd W rows y ++ txTo rows y q)) ∧ i = .int .i64 q ∧ ∃ x, wr2 = ext (w.alloc (.cells #[.int .i64 W, .slice a rows.length cap] 27)) x) (fun _ i _ => W - (intOf i).toNat)
        case atStart => exact ⟨0, Nat.zero_le _, by rw [HH.out]; simp [txTo], rfl, (by repeat (first | exact ext_refl _ | (with_reducible assumption) | refine ext_ext' ?_ _ | refine ext_alloc' ?_ _ | refine ext_drew' ?_))⟩
        case round =>
          obtain ⟨q, hq, rfl, rfl, x2, rfl⟩ := hrel
          haveI : LenOK (ftHd W rows y ++ txTo rows y q) := ⟨by rw [List.length_append, txTo_len]; omega⟩
          by_cases hlt2 : q < W
          · cases hb : (rowN rows y).testBit q
            all_goals
              have HB := Lib.hid hb
              clear hb
              go_wp2_with (first | (go_at_call 67; refine (l6In_b W rows _ _ _ _ _ (by first | (with_reducible assumption) | (with_reducible exact IntsAt.mono (by assumption) (bel_of_ext (by repeat (first | exact ext_refl _ | (with_reducible assumption) | refine ext_ext' ?_ _ | refine ext_alloc' ?_ _ | refine ext_drew' ?_)))) | (with_reducible exact CellsAt.mono (by assumption) (bel_of_ext (by repeat (first | exact ext_refl _ | (with_reducible assumption) | refine ext_ext' ?_ _ | refine ext_alloc' ?_ _ | refine ext_drew' ?_)))) | (with_reducible exact RegionAt.mono (by assumption) (bel_of_ext (by repeat (first | exact ext_refl _ | (with_reducible assumption) | refine ext_ext' ?_ _ | refine ext_alloc' ?_ _ | refine ext_drew' ?_)))) | (with_reducible exact TextsAt.mono (by assumption) (bel_of_ext (by repeat (first | exact ext_refl _ | (with_reducible assumption) | refine ext_ext' ?_ _ | refine ext_alloc' ?_ _ | refine ext_drew' ?_))))) HR.out hlt2 hlt HB.out).mono ?_; rintro e w' ⟨rfl, xe, rfl⟩))
              go_roundw
              case rel => exact ⟨q + 1, hlt2, by first | rw [txTo_f HB.out, ← List.append_assoc] | rw [txTo_t HB.out, ← List.append_assoc], int_succ q, (by repeat (first | exact ext_refl _ | (with_reducible assumption) | refine ext_ext' ?_ _ | refine ext_alloc' ?_ _ | refine ext_drew' ?_))⟩
              case measure => simp [intOf]; omega
          · have HQ := Lib.hid (show q = W by omega)
            go_wp2_with fail
            go_roundw
            case rel => exact ⟨y + 1, hlt, by rw [HS.out, HQ.out], int_succ y, (by repeat (first | exact ext_refl _ | (with_reducible assumption) | refine ext_ext' ?_ _ | refine ext_alloc' ?_ _ | refine ext_drew' ?_))⟩
            case measure => simp [intOf]; omega
    · have HY := Lib.hid (show y = rows.length by omega)
      go_wp2_with fail
      go_ret
      exact ⟨ret_str (by rw [HF.out, HY.out]), (by repeat (first | exact ext_refl _ | (with_reducible assumption) | refine ext_ext' ?_ _ | refine ext_alloc' ?_ _ | refine ext_drew' ?_))⟩
end Go.Proofs.Ytfodgllclopdaaa
