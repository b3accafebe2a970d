/- IsRegion of the program and of the reference. -/
import Derived.Test.YtncmnmbapalonaaGreatRows
import Derived.WalkKit
import Derived.ProofKit
import Derived.OpenShut
import Derived.BigQuiet
import Derived.Lib.Hide
import Derived.Deep.QuietTactic
import Derived.Outline
import Derived.Test.YtncmnmbapalonaaGreatBitops
import Derived.Test.YtncmnmbapalonaaGreatInts
import Derived.Test.YtncmnmbapalonaaGreatBetween
namespace Go.Proofs.YtncmnmbapalonaaGreat
open Go.ChangeShapes Go.WideShapes Go.ChangeAt Go.RowKit
set_option linter.unusedVariables false
def rowB (wd x : Int) : Bool := decide (0 ≤ x) && decide (x < (shlN 1 wd.toNat : Nat))
def regB (wd : Int) (rows : List Int) : Bool := btw wd 1 6 && btw rows.length 1 6 && allTo (fun k => rowB wd (nth rows k)) rows.length
theorem regB_w {wd : Int} {rows : List Int} (h : btw wd 1 6 = false) : regB wd rows = false := by simp [regB, h]
theorem regB_h {wd : Int} {rows : List Int} (h : btw rows.length 1 6 = false) : regB wd rows = false := by simp [regB, h]
theorem regB_row {wd : Int} {rows : List Int} {k : Nat} (h : k < rows.length) (hk : rowB wd (nth rows k) = false) : regB wd rows = false := by
  simp [regB, allTo_false (p := fun k => rowB wd (nth rows k)) h hk]
theorem isSide_any (n : Int) (w : World) : Calls Tryz.prog 61 #[.int .i64 n] w fun e w' => e = .returned (.bool (btw n 1 6)) ∧ ∃ x, w' = ext w x := by
  go_enter Tryz.func61, Tryz.ntmps61
  go_wp2_with (first | (go_at_call 69; refine (between_any _ _ _ _).mono ?_; rintro e w' ⟨rfl, xe, rfl⟩))
  go_ret
  exact ⟨rfl, (by repeat (first | exact ext_refl _ | (with_reducible assumption) | refine ext_ext' ?_ _ | refine ext_alloc' ?_ _ | refine ext_drew' ?_))⟩
theorem isSide_b (n : Int) (b : Bool) (h : btw n 1 6 = b) (w : World) : Calls Tryz.prog 61 #[.int .i64 n] w fun e w' => e = .returned (.bool b) ∧ ∃ x, w' = ext w x := h ▸ isSide_any n w
theorem isRegion_any (wd : Int) (rows : List Int) (v : Value) (w : World) (h : IntsAt w v rows) :
    Calls Tryz.prog 40 #[.agg #[.int .i64 wd, v]] w fun e w' => e = .returned (.bool (regB wd rows)) ∧ ∃ x, w' = ext w x := by
  obtain ⟨a, b, o, cap, rfl, hc1, hc2, hc3, hcell⟩ := h.opn
  cases h1 : btw wd 1 6
  · clear hcell
    go_enter Tryz.func40, Tryz.ntmps40
    go_wp2_with (first | (go_at_call 61; refine (isSide_b _ _ (by assumption) _).mono ?_; rintro e w' ⟨rfl, xe, rfl⟩))
    go_ret
    exact ⟨ret_bool (regB_w h1).symm, (by repeat (first | exact ext_refl _ | (with_reducible assumption) | refine ext_ext' ?_ _ | refine ext_alloc' ?_ _ | refine ext_drew' ?_))⟩
  obtain ⟨b1, b2⟩ := btw_iff.1 h1
  cases h2 : btw rows.length 1 6
  · clear hcell
    go_enter Tryz.func40, Tryz.ntmps40
    go_wp2_with (first | (go_at_call 61; refine (isSide_b _ _ (by assumption) _).mono ?_; rintro e w' ⟨rfl, xe, rfl⟩))
    go_ret
    exact ⟨ret_bool (regB_h h2).symm, (by repeat (first | exact ext_refl _ | (with_reducible assumption) | refine ext_ext' ?_ _ | refine ext_alloc' ?_ _ | refine ext_drew' ?_))⟩
  obtain ⟨W, rfl⟩ : ∃ W : Nat, wd = W := ⟨wd.toNat, by omega⟩
  have h6 : Le6 W := ⟨by omega⟩
  have HF := Lib.hid (show regB W rows = (btw W 1 6 && btw rows.length 1 6 && allTo (fun k => rowB W (nth rows k)) rows.length) from rfl)
  go_enter Tryz.func40, Tryz.ntmps40
  go_wp2_with (first | (go_at_call 61; refine (isSide_b _ _ (by assumption) _).mono ?_; rintro e w' ⟨rfl, xe, rfl⟩))
  go_loopw [19] (fun i wr => ∃ k : Nat, k ≤ rows.length ∧ i = .int .i64 k ∧ allTo (fun k => rowB W (nth rows k)) k = true ∧ ∃ x, wr = ext (w.alloc (.cells #[.int .i64 W, .slice a rows.length cap] 29)) x) (fun i _ => rows.length - (intOf i).toNat)
  case atStart => exact ⟨0, Nat.zero_le _, rfl, rfl, (by repeat (first | exact ext_refl _ | (with_reducible assumption) | refine ext_ext' ?_ _ | refine ext_alloc' ?_ _ | refine ext_drew' ?_))⟩
  case round =>
    obtain ⟨k, hk, rfl, hall, x, rfl⟩ := hrel
    have HA := Lib.hid hall
    clear hall
    by_cases hlt : k < rows.length
    · obtain ⟨hb, hi, hck⟩ := hcell k hlt
      clear hcell
      by_cases hneg : nth rows k < 0
      · go_wp2_with fail
        go_ret
        exact ⟨ret_bool (regB_row hlt (by simp [rowB]; omega)).symm, (by repeat (first | exact ext_refl _ | (with_reducible assumption) | refine ext_ext' ?_ _ | refine ext_alloc' ?_ _ | refine ext_drew' ?_))⟩
      by_cases hbig : ((shlN 1 W : Nat) : Int) ≤ nth rows k
      · go_wp2_with fail
        go_ret
        exact ⟨ret_bool (regB_row hlt (by simp [rowB]; omega)).symm, (by repeat (first | exact ext_refl _ | (with_reducible assumption) | refine ext_ext' ?_ _ | refine ext_alloc' ?_ _ | refine ext_drew' ?_))⟩
      · go_wp2_with fail
        go_roundw
        case rel => exact ⟨k + 1, hlt, int_succ k, allTo_succ HA.out (by simp [rowB]; omega), (by repeat (first | exact ext_refl _ | (with_reducible assumption) | refine ext_ext' ?_ _ | refine ext_alloc' ?_ _ | refine ext_drew' ?_))⟩
        case measure => simp [intOf]; omega
    · have hks := Lib.hid (show k = rows.length by omega)
      go_wp2_with fail
      go_ret
      exact ⟨ret_bool (by rw [HF.out, h1, h2, ← hks.out, HA.out]; rfl), (by repeat (first | exact ext_refl _ | (with_reducible assumption) | refine ext_ext' ?_ _ | refine ext_alloc' ?_ _ | refine ext_drew' ?_))⟩
theorem specIsRegion_any (wd : Int) (rows : List Int) (v : Value) (w : World) (h : IntsAt w v rows) :
    Calls Tryz.prog 36 #[.agg #[.int .i64 wd, v]] w fun e w' => e = .returned (.bool (regB wd rows)) ∧ ∃ x, w' = ext w x := by
  obtain ⟨a, b, o, cap, rfl, hc1, hc2, hc3, hcell⟩ := h.opn
  cases h1 : btw wd 1 6
  · clear hcell
    go_enter Tryz.func36, Tryz.ntmps36
    go_wp2_with (first | (go_at_call 49; refine (l1In_b _ _ _ _ (by assumption) _).mono ?_; rintro e w' ⟨rfl, xe, rfl⟩))
    go_ret
    exact ⟨ret_bool (regB_w h1).symm, (by repeat (first | exact ext_refl _ | (with_reducible assumption) | refine ext_ext' ?_ _ | refine ext_alloc' ?_ _ | refine ext_drew' ?_))⟩
  obtain ⟨b1, b2⟩ := btw_iff.1 h1
  cases h2 : btw rows.length 1 6
  · clear hcell
    go_enter Tryz.func36, Tryz.ntmps36
    go_wp2_with (first | (go_at_call 49; refine (l1In_b _ _ _ _ (by assumption) _).mono ?_; rintro e w' ⟨rfl, xe, rfl⟩))
    go_ret
    exact ⟨ret_bool (regB_h h2).symm, (by repeat (first | exact ext_refl _ | (with_reducible assumption) | refine ext_ext' ?_ _ | refine ext_alloc' ?_ _ | refine ext_drew' ?_))⟩
  obtain ⟨W, rfl⟩ : ∃ W : Nat, wd = W := ⟨wd.toNat, by omega⟩
  have h6 : Le6 W := ⟨by omega⟩
  have HF := Lib.hid (show regB W rows = (btw W 1 6 && btw rows.length 1 6 && allTo (fun k => rowB W (nth rows k)) rows.length) from rfl)
  go_enter Tryz.func36, Tryz.ntmps36
  go_wp2_with (first | (go_at_call 49; refine (l1In_b _ _ _ _ (by assumption) _).mono ?_; rintro e w' ⟨rfl, xe, rfl⟩))
  go_loopw [3] (fun i wr => ∃ k : Nat, k ≤ rows.length ∧ i = .int .i64 k ∧ allTo (fun k => rowB W (nth rows k)) k = true ∧ ∃ x, wr = ext (w.alloc (.cells #[.int .i64 W, .slice a rows.length cap] 29)) x) (fun i _ => rows.length - (intOf i).toNat)
  case atStart => exact ⟨0, Nat.zero_le _, rfl, rfl, (by repeat (first | exact ext_refl _ | (with_reducible assumption) | refine ext_ext' ?_ _ | refine ext_alloc' ?_ _ | refine ext_drew' ?_))⟩
  case round =>
    obtain ⟨k, hk, rfl, hall, x, rfl⟩ := hrel
    have HA := Lib.hid hall
    clear hall
    by_cases hlt : k < rows.length
    · obtain ⟨hb, hi, hck⟩ := hcell k hlt
      clear hcell
      by_cases hneg : nth rows k < 0
      · go_wp2_with fail
        refine wp_region_ext_lit (by kernel_rfl) (by kernel_rfl) ?_
        repeat (go_big_quiet_step (fail))
        refine wpQuiet_nil ?_
        intro _ hwq
        obtain ⟨xq, hwq⟩ := hwq
        subst hwq
        go_wp2_with fail
        go_ret
        exact ⟨ret_bool (regB_row hlt (by simp [rowB]; omega)).symm, (by repeat (first | exact ext_refl _ | (with_reducible assumption) | refine ext_ext' ?_ _ | refine ext_alloc' ?_ _ | refine ext_drew' ?_))⟩
      have hneg' : decide (nth rows k < 0) = false := decide_eq_false hneg
      by_cases hbig : ((shlN 1 W : Nat) : Int) ≤ nth rows k
      · go_wp2_with fail
        refine wp_region_ext_lit (by kernel_rfl) (by kernel_rfl) ?_
        repeat (go_big_quiet_step (fail))
        refine wpQuiet_nil ?_
        intro _ hwq
        obtain ⟨xq, hwq⟩ := hwq
        subst hwq
        go_wp2_with fail
        go_ret
        exact ⟨ret_bool (regB_row hlt (by simp [rowB]; omega)).symm, (by repeat (first | exact ext_refl _ | (with_reducible assumption) | refine ext_ext' ?_ _ | refine ext_alloc' ?_ _ | refine ext_drew' ?_))⟩
      · have hbig' : decide (((shlN 1 W : Nat) : Int) ≤ nth rows k) = false := decide_eq_false hbig
        go_wp2_with fail
        refine wp_region_ext_lit (by kernel_rfl) (by kernel_rfl) ?_
        repeat (go_big_quiet_step (fail))
        refine wpQuiet_nil ?_
        intro _ hwq
        obtain ⟨xq, hwq⟩ := hwq
        subst hwq
        go_wp2_with fail
        go_roundw
        case rel => exact ⟨k + 1, hlt, int_succ k, allTo_succ HA.out (by simp [rowB]; omega), (by repeat (first | exact ext_refl _ | (with_reducible assumption) | refine ext_ext' ?_ _ | refine ext_alloc' ?_ _ | refine ext_drew' ?_))⟩
        case measure => simp [intOf]; omega
    · have hks := Lib.hid (show k = rows.length by omega)
      go_wp2_with fail
      go_ret
      exact ⟨ret_bool (by rw [HF.out, h1, h2, ← hks.out, HA.out]; rfl), (by repeat (first | exact ext_refl _ | (with_reducible assumption) | refine ext_ext' ?_ _ | refine ext_alloc' ?_ _ | refine ext_drew' ?_))⟩
end Go.Proofs.YtncmnmbapalonaaGreat
