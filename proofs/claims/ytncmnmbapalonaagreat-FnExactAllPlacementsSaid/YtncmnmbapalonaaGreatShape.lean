/- IsShape of the program and of the reference. -/
import Derived.Test.YtncmnmbapalonaaGreatRows
import Derived.WalkKit
import Derived.ProofKit
import Derived.OpenShut
import Derived.BigQuiet
import Derived.Lib.Hide
import Derived.Deep.QuietTactic
import Derived.Outline
import Derived.Test.YtncmnmbapalonaaGreatCells
namespace Go.Proofs.YtncmnmbapalonaaGreat
open Go.ChangeShapes Go.WideShapes Go.ChangeAt Go.RowKit
set_option linter.unusedVariables false
def shapeAt (cs : List (Int × Int)) (k : Nat) : Bool := onB (cx cs k) (cy cs k) && (k == 0 || bef (cx cs (k - 1)) (cy cs (k - 1)) (cx cs k) (cy cs k))
def shapeB (cs : List (Int × Int)) : Bool := allTo (shapeAt cs) cs.length && btw cs.length 1 8
theorem shapeB_no {cs : List (Int × Int)} {k : Nat} (h : k < cs.length) (hk : shapeAt cs k = false) : shapeB cs = false := by
  simp [shapeB, allTo_false h hk]
theorem shapeAt_off {cs : List (Int × Int)} {k : Nat} (h : onB (cx cs k) (cy cs k) = false) : shapeAt cs k = false := by simp [shapeAt, h]
theorem shapeAt_zero {cs : List (Int × Int)} {k : Nat} (h : onB (cx cs k) (cy cs k) = true) (hk : k = 0) : shapeAt cs k = true := by subst hk; simp [shapeAt, h]
theorem shapeAt_pos {cs : List (Int × Int)} {k : Nat} (h : onB (cx cs k) (cy cs k) = true) (hk : k ≠ 0) {b : Bool} (hb : bef (cx cs (k - 1)) (cy cs (k - 1)) (cx cs k) (cy cs k) = b) : shapeAt cs k = b := by simp [shapeAt, h, hk, hb]
theorem before_b (x y x' y' : Int) (b : Bool) (h : bef x y x' y' = b) (w : World) : Calls Tryz.prog 82 #[.agg #[.int .i64 x, .int .i64 y], .agg #[.int .i64 x', .int .i64 y']] w fun e w' => e = .returned (.bool b) ∧ ∃ x, w' = ext w x := h ▸ before_any x y x' y' w
theorem onBoard_b (x y : Int) (b : Bool) (h : onB x y = b) (w : World) : Calls Tryz.prog 81 #[.agg #[.int .i64 x, .int .i64 y]] w fun e w' => e = .returned (.bool b) ∧ ∃ x, w' = ext w x := h ▸ onBoard_any x y w
theorem isShape_any (cs : List (Int × Int)) (v : Value) (w : World) (h : CellsAt w v cs) :
    Calls Tryz.prog 76 #[v] w fun e w' => e = .returned (.bool (shapeB cs)) ∧ ∃ x, w' = ext w x := by
  obtain ⟨a, b, o, cap, rfl, hc1, hc2, hc3, hcell⟩ := h.opn
  go_enter Tryz.func76, Tryz.ntmps76
  go_wp2_with fail
  go_loopw [7] (fun i wr => ∃ k : Nat, k ≤ cs.length ∧ i = .int .i64 k ∧ allTo (shapeAt cs) k = true ∧ ∃ x, wr = ext w x) (fun i _ => cs.length - (intOf i).toNat)
  case atStart => exact ⟨0, Nat.zero_le _, rfl, rfl, (by repeat (first | exact ext_refl _ | (with_reducible assumption) | refine ext_ext' ?_ _ | refine ext_alloc' ?_ _ | refine ext_drew' ?_))⟩
  case round =>
    obtain ⟨k, hk, rfl, hall, x, rfl⟩ := hrel
    have HA := Lib.hid hall
    clear hall
    by_cases hlt : k < cs.length
    · obtain ⟨hb, hi, hcx, hcy⟩ := hcell k hlt
      cases hon : onB (cx cs k) (cy cs k)
      · clear hcell
        go_wp2_with fail
        refine wp_region_ext_lit (by kernel_rfl) (by kernel_rfl) ?_
        repeat (go_big_quiet_step ((first | (go_at_call 81; first | exact Calls_ext_of2 (onBoard_b _ _ _ hon _) | exact Calls_ext_of (onBoard_b _ _ _ hon _)))))
        refine wpQuiet_nil ?_
        intro _ hwq
        obtain ⟨xq, hwq⟩ := hwq
        subst hwq
        go_wp2_with fail
        go_ret
        exact ⟨ret_bool (shapeB_no hlt (shapeAt_off hon)).symm, (by repeat (first | exact ext_refl _ | (with_reducible assumption) | refine ext_ext' ?_ _ | refine ext_alloc' ?_ _ | refine ext_drew' ?_))⟩
      · by_cases hk0 : k = 0
        · have H0 := Lib.hid hk0
          have hd : decide (0 < k) = false := decide_eq_false (by omega)
          clear hcell hk0
          go_wp2_with fail
          refine wp_region_ext_lit (by kernel_rfl) (by kernel_rfl) ?_
          repeat (go_big_quiet_step ((first | (go_at_call 81; first | exact Calls_ext_of2 (onBoard_b _ _ _ hon _) | exact Calls_ext_of (onBoard_b _ _ _ hon _)))))
          refine wpQuiet_nil ?_
          intro _ hwq
          obtain ⟨xq, hwq⟩ := hwq
          subst hwq
          go_wp2_with fail
          go_roundw
          case rel => exact ⟨k + 1, hlt, int_succ k, allTo_succ HA.out (shapeAt_zero hon H0.out), (by repeat (first | exact ext_refl _ | (with_reducible assumption) | refine ext_ext' ?_ _ | refine ext_alloc' ?_ _ | refine ext_drew' ?_))⟩
          case measure => simp [intOf]; omega
        · obtain ⟨hb', hi', hcx', hcy'⟩ := hcell (k - 1) (by omega)
          have e : ((k - 1 : Nat) : Int) = (k : Int) - 1 := by omega
          rw [e] at hi'
          have hd : decide (0 < k) = true := decide_eq_true (by omega)
          have hk1 : 1 ≤ k := by omega
          have H0 := Lib.hid hk0
          clear hcell e hk0
          cases hbf : bef (cx cs (k - 1)) (cy cs (k - 1)) (cx cs k) (cy cs k)
          all_goals
            go_wp2_with fail
            refine wp_region_ext_lit (by kernel_rfl) (by kernel_rfl) ?_
            repeat (go_big_quiet_step ((first | (go_at_call 81; first | exact Calls_ext_of2 (onBoard_b _ _ _ hon _) | exact Calls_ext_of (onBoard_b _ _ _ hon _)) | (go_at_call 82; first | exact Calls_ext_of2 (before_b _ _ _ _ _ hbf _) | exact Calls_ext_of (before_b _ _ _ _ _ hbf _)))))
            refine wpQuiet_nil ?_
            intro _ hwq
            obtain ⟨xq, hwq⟩ := hwq
            subst hwq
            go_wp2_with fail
          · go_ret
            exact ⟨ret_bool (shapeB_no hlt (shapeAt_pos hon H0.out hbf)).symm, (by repeat (first | exact ext_refl _ | (with_reducible assumption) | refine ext_ext' ?_ _ | refine ext_alloc' ?_ _ | refine ext_drew' ?_))⟩
          · go_roundw
            case rel => exact ⟨k + 1, hlt, int_succ k, allTo_succ HA.out (shapeAt_pos hon H0.out hbf), (by repeat (first | exact ext_refl _ | (with_reducible assumption) | refine ext_ext' ?_ _ | refine ext_alloc' ?_ _ | refine ext_drew' ?_))⟩
            case measure => simp [intOf]; omega
    · have hks := Lib.hid (show k = cs.length by omega)
      go_wp2_with (first | (go_at_call 69; refine (between_any _ _ _ _).mono ?_; rintro e w' ⟨rfl, xe, rfl⟩))
      go_ret
      exact ⟨ret_bool (by rw [shapeB, ← hks.out, HA.out]; rfl), (by repeat (first | exact ext_refl _ | (with_reducible assumption) | refine ext_ext' ?_ _ | refine ext_alloc' ?_ _ | refine ext_drew' ?_))⟩
theorem l2Before_b (x y x' y' : Int) (b : Bool) (h : bef x y x' y' = b) (w : World) : Calls Tryz.prog 70 #[.agg #[.int .i64 x, .int .i64 y], .agg #[.int .i64 x', .int .i64 y']] w fun e w' => e = .returned (.bool b) ∧ ∃ x, w' = ext w x := h ▸ l2Before_any x y x' y' w
theorem specIsShape_any (cs : List (Int × Int)) (v : Value) (w : World) (h : CellsAt w v cs) :
    Calls Tryz.prog 58 #[v] w fun e w' => e = .returned (.bool (shapeB cs)) ∧ ∃ x, w' = ext w x := by
  obtain ⟨a, b, o, cap, rfl, hc1, hc2, hc3, hcell⟩ := h.opn
  go_enter Tryz.func58, Tryz.ntmps58
  go_wp2_with fail
  go_loopw [3] (fun i wr => ∃ k : Nat, k ≤ cs.length ∧ i = .int .i64 k ∧ allTo (shapeAt cs) k = true ∧ ∃ x, wr = ext w x) (fun i _ => cs.length - (intOf i).toNat)
  case atStart => exact ⟨0, Nat.zero_le _, rfl, rfl, (by repeat (first | exact ext_refl _ | (with_reducible assumption) | refine ext_ext' ?_ _ | refine ext_alloc' ?_ _ | refine ext_drew' ?_))⟩
  case round =>
    obtain ⟨k, hk, rfl, hall, x, rfl⟩ := hrel
    have HA := Lib.hid hall
    clear hall
    by_cases hlt : k < cs.length
    · obtain ⟨hb, hi, hcx, hcy⟩ := hcell k hlt
      cases hx : btw (cx cs k) 0 7
      · have hon := Lib.hid (show onB (cx cs k) (cy cs k) = false by simp [onB, hx])
        clear hcell
        go_wp2_with fail
        refine wp_region_ext_lit (by kernel_rfl) (by kernel_rfl) ?_
        repeat (go_big_quiet_step ((first | (go_at_call 49; first | exact Calls_ext_of2 (l1In_b _ _ _ _ hx _) | exact Calls_ext_of (l1In_b _ _ _ _ hx _)))))
        refine wpQuiet_nil ?_
        intro _ hwq
        obtain ⟨xq, hwq⟩ := hwq
        subst hwq
        go_wp2_with fail
        go_ret
        exact ⟨ret_bool (shapeB_no hlt (shapeAt_off hon.out)).symm, (by repeat (first | exact ext_refl _ | (with_reducible assumption) | refine ext_ext' ?_ _ | refine ext_alloc' ?_ _ | refine ext_drew' ?_))⟩
      cases hy : btw (cy cs k) 0 7
      · have hon := Lib.hid (show onB (cx cs k) (cy cs k) = false by simp [onB, hy])
        clear hcell
        go_wp2_with fail
        refine wp_region_ext_lit (by kernel_rfl) (by kernel_rfl) ?_
        repeat (go_big_quiet_step ((first | (go_at_call 49; first | exact Calls_ext_of2 (l1In_b _ _ _ _ (by assumption) _) | exact Calls_ext_of (l1In_b _ _ _ _ (by assumption) _)))))
        refine wpQuiet_nil ?_
        intro _ hwq
        obtain ⟨xq, hwq⟩ := hwq
        subst hwq
        go_wp2_with fail
        go_ret
        exact ⟨ret_bool (shapeB_no hlt (shapeAt_off hon.out)).symm, (by repeat (first | exact ext_refl _ | (with_reducible assumption) | refine ext_ext' ?_ _ | refine ext_alloc' ?_ _ | refine ext_drew' ?_))⟩
      · have hon := Lib.hid (show onB (cx cs k) (cy cs k) = true by simp [onB, hx, hy])
        by_cases hk0 : k = 0
        · have H0 := Lib.hid hk0
          have hd : decide (0 < k) = false := decide_eq_false (by omega)
          clear hcell hk0
          go_wp2_with fail
          refine wp_region_ext_lit (by kernel_rfl) (by kernel_rfl) ?_
          repeat (go_big_quiet_step ((first | (go_at_call 49; first | exact Calls_ext_of2 (l1In_b _ _ _ _ (by assumption) _) | exact Calls_ext_of (l1In_b _ _ _ _ (by assumption) _)))))
          refine wpQuiet_nil ?_
          intro _ hwq
          obtain ⟨xq, hwq⟩ := hwq
          subst hwq
          go_wp2_with fail
          go_roundw
          case rel => exact ⟨k + 1, hlt, int_succ k, allTo_succ HA.out (shapeAt_zero hon.out H0.out), (by repeat (first | exact ext_refl _ | (with_reducible assumption) | refine ext_ext' ?_ _ | refine ext_alloc' ?_ _ | refine ext_drew' ?_))⟩
          case measure => simp [intOf]; omega
        · obtain ⟨hb', hi', hcx', hcy'⟩ := hcell (k - 1) (by omega)
          have e : ((k - 1 : Nat) : Int) = (k : Int) - 1 := by omega
          rw [e] at hi'
          have hd : decide (0 < k) = true := decide_eq_true (by omega)
          have hk1 : 1 ≤ k := by omega
          have H0 := Lib.hid hk0
          clear hcell e hk0
          cases hbf : bef (cx cs (k - 1)) (cy cs (k - 1)) (cx cs k) (cy cs k)
          all_goals
            go_wp2_with fail
            refine wp_region_ext_lit (by kernel_rfl) (by kernel_rfl) ?_
            repeat (go_big_quiet_step ((first | (go_at_call 49; first | exact Calls_ext_of2 (l1In_b _ _ _ _ (by assumption) _) | exact Calls_ext_of (l1In_b _ _ _ _ (by assumption) _)) | (go_at_call 70; first | exact Calls_ext_of2 (l2Before_b _ _ _ _ _ hbf _) | exact Calls_ext_of (l2Before_b _ _ _ _ _ hbf _)))))
            refine wpQuiet_nil ?_
            intro _ hwq
            obtain ⟨xq, hwq⟩ := hwq
            subst hwq
            go_wp2_with fail
          · go_ret
            exact ⟨ret_bool (shapeB_no hlt (shapeAt_pos hon.out H0.out hbf)).symm, (by repeat (first | exact ext_refl _ | (with_reducible assumption) | refine ext_ext' ?_ _ | refine ext_alloc' ?_ _ | refine ext_drew' ?_))⟩
          · go_roundw
            case rel => exact ⟨k + 1, hlt, int_succ k, allTo_succ HA.out (shapeAt_pos hon.out H0.out hbf), (by repeat (first | exact ext_refl _ | (with_reducible assumption) | refine ext_ext' ?_ _ | refine ext_alloc' ?_ _ | refine ext_drew' ?_))⟩
            case measure => simp [intOf]; omega
    · have hks := Lib.hid (show k = cs.length by omega)
      go_wp2_with (first | (go_at_call 49; refine (l1In_any _ _ _ _).mono ?_; rintro e w' ⟨rfl, xe, rfl⟩))
      go_ret
      exact ⟨ret_bool (by rw [shapeB, ← hks.out, HA.out]; rfl), (by repeat (first | exact ext_refl _ | (with_reducible assumption) | refine ext_ext' ?_ _ | refine ext_alloc' ?_ _ | refine ext_drew' ?_))⟩
theorem shapeB_bd {cs : List (Int × Int)} (h : shapeB cs = true) : 1 ≤ cs.length ∧ cs.length ≤ 8 ∧ ∀ k, k < cs.length → 0 ≤ cx cs k ∧ cx cs k ≤ 7 ∧ 0 ≤ cy cs k ∧ cy cs k ≤ 7 := by
  simp only [shapeB, Bool.and_eq_true, btw_iff] at h
  refine ⟨by omega, by omega, fun k hk => ?_⟩
  have := allTo_true.1 h.1 k hk
  simp only [shapeAt, onB, Bool.and_eq_true, btw_iff] at this
  omega
end Go.Proofs.YtncmnmbapalonaaGreat
