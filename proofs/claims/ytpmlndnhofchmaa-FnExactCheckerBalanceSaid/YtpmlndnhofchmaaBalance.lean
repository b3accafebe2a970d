/- CheckerBalance of the program and of the reference. -/
import Derived.Test.YtpmlndnhofchmaaRows
import Derived.WalkKit
import Derived.ProofKit
import Derived.OpenShut
import Derived.BigQuiet
import Derived.Lib.Hide
import Derived.Deep.QuietTactic
import Derived.Outline
import Derived.Test.YtpmlndnhofchmaaShape
namespace Go.Proofs.Ytpmlndnhofchmaa
open Go.ChangeShapes Go.WideShapes Go.ChangeAt Go.RowKit
set_option linter.unusedVariables false
def bal (cs : List (Int × Int)) : Nat → Int := iter (fun k n => n + (1 - 2 * ((cx cs k + cy cs k) % 2))) 0
theorem bal_succ (cs : List (Int × Int)) (k : Nat) : bal cs (k + 1) = bal cs k + (1 - 2 * ((cx cs k + cy cs k) % 2)) := rfl
theorem bal_bd (cs : List (Int × Int)) (k : Nat) : -(k : Int) ≤ bal cs k ∧ bal cs k ≤ k := by
  induction k with
  | zero => exact ⟨by simp [bal, iter], by simp [bal, iter]⟩
  | succ k ih => rw [bal_succ]; omega
def balV (cs : List (Int × Int)) : Int := if shapeB cs then bal cs cs.length else 0
theorem implBal_any (cs : List (Int × Int)) (v : Value) (w : World) (h : CellsAt w v cs) :
    Calls Try.prog 22 #[v] w fun e w' => e = .returned (.int .i64 (balV cs)) ∧ ∃ x, w' = ext w x := by
  have h0 := h
  obtain ⟨a, b, o, cap, rfl, hc1, hc2, hc3, hcell⟩ := h.opn
  have HF := Lib.hid (show balV cs = if shapeB cs then bal cs cs.length else 0 from rfl)
  cases hs : shapeB cs
  · clear hcell
    go_enter Try.func22, Try.ntmps22
    go_wp2_with (first | (go_at_call 37; refine (isShape_any _ _ _ (by first | (with_reducible assumption) | (with_reducible exact IntsAt.mono (by assumption) (bel_of_ext (by repeat (first | exact ext_refl _ | (with_reducible assumption) | refine ext_ext' ?_ _ | refine ext_alloc' ?_ _ | refine ext_drew' ?_)))) | (with_reducible exact CellsAt.mono (by assumption) (bel_of_ext (by repeat (first | exact ext_refl _ | (with_reducible assumption) | refine ext_ext' ?_ _ | refine ext_alloc' ?_ _ | refine ext_drew' ?_)))))).mono ?_; rintro e w' ⟨rfl, xe, rfl⟩))
    go_ret
    exact ⟨ret_int (by rw [HF.out, hs]; rfl), (by repeat (first | exact ext_refl _ | (with_reducible assumption) | refine ext_ext' ?_ _ | refine ext_alloc' ?_ _ | refine ext_drew' ?_))⟩
  · obtain ⟨hl1, hl2, hbd⟩ := shapeB_bd hs
    go_enter Try.func22, Try.ntmps22
    go_wp2_with (first | (go_at_call 37; refine (isShape_any _ _ _ (by first | (with_reducible assumption) | (with_reducible exact IntsAt.mono (by assumption) (bel_of_ext (by repeat (first | exact ext_refl _ | (with_reducible assumption) | refine ext_ext' ?_ _ | refine ext_alloc' ?_ _ | refine ext_drew' ?_)))) | (with_reducible exact CellsAt.mono (by assumption) (bel_of_ext (by repeat (first | exact ext_refl _ | (with_reducible assumption) | refine ext_ext' ?_ _ | refine ext_alloc' ?_ _ | refine ext_drew' ?_)))))).mono ?_; rintro e w' ⟨rfl, xe, rfl⟩))
    go_loopw [3, 11] (fun n i wr => ∃ k : Nat, k ≤ cs.length ∧ i = .int .i64 k ∧ n = .int .i64 (bal cs k) ∧ ∃ x, wr = ext w x) (fun n i _ => cs.length - (intOf i).toNat)
    case atStart => exact ⟨0, Nat.zero_le _, rfl, rfl, (by repeat (first | exact ext_refl _ | (with_reducible assumption) | refine ext_ext' ?_ _ | refine ext_alloc' ?_ _ | refine ext_drew' ?_))⟩
    case round =>
      obtain ⟨k, hk, rfl, rfl, x, rfl⟩ := hrel
      have hbb := bal_bd cs k
      by_cases hlt : k < cs.length
      · obtain ⟨hb, hi, hck, hcy⟩ := hcell k hlt
        obtain ⟨b1, b2, b3, b4⟩ := hbd k hlt
        have HB := Lib.hid (bal_succ cs k)
        clear hcell hbd
        go_wp2_with fail
        go_roundw
        case rel => exact ⟨k + 1, hlt, int_succ k, by rw [HB.out], (by repeat (first | exact ext_refl _ | (with_reducible assumption) | refine ext_ext' ?_ _ | refine ext_alloc' ?_ _ | refine ext_drew' ?_))⟩
        case measure => simp [intOf]; omega
      · have hks := Lib.hid (show k = cs.length by omega)
        go_wp2_with fail
        go_ret
        exact ⟨ret_int (by rw [HF.out, hs, ← hks.out]; rfl), (by repeat (first | exact ext_refl _ | (with_reducible assumption) | refine ext_ext' ?_ _ | refine ext_alloc' ?_ _ | refine ext_drew' ?_))⟩
theorem specBal_any (cs : List (Int × Int)) (v : Value) (w : World) (h : CellsAt w v cs) :
    Calls Try.prog 20 #[v] w fun e w' => e = .returned (.int .i64 (balV cs)) ∧ ∃ x, w' = ext w x := by
  have h0 := h
  obtain ⟨a, b, o, cap, rfl, hc1, hc2, hc3, hcell⟩ := h.opn
  have HF := Lib.hid (show balV cs = if shapeB cs then bal cs cs.length else 0 from rfl)
  cases hs : shapeB cs
  · clear hcell
    by_cases hpos : 0 < cs.length
    all_goals
      go_enter Try.func20, Try.ntmps20
      go_wp2_with fail
      go_loopw [3, 4] (fun n i wr => i = .int .i64 0 ∧ n = .int .i64 0 ∧ ∃ x, wr = ext w x) (fun n i _ => 0)
      case atStart => exact ⟨rfl, rfl, (by repeat (first | exact ext_refl _ | (with_reducible assumption) | refine ext_ext' ?_ _ | refine ext_alloc' ?_ _ | refine ext_drew' ?_))⟩
      case round =>
        obtain ⟨rfl, rfl, x, rfl⟩ := hrel
        go_wp2_with (first | (go_at_call 35; refine (specIsShape_any _ _ _ (by first | (with_reducible assumption) | (with_reducible exact IntsAt.mono (by assumption) (bel_of_ext (by repeat (first | exact ext_refl _ | (with_reducible assumption) | refine ext_ext' ?_ _ | refine ext_alloc' ?_ _ | refine ext_drew' ?_)))) | (with_reducible exact CellsAt.mono (by assumption) (bel_of_ext (by repeat (first | exact ext_refl _ | (with_reducible assumption) | refine ext_ext' ?_ _ | refine ext_alloc' ?_ _ | refine ext_drew' ?_)))))).mono ?_; rintro e w' ⟨rfl, xe, rfl⟩))
        go_ret
        exact ⟨ret_int (by rw [HF.out, hs]; rfl), (by repeat (first | exact ext_refl _ | (with_reducible assumption) | refine ext_ext' ?_ _ | refine ext_alloc' ?_ _ | refine ext_drew' ?_))⟩
  · obtain ⟨hl1, hl2, hbd⟩ := shapeB_bd hs
    go_enter Try.func20, Try.ntmps20
    go_wp2_with fail
    go_loopw [3, 4] (fun n i wr => ∃ k : Nat, k ≤ cs.length ∧ i = .int .i64 k ∧ n = .int .i64 (bal cs k) ∧ ∃ x, wr = ext w x) (fun n i _ => cs.length - (intOf i).toNat)
    case atStart => exact ⟨0, Nat.zero_le _, rfl, rfl, (by repeat (first | exact ext_refl _ | (with_reducible assumption) | refine ext_ext' ?_ _ | refine ext_alloc' ?_ _ | refine ext_drew' ?_))⟩
    case round =>
      obtain ⟨k, hk, rfl, rfl, x, rfl⟩ := hrel
      have hbb := bal_bd cs k
      by_cases hlt : k < cs.length
      · obtain ⟨hb, hi, hck, hcy⟩ := hcell k hlt
        obtain ⟨b1, b2, b3, b4⟩ := hbd k hlt
        have HB := Lib.hid (bal_succ cs k)
        clear hcell hbd
        by_cases hev : (cx cs k + cy cs k) % 2 = 0
        · have HE := Lib.hid hev
          have hev' : ((cx cs k + cy cs k) % 2 == 0) = true := beq_iff_eq.2 hev
          clear hev
          go_wp2_with (first | (go_at_call 35; refine (specIsShape_any _ _ _ (by first | (with_reducible assumption) | (with_reducible exact IntsAt.mono (by assumption) (bel_of_ext (by repeat (first | exact ext_refl _ | (with_reducible assumption) | refine ext_ext' ?_ _ | refine ext_alloc' ?_ _ | refine ext_drew' ?_)))) | (with_reducible exact CellsAt.mono (by assumption) (bel_of_ext (by repeat (first | exact ext_refl _ | (with_reducible assumption) | refine ext_ext' ?_ _ | refine ext_alloc' ?_ _ | refine ext_drew' ?_)))))).mono ?_; rintro e w' ⟨rfl, xe, rfl⟩))
          refine wp_region_ext_lit (by kernel_rfl) (by kernel_rfl) ?_
          repeat (go_big_quiet_step (fail))
          refine wpQuiet_nil ?_
          intro _ hwq
          obtain ⟨xq, hwq⟩ := hwq
          subst hwq
          go_wp2_with fail
          go_roundw
          case rel => exact ⟨k + 1, hlt, int_succ k, by rw [HB.out, HE.out]; rfl, (by repeat (first | exact ext_refl _ | (with_reducible assumption) | refine ext_ext' ?_ _ | refine ext_alloc' ?_ _ | refine ext_drew' ?_))⟩
          case measure => simp [intOf]; omega
        · have HE := Lib.hid (show (cx cs k + cy cs k) % 2 = 1 by omega)
          have hev' : ((cx cs k + cy cs k) % 2 == 0) = false := beq_eq_false_iff_ne.2 hev
          clear hev
          go_wp2_with (first | (go_at_call 35; refine (specIsShape_any _ _ _ (by first | (with_reducible assumption) | (with_reducible exact IntsAt.mono (by assumption) (bel_of_ext (by repeat (first | exact ext_refl _ | (with_reducible assumption) | refine ext_ext' ?_ _ | refine ext_alloc' ?_ _ | refine ext_drew' ?_)))) | (with_reducible exact CellsAt.mono (by assumption) (bel_of_ext (by repeat (first | exact ext_refl _ | (with_reducible assumption) | refine ext_ext' ?_ _ | refine ext_alloc' ?_ _ | refine ext_drew' ?_)))))).mono ?_; rintro e w' ⟨rfl, xe, rfl⟩))
          refine wp_region_ext_lit (by kernel_rfl) (by kernel_rfl) ?_
          repeat (go_big_quiet_step (fail))
          refine wpQuiet_nil ?_
          intro _ hwq
          obtain ⟨xq, hwq⟩ := hwq
          subst hwq
          go_wp2_with fail
          go_roundw
          case rel => exact ⟨k + 1, hlt, int_succ k, by rw [HB.out, HE.out]; rfl, (by repeat (first | exact ext_refl _ | (with_reducible assumption) | refine ext_ext' ?_ _ | refine ext_alloc' ?_ _ | refine ext_drew' ?_))⟩
          case measure => simp [intOf]; omega
      · have hks := Lib.hid (show k = cs.length by omega)
        go_wp2_with fail
        go_ret
        exact ⟨ret_int (by rw [HF.out, hs, ← hks.out]; rfl), (by repeat (first | exact ext_refl _ | (with_reducible assumption) | refine ext_ext' ?_ _ | refine ext_alloc' ?_ _ | refine ext_drew' ?_))⟩
end Go.Proofs.Ytpmlndnhofchmaa
