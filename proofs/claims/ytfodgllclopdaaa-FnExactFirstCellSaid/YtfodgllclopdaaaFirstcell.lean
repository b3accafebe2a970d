/- FirstCell of the program and of the reference. -/
import Derived.Test.YtfodgllclopdaaaRows
import Derived.WalkKit
import Derived.ProofKit
import Derived.OpenShut
import Derived.BigQuiet
import Derived.Lib.Hide
import Derived.Deep.QuietTactic
import Derived.Outline
import Derived.Test.YtfodgllclopdaaaMaskcells
namespace Go.Proofs.Ytfodgllclopdaaa
open Go.ChangeShapes Go.WideShapes Go.ChangeAt Go.RowKit
set_option linter.unusedVariables false
theorem CellsAt.opn0 {w : World} {v : Value} {cs : List (Int × Int)} (h : CellsAt w v cs) (hl : 0 < cs.length) :
    ∃ a b o cap, v = .slice a cs.length cap ∧ cs.length ≤ cap ∧ cs.length ≤ 9223372036854775807 ∧ cap ≤ 9223372036854775807 ∧ Old w b ∧ (∀ w', (Instr.indexAt 45 (.slice a cs.length cap) (.int .i64 0)).run Try.prog w' = .ok (.pointer (some ⟨b, o, none⟩)) w') ∧
      w.cell? ⟨b, o, none⟩ = some (.int .i64 (cx cs 0)) ∧ w.cell? ⟨b, o + 1, none⟩ = some (.int .i64 (cy cs 0)) := by
  obtain ⟨a, b, o, cap, rfl, d1, d2, d3, hc⟩ := h.opn
  obtain ⟨q1, q2, q3, q4⟩ := hc 0 hl
  rw [Nat.zero_mul, Nat.add_zero] at q3 q4
  exact ⟨a, b, o, cap, rfl, d1, d2, d3, q1, fun w' => by have := q2 w'; rwa [Nat.zero_mul, Nat.add_zero] at this, q3, q4⟩
def fcB (cs : List (Int × Int)) : Bool := decide (0 < cs.length)
/-- the first cell -/
def FcPost (w : World) (cs : List (Int × Int)) (e : Ending) (w' : World) : Prop := e = .returned (.tuple #[.int .i64 (cx cs 0), .int .i64 (cy cs 0), .bool (fcB cs)]) ∧ ∃ x, w' = ext w x
theorem FcPost.none {w w' : World} {cs : List (Int × Int)} (h : cs = []) (hx : ∃ x, w' = ext w x) : FcPost w cs (.returned (.tuple #[.int .i64 0, .int .i64 0, .bool false])) w' := by subst h; exact ⟨rfl, hx⟩
theorem FcPost.some {w w' : World} {cs : List (Int × Int)} (h : 0 < cs.length) (hx : ∃ x, w' = ext w x) : FcPost w cs (.returned (.tuple #[.int .i64 (cx cs 0), .int .i64 (cy cs 0), .bool true])) w' := ⟨by rw [fcB, decide_eq_true h], hx⟩
theorem implFc_any (wd : Int) (rows : List Int) (m : Int) (v : Value) (w : World) (h : IntsAt w v rows) (wm : (Lit.int .i64 m).wf = true) :
    Calls Try.prog 23 #[.agg #[.int .i64 wd, v], .int .i64 m] w (FcPost w (cmV wd rows m)) := by
  have h0 := h
  obtain ⟨a, b, o, cap, rfl, hc1, hc2, hc3, hcell⟩ := h.opn
  have h1 := h0.alloc (.cells #[.int .i64 wd, .slice a rows.length cap] 27)
  clear hcell
  rcases Nat.eq_zero_or_pos (cmV wd rows m).length with hl | hl
  · have HL := Lib.hid (List.eq_nil_of_length_eq_zero hl)
    clear hl
    go_enter Try.func23, Try.ntmps23
    go_wp2_with (first | (go_at_call 39; refine (implCm_any _ _ _ _ _ h1 wm).mono ?_; rintro e w' ⟨v', rfl, K⟩; rw [HL.out] at K; obtain ⟨ca, cc, rfl⟩ := K.rowCV; obtain ⟨xe, rfl⟩ := ext_of K.bel; clear K))
    go_ret3
    exact .none HL.out (by repeat (first | exact ext_refl _ | (with_reducible assumption) | refine ext_ext' ?_ _ | refine ext_alloc' ?_ _ | refine ext_drew' ?_))
  · have hne : (((cmV wd rows m).length : Int) == 0) = false := beq_eq_false_iff_ne.2 (by omega)
    go_enter Try.func23, Try.ntmps23
    go_wp2_with (first | (go_at_call 39; refine (implCm_any _ _ _ _ _ h1 wm).mono ?_; rintro e w' ⟨v', rfl, K⟩; have KC := K.cells0; obtain ⟨ca, cb, co, cc, rfl, d1, d2, d3, q1, q2, q3, q4⟩ := KC.opn0 hl; obtain ⟨xe, rfl⟩ := ext_of K.bel; clear K KC))
    refine wp_region_ext_lit (by kernel_rfl) (by kernel_rfl) ?_
    repeat (go_big_quiet_step (fail))
    refine wpQuiet_nil ?_
    intro _ hwq
    obtain ⟨xq, hwq⟩ := hwq
    subst hwq
    go_wp2_with fail
    go_ret3
    exact .some hl (by repeat (first | exact ext_refl _ | (with_reducible assumption) | refine ext_ext' ?_ _ | refine ext_alloc' ?_ _ | refine ext_drew' ?_))
theorem specFc_any (wd : Int) (rows : List Int) (m : Int) (v : Value) (w : World) (h : IntsAt w v rows) (wm : (Lit.int .i64 m).wf = true) :
    Calls Try.prog 22 #[.agg #[.int .i64 wd, v], .int .i64 m] w (FcPost w (cmV wd rows m)) := by
  have h0 := h
  obtain ⟨a, b, o, cap, rfl, hc1, hc2, hc3, hcell⟩ := h.opn
  have h1 := h0.alloc (.cells #[.int .i64 wd, .slice a rows.length cap] 27)
  clear hcell
  rcases Nat.eq_zero_or_pos (cmV wd rows m).length with hl | hl
  · have HL := Lib.hid (List.eq_nil_of_length_eq_zero hl)
    clear hl
    go_enter Try.func22, Try.ntmps22
    go_wp2_with (first | (go_at_call 38; refine (specCm_any _ _ _ _ _ h1 wm).mono ?_; rintro e w' ⟨v', rfl, K⟩; rw [HL.out] at K; obtain ⟨ca, cc, rfl⟩ := K.rowCV; obtain ⟨xe, rfl⟩ := ext_of K.bel; clear K))
    go_ret3
    exact .none HL.out (by repeat (first | exact ext_refl _ | (with_reducible assumption) | refine ext_ext' ?_ _ | refine ext_alloc' ?_ _ | refine ext_drew' ?_))
  · have hne : (((cmV wd rows m).length : Int) == 0) = false := beq_eq_false_iff_ne.2 (by omega)
    go_enter Try.func22, Try.ntmps22
    go_wp2_with (first | (go_at_call 38; refine (specCm_any _ _ _ _ _ h1 wm).mono ?_; rintro e w' ⟨v', rfl, K⟩; have KC := K.cells0; obtain ⟨ca, cb, co, cc, rfl, d1, d2, d3, q1, q2, q3, q4⟩ := KC.opn0 hl; obtain ⟨xe, rfl⟩ := ext_of K.bel; clear K KC))
    refine wp_region_ext_lit (by kernel_rfl) (by kernel_rfl) ?_
    repeat (go_big_quiet_step (fail))
    refine wpQuiet_nil ?_
    intro _ hwq
    obtain ⟨xq, hwq⟩ := hwq
    subst hwq
    go_wp2_with fail
    go_ret3
    exact .some hl (by repeat (first | exact ext_refl _ | (with_reducible assumption) | refine ext_ext' ?_ _ | refine ext_alloc' ?_ _ | refine ext_drew' ?_))
end Go.Proofs.Ytfodgllclopdaaa
