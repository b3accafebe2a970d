/- For all lists of int the program's IsRecurrence returns what the reference's returns: the law FnExactIsRecurrence answers true. No condition. -/
import Derived.Test.YtpmlndnhofchmaaRows
import Derived.WalkKit
import Derived.ProofKit
import Derived.OpenShut
import Derived.BigQuiet
import Derived.Lib.Hide
import Derived.Deep.QuietTactic
import Derived.Outline
import Derived.Test.YtpmlndnhofchmaaDots
import Derived.Test.YtpmlndnhofchmaaCopyints
import Derived.Test.YtpmlndnhofchmaaOpens
namespace Go.Proofs.Ytpmlndnhofchmaa
open Go.ChangeShapes Go.WideShapes Go.ChangeAt Go.RowKit
set_option linter.unusedVariables false
theorem isRecLaw_any (l c : List Int) (vl vc : Value) (w : World) (hl : IntsAt w vl l) (_ : ∀ n ∈ l, (Lit.int .i64 n).wf = true) (hc : IntsAt w vc c) (_ : ∀ n ∈ c, (Lit.int .i64 n).wf = true) :
    Calls Try.prog 6 #[vl, vc] w fun e w' => e = .returned (.bool true) ∧ Below w.heap.size w w' := by
  have hl0 := hl
  have hc0 := hc
  obtain ⟨a, b, o, cap, rfl, hl1, hl2, hl3, hlc⟩ := hl.opn
  obtain ⟨a', b', o', cap', rfl, hc1, hc2, hc3, hcc⟩ := hc.opn
  clear hcc hlc hl hc
  by_cases h1 : (1048576 : Int) < l.length
  · go_enter Try.func6, Try.ntmps6
    go_wp2_with fail
    go_ret
    exact ⟨rfl, Below.refl _ _⟩
  by_cases h2 : (1048576 : Int) < c.length
  · go_enter Try.func6, Try.ntmps6
    go_wp2_with fail
    go_ret
    exact ⟨rfl, Below.refl _ _⟩
  have e1 := eqInts_self l
  have e2 := eqInts_self c
  go_enter Try.func6, Try.ntmps6
  go_wp2_with (first | (go_at_call 16; refine (toIntS_any _ _ _ (by first | (with_reducible assumption) | exact IntsAt.mono (by with_reducible assumption) (bel_of_ext (by repeat (first | exact ext_refl _ | (with_reducible assumption) | refine ext_ext' ?_ _ | refine ext_alloc' ?_ _ | refine ext_drew' ?_)))) (by omega)).mono ?_; rintro e w' ⟨u, xe, rfl, rfl, own⟩; have io := IntsAt_own own) | (go_at_call 15; refine (isRecSpec_any _ _ _ _ _ (by first | (with_reducible assumption) | exact IntsAt.mono (by with_reducible assumption) (bel_of_ext (by repeat (first | exact ext_refl _ | (with_reducible assumption) | refine ext_ext' ?_ _ | refine ext_alloc' ?_ _ | refine ext_drew' ?_)))) (by first | (with_reducible assumption) | exact IntsAt.mono (by with_reducible assumption) (bel_of_ext (by repeat (first | exact ext_refl _ | (with_reducible assumption) | refine ext_ext' ?_ _ | refine ext_alloc' ?_ _ | refine ext_drew' ?_))))).mono ?_; rintro e w' ⟨rfl, xe, rfl⟩) | (go_at_call 17; refine (isRec_any _ _ _ _ _ (by first | (with_reducible assumption) | exact IntsAt.mono (by with_reducible assumption) (bel_of_ext (by repeat (first | exact ext_refl _ | (with_reducible assumption) | refine ext_ext' ?_ _ | refine ext_alloc' ?_ _ | refine ext_drew' ?_)))) (by first | (with_reducible assumption) | exact IntsAt.mono (by with_reducible assumption) (bel_of_ext (by repeat (first | exact ext_refl _ | (with_reducible assumption) | refine ext_ext' ?_ _ | refine ext_alloc' ?_ _ | refine ext_drew' ?_))))).mono ?_; rintro e w' ⟨rfl, xe, rfl⟩) | (go_at_call 18; refine (eqIntS_any _ _ _ _ _ (by first | (with_reducible assumption) | exact IntsAt.mono (by with_reducible assumption) (bel_of_ext (by repeat (first | exact ext_refl _ | (with_reducible assumption) | refine ext_ext' ?_ _ | refine ext_alloc' ?_ _ | refine ext_drew' ?_)))) (by first | (with_reducible assumption) | exact IntsAt.mono (by with_reducible assumption) (bel_of_ext (by repeat (first | exact ext_refl _ | (with_reducible assumption) | refine ext_ext' ?_ _ | refine ext_alloc' ?_ _ | refine ext_drew' ?_))))).mono ?_; rintro e w' ⟨rfl, xe, rfl⟩))
  go_ret
  exact ⟨rfl, bel_of_ext (by repeat (first | exact ext_refl _ | (with_reducible assumption) | refine ext_ext' ?_ _ | refine ext_alloc' ?_ _ | refine ext_drew' ?_))⟩
theorem own_FnExactIsRecurrence : ownKnob Try.prog.godebug = none := by kernel_rfl
theorem laidOut_FnExactIsRecurrence : laidOutB Try.prog = true := by kernel_rfl
set_option maxRecDepth 100000 in
theorem lifted_FnExactIsRecurrence (os : Os) (started : os.Started) (H : Type) (enc : TypeId × Value → H) :
    ReturnsInHanded {} Try.checked os 6 .any (Rows.fnExactIsRecurrenceSpec.pre6 enc Try.prog Try.f6 Rows.fnExactIsRecurrenceRow.domain false) (Rows.fnExactIsRecurrenceSpec.post enc Try.prog Try.f6 false true false false) := by
  refine returnsInHanded_of_change (C := Try.checked) own_FnExactIsRecurrence started (by kernel_rfl) Try.func6
    (ChangeSpec.witness6 (enc := enc) (C := Try.checked) false ⟨#[], #[.slice none 0 0, .slice none 0 0], []⟩ 8 (by kernel_rfl) (by kernel_rfl) (by kernel_rfl) (by kernel_rfl)) ?_
  intro W base args ds gs before hval0 hW hcnd _
  have hval : ∀ (j : Nat) t v, Try.f6.params[j]? = some t → args[j]? = some v → Value.okWide Try.prog W .any base t v := hval0
  have hW' := hW
  obtain ⟨p, q, hA0, hV, rfl, hfz, hnd⟩ := hW
  have hA : DataW.TrodAll enc Try.prog W 0 (fun _ => true) true Try.f6.params.toList args.toList ds p := hA0
  rw [Try.params6] at hA hval
  obtain ⟨v0, vs0, d0, ds0, p0, q0, hargs, rfl, rfl, h0, r0⟩ := trodAll_cons hA
  obtain ⟨v1, vs1, d1, ds1, p1, q1, rfl, rfl, rfl, h1, r1⟩ := trodAll_cons r0
  obtain ⟨rfl, rfl, rfl⟩ := trodAll_nil r1
  obtain rfl : args = #[v0, v1] := by cases args; simp_all
  obtain ⟨rfl, rfl⟩ := trodVars_none hV
  have k0 := h0
  have lt0 : ∀ x ∈ p0, x.block < W.heap.size := by obtain ⟨m, hm⟩ := k0; exact DataW.trod_lt m _ _ _ hm
  obtain ⟨z0, o0, ow0⟩ := open_IntsAt k0 (hval 0 25 v0 rfl rfl)
  have k1 := h1
  have lt1 : ∀ x ∈ p1, x.block < W.heap.size := by obtain ⟨m, hm⟩ := k1; exact DataW.trod_lt m _ _ _ hm
  obtain ⟨z1, o1, ow1⟩ := open_IntsAt k1 (hval 1 25 v1 rfl rfl)
  clear hA0 hval0
  refine (isRecLaw_any z0 z1 v0 v1 W o0 ow0 o1 ow1).mono fun e W' ⟨he, bel⟩ => ?_
  subst he
  exact ⟨_, rfl, _, _, _, [], _, [], hW', trodAll_mk1 (shut_bool Try.underlying4 _), (trodAll_cons_mk (Below.trod laidOut_FnExactIsRecurrence (by kernel_rfl) (of_decide_eq_true (by kernel_rfl)) k0 bel lt0) (trodAll_cons_mk (Below.trod laidOut_FnExactIsRecurrence (by kernel_rfl) (of_decide_eq_true (by kernel_rfl)) k1 bel lt1) trodAll_mk0)), rfl, bel.frame _, fun h => by cases h⟩
theorem over_FnExactIsRecurrence : Rows.fnExactIsRecurrenceRow.holds Try.pinned (OpenSpec.ofChange Rows.fnExactIsRecurrenceSpec) :=
  OpenClaim.holds_of_wide 6 Try.f6 rfl rfl rfl rfl rfl rfl rfl ⟨rfl, rfl, rfl, rfl, rfl⟩ rfl rfl rfl rfl rfl (by kernel_rfl) Try.func6 (by kernel_rfl)
    (of_decide_eq_true (by kernel_rfl)) (by unfold Func.isWrapper; first | (rw [if_pos (by decide +kernel)]; kernel_rfl) | (rw [if_neg (by decide +kernel)]; exact ⟨rfl, rfl⟩))
    (fun os started H enc _ => lifted_FnExactIsRecurrence os started H enc)
theorem FnExactIsRecurrence_holds : Rows.FnExactIsRecurrenceSaid := over_FnExactIsRecurrence
end Go.Proofs.Ytpmlndnhofchmaa
