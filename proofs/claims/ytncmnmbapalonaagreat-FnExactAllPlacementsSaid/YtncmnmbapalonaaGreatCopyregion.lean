/- toRegion, eqRegion, szRegion: the law's own copies of regions; a region among the arguments, opened. -/
import Derived.Test.YtncmnmbapalonaaGreatRows
import Derived.WalkKit
import Derived.ProofKit
import Derived.OpenShut
import Derived.BigQuiet
import Derived.Lib.Hide
import Derived.Deep.QuietTactic
import Derived.Outline
import Derived.Lib.SmallJoins
import Derived.Test.YtncmnmbapalonaaGreatCopyints
import Derived.Test.YtncmnmbapalonaaGreatOpens
import Derived.Test.YtncmnmbapalonaaGreatBetween
import Derived.Test.YtncmnmbapalonaaGreatSzints
namespace Go.Proofs.YtncmnmbapalonaaGreat
open Go.ChangeShapes Go.WideShapes Go.ChangeAt Go.RowKit
set_option linter.unusedVariables false
def RegionAt (w : World) (v : Value) (r : Int × List Int) : Prop := ∃ u, v = .agg #[.int .i64 r.1, u] ∧ IntsAt w u r.2
theorem szRegion_any (wd : Int) (rows : List Int) (v : Value) (left : Int) (w : World) (h : IntsAt w v rows) (h1 : 0 ≤ left) (h2 : left ≤ 1048576) :
    Calls Tryz.prog 8 #[.agg #[.int .i64 wd, v], .int .i64 left] w fun e w' => e = .returned (.int .i64 (szLeftI rows.length left)) ∧ ∃ x, w' = ext w x := by
  rcases szLeftI_neg (n := rows.length) h1 with hneg | hpos
  · have HM := Lib.hid (szLeftI_m1 hneg h1)
    go_enter Tryz.func8, Tryz.ntmps8
    go_wp2_with (first | (go_at_call 34; refine (szIntS_any _ _ _ _ (by first | (with_reducible assumption) | (with_reducible exact IntsAt.mono (by assumption) (bel_of_ext (by repeat (first | exact ext_refl _ | (with_reducible assumption) | refine ext_ext' ?_ _ | refine ext_alloc' ?_ _ | refine ext_drew' ?_))))) h1 h2).mono ?_; rintro e w' ⟨rfl, xe, rfl⟩))
    go_ret
    exact ⟨ret_int (by rw [HM.out]), (by repeat (first | exact ext_refl _ | (with_reducible assumption) | refine ext_ext' ?_ _ | refine ext_alloc' ?_ _ | refine ext_drew' ?_))⟩
  · have hp : ¬ szLeftI rows.length left < 0 := by omega
    go_enter Tryz.func8, Tryz.ntmps8
    go_wp2_with (first | (go_at_call 34; refine (szIntS_any _ _ _ _ (by first | (with_reducible assumption) | (with_reducible exact IntsAt.mono (by assumption) (bel_of_ext (by repeat (first | exact ext_refl _ | (with_reducible assumption) | refine ext_ext' ?_ _ | refine ext_alloc' ?_ _ | refine ext_drew' ?_))))) h1 h2).mono ?_; rintro e w' ⟨rfl, xe, rfl⟩))
    go_ret
    exact ⟨rfl, (by repeat (first | exact ext_refl _ | (with_reducible assumption) | refine ext_ext' ?_ _ | refine ext_alloc' ?_ _ | refine ext_drew' ?_))⟩
theorem toRegion_any (wd : Int) (rows : List Int) (v : Value) (w : World) (h : IntsAt w v rows) (hs : rows.length ≤ 1099511627776) :
    Calls Tryz.prog 11 #[.agg #[.int .i64 wd, v]] w fun e w' => ∃ v', e = .returned (.agg #[.int .i64 wd, v']) ∧ (∃ x, w' = ext w x) ∧ OwnI w' w.heap.size v' rows := by
  go_enter Tryz.func11, Tryz.ntmps11
  go_wp2_with (first | (go_at_call 30; refine (toIntS_any _ _ _ (by first | (with_reducible assumption) | (with_reducible exact IntsAt.mono (by assumption) (bel_of_ext (by repeat (first | exact ext_refl _ | (with_reducible assumption) | refine ext_ext' ?_ _ | refine ext_alloc' ?_ _ | refine ext_drew' ?_))))) hs).mono ?_; rintro e w' ⟨u, rfl, ⟨xe, rfl⟩, own⟩; obtain ⟨ua, uc, rfl⟩ := own_slice own))
  refine bodyPost_ret (v := .agg #[.int .i64 wd, .slice ua rows.length uc]) (by simp [results, Tryz.results11, go_sem]) rfl ⟨_, rfl, (by repeat (first | exact ext_refl _ | (with_reducible assumption) | refine ext_ext' ?_ _ | refine ext_alloc' ?_ _ | refine ext_drew' ?_)), own_base (own_move own (by simp) (Nat.le_refl _)) (by simp; omega)⟩
def eqReg (wd : Int) (rows : List Int) (wd' : Int) (rows' : List Int) : Bool := (wd == wd') && eqInts rows rows'
theorem eqReg_self (wd : Int) (rows : List Int) : eqReg wd rows wd rows = true := by simp [eqReg, eqInts_self]
theorem eqRegion_any (wd wd' : Int) (rows rows' : List Int) (v v' : Value) (w : World) (h : IntsAt w v rows) (h' : IntsAt w v' rows') :
    Calls Tryz.prog 15 #[.agg #[.int .i64 wd, v], .agg #[.int .i64 wd', v']] w fun e w' => e = .returned (.bool (eqReg wd rows wd' rows')) ∧ ∃ x, w' = ext w x := by
  have HF := Lib.hid (show eqReg wd rows wd' rows' = ((wd == wd') && eqInts rows rows') from rfl)
  cases h1 : wd == wd'
  · have h1' : (wd != wd') = true := by rw [bne, h1]; rfl
    go_enter Tryz.func15, Tryz.ntmps15
    go_wp2_with fail
    go_ret
    exact ⟨ret_bool (by rw [HF.out, h1]; rfl), (by repeat (first | exact ext_refl _ | (with_reducible assumption) | refine ext_ext' ?_ _ | refine ext_alloc' ?_ _ | refine ext_drew' ?_))⟩
  · have h1' : (wd != wd') = false := by rw [bne, h1]; rfl
    cases h2 : eqInts rows rows'
    all_goals
      go_enter Tryz.func15, Tryz.ntmps15
      go_wp2_with (first | (go_at_call 14; refine (eqIntS_any _ _ _ _ _ (by first | (with_reducible assumption) | (with_reducible exact IntsAt.mono (by assumption) (bel_of_ext (by repeat (first | exact ext_refl _ | (with_reducible assumption) | refine ext_ext' ?_ _ | refine ext_alloc' ?_ _ | refine ext_drew' ?_))))) (by first | (with_reducible assumption) | (with_reducible exact IntsAt.mono (by assumption) (bel_of_ext (by repeat (first | exact ext_refl _ | (with_reducible assumption) | refine ext_ext' ?_ _ | refine ext_alloc' ?_ _ | refine ext_drew' ?_)))))).mono ?_; rintro e w' ⟨rfl, xe, rfl⟩))
      go_ret
      exact ⟨ret_bool (by rw [HF.out, h1, h2]; rfl), (by repeat (first | exact ext_refl _ | (with_reducible assumption) | refine ext_ext' ?_ _ | refine ext_alloc' ?_ _ | refine ext_drew' ?_))⟩
section
variable {H : Type} {enc : TypeId × Value → H} {W : World} {base : Nat}
set_option maxRecDepth 10000 in
open Go.Joins in
theorem open_RegionAt {v : Value} {d : DataW H} {p : List MemPlace} (h : DataW.Trod enc Tryz.prog W 0 (fun _ => true) true 24 v d p) (hv : Value.okWide Tryz.prog W .any base 24 v) :
    ∃ r, RegionAt W v r ∧ (Lit.int .i64 r.1).wf = true ∧ ∀ n ∈ r.2, (Lit.int .i64 n).wf = true := by
  obtain ⟨c0, c1, y0, y1, m, rfl, _, _, hy0, hy1⟩ := open_agg2 Tryz.underlying24 (by kernel_rfl) (by kernel_rfl) hv h
  obtain ⟨a, e0, _, wa⟩ := DataW.trod_int Tryz.underlying3 hy0
  simp only [List.cons.injEq, and_true] at e0
  subst e0
  obtain ⟨zs, hz, hw⟩ := IntsAt_trod hy1
  exact ⟨(a, zs), ⟨_, rfl, hz⟩, wa, hw⟩
end
end Go.Proofs.YtncmnmbapalonaaGreat
