/- Part 10 of a proof: finds, tllaw, cvlaw, draw8c, fmttiling. -/
import Derived.Test.YtchcepihmphdmaaGreatDoorRows
import Derived.WalkKit
import Derived.ProofKit
import Derived.OpenShut
import Derived.BigQuiet
import Derived.Lib.Hide
import Derived.Deep.QuietTactic
import Derived.Outline
import Derived.Deep.Cut
import Derived.Laws.IdiomStrings
import Derived.Test.YtchcepihmphdmaaGreatDoorMg1
import Derived.Test.YtchcepihmphdmaaGreatDoorMg2
import Derived.Test.YtchcepihmphdmaaGreatDoorMg3
import Derived.Test.YtchcepihmphdmaaGreatDoorMg4
import Derived.Test.YtchcepihmphdmaaGreatDoorMg5
import Derived.Test.YtchcepihmphdmaaGreatDoorMg6
import Derived.Test.YtchcepihmphdmaaGreatDoorMg7
import Derived.Test.YtchcepihmphdmaaGreatDoorMg8
import Derived.Test.YtchcepihmphdmaaGreatDoorMg9
namespace Go.Proofs.YtchcepihmphdmaaGreatDoor
set_option linter.unusedVariables false
section
open Go.ChangeShapes Go.WideShapes Go.ChangeAt Go.RowKit
theorem spec_none {all : List Nat} {M n : Nat} (h : (tl all M)[n]? = none) : (specS all M M (n + 1)).length ≤ n := by
  rw [specS_tl all M M (n + 1) (Nat.le_refl _) (by omega), List.length_take]
  have := List.getElem?_eq_none_iff.1 h
  omega
theorem spec_some {all : List Nat} {M n : Nat} {t : List Nat} (h : (tl all M)[n]? = some t) : (specS all M M (n + 1)).length = n + 1 ∧ (specS all M M (n + 1)).getD n [] = t := by
  rw [specS_tl all M M (n + 1) (Nat.le_refl _) (by omega)]
  obtain ⟨h1, h2⟩ := List.getElem?_eq_some_iff.1 h
  refine ⟨by rw [List.length_take]; omega, ?_⟩
  rw [List.getD, List.getElem?_take_of_lt (by omega), h]; rfl
set_option maxRecDepth 100000 in
set_option maxHeartbeats 8000000 in
theorem specFt_any (wd : Int) (rows : List Int) (pss : List (List (Int × Int))) (v u : Value) (w : World) (h : IntsAt w v rows) (hc : PiecesAt w u pss) :
    Calls Tryz.prog 66 #[.agg #[.int .i64 wd, v], u] w (ExtPost w (tnV wd rows pss 0)) := by
  obtain ⟨a, b, o, cap, rfl, hc1, hc2, hc3, hcell⟩ := h.opn
  have hbel := ((Below.refl w.heap.size w).alloc (Nat.le_refl _) (.cells #[.int .i64 wd, .slice a rows.length cap] 26))
  have h1 := h.mono hbel
  have hcu := hc.mono hbel
  obtain ⟨_, _, _, _, _, e1, _⟩ := hcu.opn
  subst e1
  clear hcell hc h hbel
  cases hr : regB wd rows
  · have HF := Lib.hid (tnV_no (n := 0) (show probB wd rows pss = false by simp [probB, hr]))
    have HR := Lib.hid hr
    clear hr
    go_enter Tryz.func66, Tryz.ntmps66
    go_wp2_with (first | (go_at_call 14; refine (specIsRegion_b2 _ _ _ HR.out _ _ (by first | (with_reducible assumption) | (with_reducible exact IntsAt.mono (by assumption) (bel_of_ext (by repeat first | apply wxr | with_reducible assumption | apply wxe | apply wxa | apply wxd))) | (with_reducible exact CellsAt.mono (by assumption) (bel_of_ext (by repeat first | apply wxr | with_reducible assumption | apply wxe | apply wxa | apply wxd))) | (with_reducible exact RegionAt.mono (by assumption) (bel_of_ext (by repeat first | apply wxr | with_reducible assumption | apply wxe | apply wxa | apply wxd))) | (with_reducible exact RowsAt.mono (by assumption) (bel_of_ext (by repeat first | apply wxr | with_reducible assumption | apply wxe | apply wxa | apply wxd))) | (with_reducible exact PiecesAt.mono (by assumption) (bel_of_ext (by repeat first | apply wxr | with_reducible assumption | apply wxe | apply wxa | apply wxd))))).mono ?_; rintro e w' ⟨rfl, xe, rfl⟩))
    go_ret2
    exact ExtPost.failE HF.out (((Held.start w).to (by repeat first | apply wxr | with_reducible assumption | apply wxe | apply wxa | apply wxd)).empty _ _)
  cases hp : piecesB pss
  · have HF := Lib.hid (tnV_no (n := 0) (show probB wd rows pss = false by simp [probB, hp]))
    have HR := Lib.hid hr
    have HP := Lib.hid hp
    clear hr hp
    go_enter Tryz.func66, Tryz.ntmps66
    go_wp2_with (first | (go_at_call 14; refine (specIsRegion_b2 _ _ _ HR.out _ _ (by first | (with_reducible assumption) | (with_reducible exact IntsAt.mono (by assumption) (bel_of_ext (by repeat first | apply wxr | with_reducible assumption | apply wxe | apply wxa | apply wxd))) | (with_reducible exact CellsAt.mono (by assumption) (bel_of_ext (by repeat first | apply wxr | with_reducible assumption | apply wxe | apply wxa | apply wxd))) | (with_reducible exact RegionAt.mono (by assumption) (bel_of_ext (by repeat first | apply wxr | with_reducible assumption | apply wxe | apply wxa | apply wxd))) | (with_reducible exact RowsAt.mono (by assumption) (bel_of_ext (by repeat first | apply wxr | with_reducible assumption | apply wxe | apply wxa | apply wxd))) | (with_reducible exact PiecesAt.mono (by assumption) (bel_of_ext (by repeat first | apply wxr | with_reducible assumption | apply wxe | apply wxa | apply wxd))))).mono ?_; rintro e w' ⟨rfl, xe, rfl⟩) | (go_at_call 69; refine (specPieces_b _ _ HP.out _ _ (by first | (with_reducible assumption) | (with_reducible exact IntsAt.mono (by assumption) (bel_of_ext (by repeat first | apply wxr | with_reducible assumption | apply wxe | apply wxa | apply wxd))) | (with_reducible exact CellsAt.mono (by assumption) (bel_of_ext (by repeat first | apply wxr | with_reducible assumption | apply wxe | apply wxa | apply wxd))) | (with_reducible exact RegionAt.mono (by assumption) (bel_of_ext (by repeat first | apply wxr | with_reducible assumption | apply wxe | apply wxa | apply wxd))) | (with_reducible exact RowsAt.mono (by assumption) (bel_of_ext (by repeat first | apply wxr | with_reducible assumption | apply wxe | apply wxa | apply wxd))) | (with_reducible exact PiecesAt.mono (by assumption) (bel_of_ext (by repeat first | apply wxr | with_reducible assumption | apply wxe | apply wxa | apply wxd))))).mono ?_; rintro e w' ⟨rfl, xe, rfl⟩))
    go_ret2
    exact ExtPost.failE HF.out (((Held.start w).to (by repeat first | apply wxr | with_reducible assumption | apply wxe | apply wxa | apply wxd)).empty _ _)
  have hb : probB wd rows pss = true := by simp [probB, hr, hp]
  have HF := Lib.hid (tnV_yes (n := 0) hb (by decide))
  have HV := Lib.hid (alV_yes hb)
  obtain ⟨W, rfl, hW1, hW2, hl1, hl2, hrow⟩ := regB_bd hr
  clear hrow
  have HR := Lib.hid hr
  have HP := Lib.hid hp
  have hM36 := maskR_36 hr
  have HM := Lib.hid (alN_masks W rows pss)
  have hcall := l8S_any (alN W rows pss) HM.out
  obtain ⟨l, hl⟩ : ∃ l, specS (alN W rows pss) (maskR W rows) (maskR W rows) (0 + 1) = l := ⟨_, rfl⟩
  have HL := Lib.hid hl
  have hcall2 : ∀ (v : Value) (q : Int), q = ((0 + 1 : Nat) : Int) → ∀ (w : World), IntsAt w v (castL (alN W rows pss)) → Calls Tryz.prog 121 #[v, .int .i64 ((maskR W rows : Nat) : Int), .int .i64 q] w (SrchPost w l) := fun v q hq w h => by
    have := hcall v (maskR W rows) (maskR W rows) (0 + 1) _ q (Nat.le_refl _) hM36 (by omega) (by omega) rfl hq w h
    rwa [hl] at this
  have HCALL := Lib.hid hcall2
  clear hr hp hb hl hcall hcall2
  cases ht : (tl (alN W rows pss) (maskR W rows))[0]? with
  | none =>
    have hln := spec_none ht
    rw [HL.out] at hln
    have HT := Lib.hid ht
    have hz : ((l.length : Int) == 0) = true := beq_iff_eq.2 (by omega)
    clear ht
    go_enter Tryz.func66, Tryz.ntmps66
    go_wp2_with (first | (go_at_call 14; refine (specIsRegion_b2 _ _ _ HR.out _ _ (by first | (with_reducible assumption) | (with_reducible exact IntsAt.mono (by assumption) (bel_of_ext (by repeat first | apply wxr | with_reducible assumption | apply wxe | apply wxa | apply wxd))) | (with_reducible exact CellsAt.mono (by assumption) (bel_of_ext (by repeat first | apply wxr | with_reducible assumption | apply wxe | apply wxa | apply wxd))) | (with_reducible exact RegionAt.mono (by assumption) (bel_of_ext (by repeat first | apply wxr | with_reducible assumption | apply wxe | apply wxa | apply wxd))) | (with_reducible exact RowsAt.mono (by assumption) (bel_of_ext (by repeat first | apply wxr | with_reducible assumption | apply wxe | apply wxa | apply wxd))) | (with_reducible exact PiecesAt.mono (by assumption) (bel_of_ext (by repeat first | apply wxr | with_reducible assumption | apply wxe | apply wxa | apply wxd))))).mono ?_; rintro e w' ⟨rfl, xe, rfl⟩) | (go_at_call 69; refine (specPieces_b _ _ HP.out _ _ (by first | (with_reducible assumption) | (with_reducible exact IntsAt.mono (by assumption) (bel_of_ext (by repeat first | apply wxr | with_reducible assumption | apply wxe | apply wxa | apply wxd))) | (with_reducible exact CellsAt.mono (by assumption) (bel_of_ext (by repeat first | apply wxr | with_reducible assumption | apply wxe | apply wxa | apply wxd))) | (with_reducible exact RegionAt.mono (by assumption) (bel_of_ext (by repeat first | apply wxr | with_reducible assumption | apply wxe | apply wxa | apply wxd))) | (with_reducible exact RowsAt.mono (by assumption) (bel_of_ext (by repeat first | apply wxr | with_reducible assumption | apply wxe | apply wxa | apply wxd))) | (with_reducible exact PiecesAt.mono (by assumption) (bel_of_ext (by repeat first | apply wxr | with_reducible assumption | apply wxe | apply wxa | apply wxd))))).mono ?_; rintro e w' ⟨rfl, xe, rfl⟩))
    refine wp_region_heldE (by kernel_rfl) ?_
    refine' takeE (i := 0) (v := _) rfl (by kernel_rfl) (by kernel_rfl) (by kernel_rfl) (fun _ _ _ h => h) (by kernel_rfl) (fun x => ?_) (by repeat first | apply wxr | with_reducible assumption | apply wxe | apply wxa | apply wxd) ?_
    rotate_left
    · (go_simp; try rfl)
    try simp only [List.getElem_toArray]
    try simp only [List.getElem_cons_succ]
    try simp only [List.getElem_cons_zero]
    try simp only [Act.put]
    try simp only [List.setIfInBounds_toArray]
    try simp only [List.set_cons_succ]
    try simp only [List.set_cons_zero]
    refine' takeE (i := 1) (v := _) rfl (by kernel_rfl) (by kernel_rfl) (by kernel_rfl) (fun _ _ _ h => h) (by kernel_rfl) (fun x => ?_) (by repeat first | apply wxr | with_reducible assumption | apply wxe | apply wxa | apply wxd) ?_
    rotate_left
    · (go_simp; try rfl)
    try simp only [List.getElem_toArray]
    try simp only [List.getElem_cons_succ]
    try simp only [List.getElem_cons_zero]
    try simp only [Act.put]
    try simp only [List.setIfInBounds_toArray]
    try simp only [List.set_cons_succ]
    try simp only [List.set_cons_zero]
    refine' takeE (i := 3) (v := _) rfl (by kernel_rfl) (by kernel_rfl) (by kernel_rfl) (fun _ _ _ h => h) (by kernel_rfl) (fun x => ?_) (by repeat first | apply wxr | with_reducible assumption | apply wxe | apply wxa | apply wxd) ?_
    rotate_left
    · (go_simp; try rfl)
    try simp only [List.getElem_toArray]
    try simp only [List.getElem_cons_succ]
    try simp only [List.getElem_cons_zero]
    try simp only [Act.put]
    try simp only [List.setIfInBounds_toArray]
    try simp only [List.set_cons_succ]
    try simp only [List.set_cons_zero]
    refine nextE (i := 2) rfl (by kernel_rfl) (by kernel_rfl) (fun K' hK' => ?_)
    go_wp2_with ((first | (go_at_call 108; refine (specAll_any _ _ _ _ _ _ (by first | (with_reducible assumption) | (with_reducible exact IntsAt.mono (by assumption) (bel_of_ext (by repeat first | apply wxr | with_reducible assumption | apply wxe | apply wxa | apply wxd))) | (with_reducible exact CellsAt.mono (by assumption) (bel_of_ext (by repeat first | apply wxr | with_reducible assumption | apply wxe | apply wxa | apply wxd))) | (with_reducible exact RegionAt.mono (by assumption) (bel_of_ext (by repeat first | apply wxr | with_reducible assumption | apply wxe | apply wxa | apply wxd))) | (with_reducible exact RowsAt.mono (by assumption) (bel_of_ext (by repeat first | apply wxr | with_reducible assumption | apply wxe | apply wxa | apply wxd))) | (with_reducible exact PiecesAt.mono (by assumption) (bel_of_ext (by repeat first | apply wxr | with_reducible assumption | apply wxe | apply wxa | apply wxd)))) (by first | (with_reducible assumption) | (with_reducible exact IntsAt.mono (by assumption) (bel_of_ext (by repeat first | apply wxr | with_reducible assumption | apply wxe | apply wxa | apply wxd))) | (with_reducible exact CellsAt.mono (by assumption) (bel_of_ext (by repeat first | apply wxr | with_reducible assumption | apply wxe | apply wxa | apply wxd))) | (with_reducible exact RegionAt.mono (by assumption) (bel_of_ext (by repeat first | apply wxr | with_reducible assumption | apply wxe | apply wxa | apply wxd))) | (with_reducible exact RowsAt.mono (by assumption) (bel_of_ext (by repeat first | apply wxr | with_reducible assumption | apply wxe | apply wxa | apply wxd))) | (with_reducible exact PiecesAt.mono (by assumption) (bel_of_ext (by repeat first | apply wxr | with_reducible assumption | apply wxe | apply wxa | apply wxd))))).mono ?_; rintro e w' ⟨u, rfl, K⟩; obtain ⟨xk, rfl⟩ := ext_of K.bel; rw [HV.out] at K; obtain ⟨ua, uc, rfl⟩ := K.rowVN; have HA := K.ints0; clear K) | (go_at_call 109; refine (specMaskQ_any W rows HR.out _ _ (by first | (with_reducible assumption) | (with_reducible exact IntsAt.mono (by assumption) (bel_of_ext (by repeat first | apply wxr | with_reducible assumption | apply wxe | apply wxa | apply wxd))) | (with_reducible exact CellsAt.mono (by assumption) (bel_of_ext (by repeat first | apply wxr | with_reducible assumption | apply wxe | apply wxa | apply wxd))) | (with_reducible exact RegionAt.mono (by assumption) (bel_of_ext (by repeat first | apply wxr | with_reducible assumption | apply wxe | apply wxa | apply wxd))) | (with_reducible exact RowsAt.mono (by assumption) (bel_of_ext (by repeat first | apply wxr | with_reducible assumption | apply wxe | apply wxa | apply wxd))) | (with_reducible exact PiecesAt.mono (by assumption) (bel_of_ext (by repeat first | apply wxr | with_reducible assumption | apply wxe | apply wxa | apply wxd))))).mono ?_; rintro e w' ⟨rfl, xe, rfl⟩) | (go_at_call 121; refine (HCALL.out _ _ (by omega) _ (by first | (with_reducible assumption) | (with_reducible exact IntsAt.mono (by assumption) (bel_of_ext (by repeat first | apply wxr | with_reducible assumption | apply wxe | apply wxa | apply wxd))) | (with_reducible exact CellsAt.mono (by assumption) (bel_of_ext (by repeat first | apply wxr | with_reducible assumption | apply wxe | apply wxa | apply wxd))) | (with_reducible exact RegionAt.mono (by assumption) (bel_of_ext (by repeat first | apply wxr | with_reducible assumption | apply wxe | apply wxa | apply wxd))) | (with_reducible exact RowsAt.mono (by assumption) (bel_of_ext (by repeat first | apply wxr | with_reducible assumption | apply wxe | apply wxa | apply wxd))) | (with_reducible exact PiecesAt.mono (by assumption) (bel_of_ext (by repeat first | apply wxr | with_reducible assumption | apply wxe | apply wxa | apply wxd))))).mono ?_; rintro e w' ⟨rv, rvs, rfl, hrl, K⟩; obtain ⟨xs, rfl⟩ := ext_of K.bel; rw [← List.append_nil (grpR rv rvs (castLL l))] at K; obtain ⟨ra, rc, rfl⟩ := K.grpQ; clear K)))
    refine hK'.out _ _ (by repeat first | apply wxr | with_reducible assumption | apply wxe | apply wxa | apply wxd) ?_
    clear hK' K'
    refine nextE (i := 4) rfl (by kernel_rfl) (by kernel_rfl) (fun K' hK' => ?_)
    go_wp2_with ((first | (go_at_call 108; refine (specAll_any _ _ _ _ _ _ (by first | (with_reducible assumption) | (with_reducible exact IntsAt.mono (by assumption) (bel_of_ext (by repeat first | apply wxr | with_reducible assumption | apply wxe | apply wxa | apply wxd))) | (with_reducible exact CellsAt.mono (by assumption) (bel_of_ext (by repeat first | apply wxr | with_reducible assumption | apply wxe | apply wxa | apply wxd))) | (with_reducible exact RegionAt.mono (by assumption) (bel_of_ext (by repeat first | apply wxr | with_reducible assumption | apply wxe | apply wxa | apply wxd))) | (with_reducible exact RowsAt.mono (by assumption) (bel_of_ext (by repeat first | apply wxr | with_reducible assumption | apply wxe | apply wxa | apply wxd))) | (with_reducible exact PiecesAt.mono (by assumption) (bel_of_ext (by repeat first | apply wxr | with_reducible assumption | apply wxe | apply wxa | apply wxd)))) (by first | (with_reducible assumption) | (with_reducible exact IntsAt.mono (by assumption) (bel_of_ext (by repeat first | apply wxr | with_reducible assumption | apply wxe | apply wxa | apply wxd))) | (with_reducible exact CellsAt.mono (by assumption) (bel_of_ext (by repeat first | apply wxr | with_reducible assumption | apply wxe | apply wxa | apply wxd))) | (with_reducible exact RegionAt.mono (by assumption) (bel_of_ext (by repeat first | apply wxr | with_reducible assumption | apply wxe | apply wxa | apply wxd))) | (with_reducible exact RowsAt.mono (by assumption) (bel_of_ext (by repeat first | apply wxr | with_reducible assumption | apply wxe | apply wxa | apply wxd))) | (with_reducible exact PiecesAt.mono (by assumption) (bel_of_ext (by repeat first | apply wxr | with_reducible assumption | apply wxe | apply wxa | apply wxd))))).mono ?_; rintro e w' ⟨u, rfl, K⟩; obtain ⟨xk, rfl⟩ := ext_of K.bel; rw [HV.out] at K; obtain ⟨ua, uc, rfl⟩ := K.rowVN; have HA := K.ints0; clear K) | (go_at_call 109; refine (specMaskQ_any W rows HR.out _ _ (by first | (with_reducible assumption) | (with_reducible exact IntsAt.mono (by assumption) (bel_of_ext (by repeat first | apply wxr | with_reducible assumption | apply wxe | apply wxa | apply wxd))) | (with_reducible exact CellsAt.mono (by assumption) (bel_of_ext (by repeat first | apply wxr | with_reducible assumption | apply wxe | apply wxa | apply wxd))) | (with_reducible exact RegionAt.mono (by assumption) (bel_of_ext (by repeat first | apply wxr | with_reducible assumption | apply wxe | apply wxa | apply wxd))) | (with_reducible exact RowsAt.mono (by assumption) (bel_of_ext (by repeat first | apply wxr | with_reducible assumption | apply wxe | apply wxa | apply wxd))) | (with_reducible exact PiecesAt.mono (by assumption) (bel_of_ext (by repeat first | apply wxr | with_reducible assumption | apply wxe | apply wxa | apply wxd))))).mono ?_; rintro e w' ⟨rfl, xe, rfl⟩) | (go_at_call 121; refine (HCALL.out _ _ (by omega) _ (by first | (with_reducible assumption) | (with_reducible exact IntsAt.mono (by assumption) (bel_of_ext (by repeat first | apply wxr | with_reducible assumption | apply wxe | apply wxa | apply wxd))) | (with_reducible exact CellsAt.mono (by assumption) (bel_of_ext (by repeat first | apply wxr | with_reducible assumption | apply wxe | apply wxa | apply wxd))) | (with_reducible exact RegionAt.mono (by assumption) (bel_of_ext (by repeat first | apply wxr | with_reducible assumption | apply wxe | apply wxa | apply wxd))) | (with_reducible exact RowsAt.mono (by assumption) (bel_of_ext (by repeat first | apply wxr | with_reducible assumption | apply wxe | apply wxa | apply wxd))) | (with_reducible exact PiecesAt.mono (by assumption) (bel_of_ext (by repeat first | apply wxr | with_reducible assumption | apply wxe | apply wxa | apply wxd))))).mono ?_; rintro e w' ⟨rv, rvs, rfl, hrl, K⟩; obtain ⟨xs, rfl⟩ := ext_of K.bel; rw [← List.append_nil (grpR rv rvs (castLL l))] at K; obtain ⟨ra, rc, rfl⟩ := K.grpQ; clear K)))
    refine hK'.out _ _ (by repeat first | apply wxr | with_reducible assumption | apply wxe | apply wxa | apply wxd) ?_
    clear hK' K'
    refine nextE (i := 5) rfl (by kernel_rfl) (by kernel_rfl) (fun K' hK' => ?_)
    go_wp2_with ((first | (go_at_call 108; refine (specAll_any _ _ _ _ _ _ (by first | (with_reducible assumption) | (with_reducible exact IntsAt.mono (by assumption) (bel_of_ext (by repeat first | apply wxr | with_reducible assumption | apply wxe | apply wxa | apply wxd))) | (with_reducible exact CellsAt.mono (by assumption) (bel_of_ext (by repeat first | apply wxr | with_reducible assumption | apply wxe | apply wxa | apply wxd))) | (with_reducible exact RegionAt.mono (by assumption) (bel_of_ext (by repeat first | apply wxr | with_reducible assumption | apply wxe | apply wxa | apply wxd))) | (with_reducible exact RowsAt.mono (by assumption) (bel_of_ext (by repeat first | apply wxr | with_reducible assumption | apply wxe | apply wxa | apply wxd))) | (with_reducible exact PiecesAt.mono (by assumption) (bel_of_ext (by repeat first | apply wxr | with_reducible assumption | apply wxe | apply wxa | apply wxd)))) (by first | (with_reducible assumption) | (with_reducible exact IntsAt.mono (by assumption) (bel_of_ext (by repeat first | apply wxr | with_reducible assumption | apply wxe | apply wxa | apply wxd))) | (with_reducible exact CellsAt.mono (by assumption) (bel_of_ext (by repeat first | apply wxr | with_reducible assumption | apply wxe | apply wxa | apply wxd))) | (with_reducible exact RegionAt.mono (by assumption) (bel_of_ext (by repeat first | apply wxr | with_reducible assumption | apply wxe | apply wxa | apply wxd))) | (with_reducible exact RowsAt.mono (by assumption) (bel_of_ext (by repeat first | apply wxr | with_reducible assumption | apply wxe | apply wxa | apply wxd))) | (with_reducible exact PiecesAt.mono (by assumption) (bel_of_ext (by repeat first | apply wxr | with_reducible assumption | apply wxe | apply wxa | apply wxd))))).mono ?_; rintro e w' ⟨u, rfl, K⟩; obtain ⟨xk, rfl⟩ := ext_of K.bel; rw [HV.out] at K; obtain ⟨ua, uc, rfl⟩ := K.rowVN; have HA := K.ints0; clear K) | (go_at_call 109; refine (specMaskQ_any W rows HR.out _ _ (by first | (with_reducible assumption) | (with_reducible exact IntsAt.mono (by assumption) (bel_of_ext (by repeat first | apply wxr | with_reducible assumption | apply wxe | apply wxa | apply wxd))) | (with_reducible exact CellsAt.mono (by assumption) (bel_of_ext (by repeat first | apply wxr | with_reducible assumption | apply wxe | apply wxa | apply wxd))) | (with_reducible exact RegionAt.mono (by assumption) (bel_of_ext (by repeat first | apply wxr | with_reducible assumption | apply wxe | apply wxa | apply wxd))) | (with_reducible exact RowsAt.mono (by assumption) (bel_of_ext (by repeat first | apply wxr | with_reducible assumption | apply wxe | apply wxa | apply wxd))) | (with_reducible exact PiecesAt.mono (by assumption) (bel_of_ext (by repeat first | apply wxr | with_reducible assumption | apply wxe | apply wxa | apply wxd))))).mono ?_; rintro e w' ⟨rfl, xe, rfl⟩) | (go_at_call 121; refine (HCALL.out _ _ (by omega) _ (by first | (with_reducible assumption) | (with_reducible exact IntsAt.mono (by assumption) (bel_of_ext (by repeat first | apply wxr | with_reducible assumption | apply wxe | apply wxa | apply wxd))) | (with_reducible exact CellsAt.mono (by assumption) (bel_of_ext (by repeat first | apply wxr | with_reducible assumption | apply wxe | apply wxa | apply wxd))) | (with_reducible exact RegionAt.mono (by assumption) (bel_of_ext (by repeat first | apply wxr | with_reducible assumption | apply wxe | apply wxa | apply wxd))) | (with_reducible exact RowsAt.mono (by assumption) (bel_of_ext (by repeat first | apply wxr | with_reducible assumption | apply wxe | apply wxa | apply wxd))) | (with_reducible exact PiecesAt.mono (by assumption) (bel_of_ext (by repeat first | apply wxr | with_reducible assumption | apply wxe | apply wxa | apply wxd))))).mono ?_; rintro e w' ⟨rv, rvs, rfl, hrl, K⟩; obtain ⟨xs, rfl⟩ := ext_of K.bel; rw [← List.append_nil (grpR rv rvs (castLL l))] at K; obtain ⟨ra, rc, rfl⟩ := K.grpQ; clear K)))
    refine hK'.out _ _ (by repeat first | apply wxr | with_reducible assumption | apply wxe | apply wxa | apply wxd) ?_
    clear hK' K'
    refine' takeE (i := 6) (v := _) rfl (by kernel_rfl) (by kernel_rfl) (by kernel_rfl) (fun _ _ _ h => h) (by kernel_rfl) (fun x => ?_) (by repeat first | apply wxr | with_reducible assumption | apply wxe | apply wxa | apply wxd) ?_
    rotate_left
    · (go_simp; try rfl)
    try simp only [List.getElem_toArray]
    try simp only [List.getElem_cons_succ]
    try simp only [List.getElem_cons_zero]
    try simp only [Act.put]
    try simp only [List.setIfInBounds_toArray]
    try simp only [List.set_cons_succ]
    try simp only [List.set_cons_zero]
    refine wpAnyH_done (by kernel_rfl) ?_ _
    go_wp2_with fail
    go_ret2
    exact ExtPost.failE (by rw [HF.out, odV, show (0 : Int).toNat = 0 from rfl, HT.out]; rfl) (((Held.start w).to (by repeat first | apply wxr | with_reducible assumption | apply wxe | apply wxa | apply wxd)).empty _ _)
  | some t =>
    obtain ⟨hln, hlt⟩ := spec_some ht
    rw [HL.out] at hln hlt
    have HT := Lib.hid ht
    have HLT := Lib.hid hlt
    have HLN := Lib.hid hln
    have hz : ((l.length : Int) == 0) = false := beq_eq_false_iff_ne.2 (by omega)
    clear ht hlt
    go_enter Tryz.func66, Tryz.ntmps66
    go_wp2_with (first | (go_at_call 14; refine (specIsRegion_b2 _ _ _ HR.out _ _ (by first | (with_reducible assumption) | (with_reducible exact IntsAt.mono (by assumption) (bel_of_ext (by repeat first | apply wxr | with_reducible assumption | apply wxe | apply wxa | apply wxd))) | (with_reducible exact CellsAt.mono (by assumption) (bel_of_ext (by repeat first | apply wxr | with_reducible assumption | apply wxe | apply wxa | apply wxd))) | (with_reducible exact RegionAt.mono (by assumption) (bel_of_ext (by repeat first | apply wxr | with_reducible assumption | apply wxe | apply wxa | apply wxd))) | (with_reducible exact RowsAt.mono (by assumption) (bel_of_ext (by repeat first | apply wxr | with_reducible assumption | apply wxe | apply wxa | apply wxd))) | (with_reducible exact PiecesAt.mono (by assumption) (bel_of_ext (by repeat first | apply wxr | with_reducible assumption | apply wxe | apply wxa | apply wxd))))).mono ?_; rintro e w' ⟨rfl, xe, rfl⟩) | (go_at_call 69; refine (specPieces_b _ _ HP.out _ _ (by first | (with_reducible assumption) | (with_reducible exact IntsAt.mono (by assumption) (bel_of_ext (by repeat first | apply wxr | with_reducible assumption | apply wxe | apply wxa | apply wxd))) | (with_reducible exact CellsAt.mono (by assumption) (bel_of_ext (by repeat first | apply wxr | with_reducible assumption | apply wxe | apply wxa | apply wxd))) | (with_reducible exact RegionAt.mono (by assumption) (bel_of_ext (by repeat first | apply wxr | with_reducible assumption | apply wxe | apply wxa | apply wxd))) | (with_reducible exact RowsAt.mono (by assumption) (bel_of_ext (by repeat first | apply wxr | with_reducible assumption | apply wxe | apply wxa | apply wxd))) | (with_reducible exact PiecesAt.mono (by assumption) (bel_of_ext (by repeat first | apply wxr | with_reducible assumption | apply wxe | apply wxa | apply wxd))))).mono ?_; rintro e w' ⟨rfl, xe, rfl⟩))
    refine wp_region_heldE (by kernel_rfl) ?_
    refine' takeE (i := 0) (v := _) rfl (by kernel_rfl) (by kernel_rfl) (by kernel_rfl) (fun _ _ _ h => h) (by kernel_rfl) (fun x => ?_) (by repeat first | apply wxr | with_reducible assumption | apply wxe | apply wxa | apply wxd) ?_
    rotate_left
    · (go_simp; try rfl)
    try simp only [List.getElem_toArray]
    try simp only [List.getElem_cons_succ]
    try simp only [List.getElem_cons_zero]
    try simp only [Act.put]
    try simp only [List.setIfInBounds_toArray]
    try simp only [List.set_cons_succ]
    try simp only [List.set_cons_zero]
    refine' takeE (i := 1) (v := _) rfl (by kernel_rfl) (by kernel_rfl) (by kernel_rfl) (fun _ _ _ h => h) (by kernel_rfl) (fun x => ?_) (by repeat first | apply wxr | with_reducible assumption | apply wxe | apply wxa | apply wxd) ?_
    rotate_left
    · (go_simp; try rfl)
    try simp only [List.getElem_toArray]
    try simp only [List.getElem_cons_succ]
    try simp only [List.getElem_cons_zero]
    try simp only [Act.put]
    try simp only [List.setIfInBounds_toArray]
    try simp only [List.set_cons_succ]
    try simp only [List.set_cons_zero]
    refine' takeE (i := 3) (v := _) rfl (by kernel_rfl) (by kernel_rfl) (by kernel_rfl) (fun _ _ _ h => h) (by kernel_rfl) (fun x => ?_) (by repeat first | apply wxr | with_reducible assumption | apply wxe | apply wxa | apply wxd) ?_
    rotate_left
    · (go_simp; try rfl)
    try simp only [List.getElem_toArray]
    try simp only [List.getElem_cons_succ]
    try simp only [List.getElem_cons_zero]
    try simp only [Act.put]
    try simp only [List.setIfInBounds_toArray]
    try simp only [List.set_cons_succ]
    try simp only [List.set_cons_zero]
    refine nextE (i := 2) rfl (by kernel_rfl) (by kernel_rfl) (fun K' hK' => ?_)
    go_wp2_with ((first | (go_at_call 108; refine (specAll_any _ _ _ _ _ _ (by first | (with_reducible assumption) | (with_reducible exact IntsAt.mono (by assumption) (bel_of_ext (by repeat first | apply wxr | with_reducible assumption | apply wxe | apply wxa | apply wxd))) | (with_reducible exact CellsAt.mono (by assumption) (bel_of_ext (by repeat first | apply wxr | with_reducible assumption | apply wxe | apply wxa | apply wxd))) | (with_reducible exact RegionAt.mono (by assumption) (bel_of_ext (by repeat first | apply wxr | with_reducible assumption | apply wxe | apply wxa | apply wxd))) | (with_reducible exact RowsAt.mono (by assumption) (bel_of_ext (by repeat first | apply wxr | with_reducible assumption | apply wxe | apply wxa | apply wxd))) | (with_reducible exact PiecesAt.mono (by assumption) (bel_of_ext (by repeat first | apply wxr | with_reducible assumption | apply wxe | apply wxa | apply wxd)))) (by first | (with_reducible assumption) | (with_reducible exact IntsAt.mono (by assumption) (bel_of_ext (by repeat first | apply wxr | with_reducible assumption | apply wxe | apply wxa | apply wxd))) | (with_reducible exact CellsAt.mono (by assumption) (bel_of_ext (by repeat first | apply wxr | with_reducible assumption | apply wxe | apply wxa | apply wxd))) | (with_reducible exact RegionAt.mono (by assumption) (bel_of_ext (by repeat first | apply wxr | with_reducible assumption | apply wxe | apply wxa | apply wxd))) | (with_reducible exact RowsAt.mono (by assumption) (bel_of_ext (by repeat first | apply wxr | with_reducible assumption | apply wxe | apply wxa | apply wxd))) | (with_reducible exact PiecesAt.mono (by assumption) (bel_of_ext (by repeat first | apply wxr | with_reducible assumption | apply wxe | apply wxa | apply wxd))))).mono ?_; rintro e w' ⟨u, rfl, K⟩; obtain ⟨xk, rfl⟩ := ext_of K.bel; rw [HV.out] at K; obtain ⟨ua, uc, rfl⟩ := K.rowVN; have HA := K.ints0; clear K) | (go_at_call 109; refine (specMaskQ_any W rows HR.out _ _ (by first | (with_reducible assumption) | (with_reducible exact IntsAt.mono (by assumption) (bel_of_ext (by repeat first | apply wxr | with_reducible assumption | apply wxe | apply wxa | apply wxd))) | (with_reducible exact CellsAt.mono (by assumption) (bel_of_ext (by repeat first | apply wxr | with_reducible assumption | apply wxe | apply wxa | apply wxd))) | (with_reducible exact RegionAt.mono (by assumption) (bel_of_ext (by repeat first | apply wxr | with_reducible assumption | apply wxe | apply wxa | apply wxd))) | (with_reducible exact RowsAt.mono (by assumption) (bel_of_ext (by repeat first | apply wxr | with_reducible assumption | apply wxe | apply wxa | apply wxd))) | (with_reducible exact PiecesAt.mono (by assumption) (bel_of_ext (by repeat first | apply wxr | with_reducible assumption | apply wxe | apply wxa | apply wxd))))).mono ?_; rintro e w' ⟨rfl, xe, rfl⟩) | (go_at_call 121; refine (HCALL.out _ _ (by omega) _ (by first | (with_reducible assumption) | (with_reducible exact IntsAt.mono (by assumption) (bel_of_ext (by repeat first | apply wxr | with_reducible assumption | apply wxe | apply wxa | apply wxd))) | (with_reducible exact CellsAt.mono (by assumption) (bel_of_ext (by repeat first | apply wxr | with_reducible assumption | apply wxe | apply wxa | apply wxd))) | (with_reducible exact RegionAt.mono (by assumption) (bel_of_ext (by repeat first | apply wxr | with_reducible assumption | apply wxe | apply wxa | apply wxd))) | (with_reducible exact RowsAt.mono (by assumption) (bel_of_ext (by repeat first | apply wxr | with_reducible assumption | apply wxe | apply wxa | apply wxd))) | (with_reducible exact PiecesAt.mono (by assumption) (bel_of_ext (by repeat first | apply wxr | with_reducible assumption | apply wxe | apply wxa | apply wxd))))).mono ?_; rintro e w' ⟨rv, rvs, rfl, hrl, K⟩; obtain ⟨xs, rfl⟩ := ext_of K.bel; rw [← List.append_nil (grpR rv rvs (castLL l))] at K; obtain ⟨g, gc, rfl⟩ := K.posQ (by omega); obtain ⟨r1, r2, r3⟩ := K.cellQ (hrl.trans (castLL_len l).symm) (j := 0) (by rw [castLL_len]; omega); have hro := K.own (rowI (vAt rvs 0) (rAt (castLL l) 0)) (List.mem_append_left _ (List.mem_cons_of_mem _ (rowsI_mem (hrl.trans (castLL_len l).symm) (by rw [castLL_len]; omega)))); rw [show rAt (castLL l) 0 = castL (l.getD 0 []) from castLL_at l 0, HLT.out] at r3 hro; obtain ⟨ta, tb, tq, tc, et, _, _, _, _⟩ := r3.opnN; rw [et] at r2 hro; have HRO := Lib.hid hro; clear K hrl hro r3 et)))
    refine hK'.out _ _ (by repeat first | apply wxr | with_reducible assumption | apply wxe | apply wxa | apply wxd) ?_
    clear hK' K'
    refine nextE (i := 4) rfl (by kernel_rfl) (by kernel_rfl) (fun K' hK' => ?_)
    go_wp2_with ((first | (go_at_call 108; refine (specAll_any _ _ _ _ _ _ (by first | (with_reducible assumption) | (with_reducible exact IntsAt.mono (by assumption) (bel_of_ext (by repeat first | apply wxr | with_reducible assumption | apply wxe | apply wxa | apply wxd))) | (with_reducible exact CellsAt.mono (by assumption) (bel_of_ext (by repeat first | apply wxr | with_reducible assumption | apply wxe | apply wxa | apply wxd))) | (with_reducible exact RegionAt.mono (by assumption) (bel_of_ext (by repeat first | apply wxr | with_reducible assumption | apply wxe | apply wxa | apply wxd))) | (with_reducible exact RowsAt.mono (by assumption) (bel_of_ext (by repeat first | apply wxr | with_reducible assumption | apply wxe | apply wxa | apply wxd))) | (with_reducible exact PiecesAt.mono (by assumption) (bel_of_ext (by repeat first | apply wxr | with_reducible assumption | apply wxe | apply wxa | apply wxd)))) (by first | (with_reducible assumption) | (with_reducible exact IntsAt.mono (by assumption) (bel_of_ext (by repeat first | apply wxr | with_reducible assumption | apply wxe | apply wxa | apply wxd))) | (with_reducible exact CellsAt.mono (by assumption) (bel_of_ext (by repeat first | apply wxr | with_reducible assumption | apply wxe | apply wxa | apply wxd))) | (with_reducible exact RegionAt.mono (by assumption) (bel_of_ext (by repeat first | apply wxr | with_reducible assumption | apply wxe | apply wxa | apply wxd))) | (with_reducible exact RowsAt.mono (by assumption) (bel_of_ext (by repeat first | apply wxr | with_reducible assumption | apply wxe | apply wxa | apply wxd))) | (with_reducible exact PiecesAt.mono (by assumption) (bel_of_ext (by repeat first | apply wxr | with_reducible assumption | apply wxe | apply wxa | apply wxd))))).mono ?_; rintro e w' ⟨u, rfl, K⟩; obtain ⟨xk, rfl⟩ := ext_of K.bel; rw [HV.out] at K; obtain ⟨ua, uc, rfl⟩ := K.rowVN; have HA := K.ints0; clear K) | (go_at_call 109; refine (specMaskQ_any W rows HR.out _ _ (by first | (with_reducible assumption) | (with_reducible exact IntsAt.mono (by assumption) (bel_of_ext (by repeat first | apply wxr | with_reducible assumption | apply wxe | apply wxa | apply wxd))) | (with_reducible exact CellsAt.mono (by assumption) (bel_of_ext (by repeat first | apply wxr | with_reducible assumption | apply wxe | apply wxa | apply wxd))) | (with_reducible exact RegionAt.mono (by assumption) (bel_of_ext (by repeat first | apply wxr | with_reducible assumption | apply wxe | apply wxa | apply wxd))) | (with_reducible exact RowsAt.mono (by assumption) (bel_of_ext (by repeat first | apply wxr | with_reducible assumption | apply wxe | apply wxa | apply wxd))) | (with_reducible exact PiecesAt.mono (by assumption) (bel_of_ext (by repeat first | apply wxr | with_reducible assumption | apply wxe | apply wxa | apply wxd))))).mono ?_; rintro e w' ⟨rfl, xe, rfl⟩) | (go_at_call 121; refine (HCALL.out _ _ (by omega) _ (by first | (with_reducible assumption) | (with_reducible exact IntsAt.mono (by assumption) (bel_of_ext (by repeat first | apply wxr | with_reducible assumption | apply wxe | apply wxa | apply wxd))) | (with_reducible exact CellsAt.mono (by assumption) (bel_of_ext (by repeat first | apply wxr | with_reducible assumption | apply wxe | apply wxa | apply wxd))) | (with_reducible exact RegionAt.mono (by assumption) (bel_of_ext (by repeat first | apply wxr | with_reducible assumption | apply wxe | apply wxa | apply wxd))) | (with_reducible exact RowsAt.mono (by assumption) (bel_of_ext (by repeat first | apply wxr | with_reducible assumption | apply wxe | apply wxa | apply wxd))) | (with_reducible exact PiecesAt.mono (by assumption) (bel_of_ext (by repeat first | apply wxr | with_reducible assumption | apply wxe | apply wxa | apply wxd))))).mono ?_; rintro e w' ⟨rv, rvs, rfl, hrl, K⟩; obtain ⟨xs, rfl⟩ := ext_of K.bel; rw [← List.append_nil (grpR rv rvs (castLL l))] at K; obtain ⟨g, gc, rfl⟩ := K.posQ (by omega); obtain ⟨r1, r2, r3⟩ := K.cellQ (hrl.trans (castLL_len l).symm) (j := 0) (by rw [castLL_len]; omega); have hro := K.own (rowI (vAt rvs 0) (rAt (castLL l) 0)) (List.mem_append_left _ (List.mem_cons_of_mem _ (rowsI_mem (hrl.trans (castLL_len l).symm) (by rw [castLL_len]; omega)))); rw [show rAt (castLL l) 0 = castL (l.getD 0 []) from castLL_at l 0, HLT.out] at r3 hro; obtain ⟨ta, tb, tq, tc, et, _, _, _, _⟩ := r3.opnN; rw [et] at r2 hro; have HRO := Lib.hid hro; clear K hrl hro r3 et)))
    refine hK'.out _ _ (by repeat first | apply wxr | with_reducible assumption | apply wxe | apply wxa | apply wxd) ?_
    clear hK' K'
    refine nextE (i := 5) rfl (by kernel_rfl) (by kernel_rfl) (fun K' hK' => ?_)
    go_wp2_with ((first | (go_at_call 108; refine (specAll_any _ _ _ _ _ _ (by first | (with_reducible assumption) | (with_reducible exact IntsAt.mono (by assumption) (bel_of_ext (by repeat first | apply wxr | with_reducible assumption | apply wxe | apply wxa | apply wxd))) | (with_reducible exact CellsAt.mono (by assumption) (bel_of_ext (by repeat first | apply wxr | with_reducible assumption | apply wxe | apply wxa | apply wxd))) | (with_reducible exact RegionAt.mono (by assumption) (bel_of_ext (by repeat first | apply wxr | with_reducible assumption | apply wxe | apply wxa | apply wxd))) | (with_reducible exact RowsAt.mono (by assumption) (bel_of_ext (by repeat first | apply wxr | with_reducible assumption | apply wxe | apply wxa | apply wxd))) | (with_reducible exact PiecesAt.mono (by assumption) (bel_of_ext (by repeat first | apply wxr | with_reducible assumption | apply wxe | apply wxa | apply wxd)))) (by first | (with_reducible assumption) | (with_reducible exact IntsAt.mono (by assumption) (bel_of_ext (by repeat first | apply wxr | with_reducible assumption | apply wxe | apply wxa | apply wxd))) | (with_reducible exact CellsAt.mono (by assumption) (bel_of_ext (by repeat first | apply wxr | with_reducible assumption | apply wxe | apply wxa | apply wxd))) | (with_reducible exact RegionAt.mono (by assumption) (bel_of_ext (by repeat first | apply wxr | with_reducible assumption | apply wxe | apply wxa | apply wxd))) | (with_reducible exact RowsAt.mono (by assumption) (bel_of_ext (by repeat first | apply wxr | with_reducible assumption | apply wxe | apply wxa | apply wxd))) | (with_reducible exact PiecesAt.mono (by assumption) (bel_of_ext (by repeat first | apply wxr | with_reducible assumption | apply wxe | apply wxa | apply wxd))))).mono ?_; rintro e w' ⟨u, rfl, K⟩; obtain ⟨xk, rfl⟩ := ext_of K.bel; rw [HV.out] at K; obtain ⟨ua, uc, rfl⟩ := K.rowVN; have HA := K.ints0; clear K) | (go_at_call 109; refine (specMaskQ_any W rows HR.out _ _ (by first | (with_reducible assumption) | (with_reducible exact IntsAt.mono (by assumption) (bel_of_ext (by repeat first | apply wxr | with_reducible assumption | apply wxe | apply wxa | apply wxd))) | (with_reducible exact CellsAt.mono (by assumption) (bel_of_ext (by repeat first | apply wxr | with_reducible assumption | apply wxe | apply wxa | apply wxd))) | (with_reducible exact RegionAt.mono (by assumption) (bel_of_ext (by repeat first | apply wxr | with_reducible assumption | apply wxe | apply wxa | apply wxd))) | (with_reducible exact RowsAt.mono (by assumption) (bel_of_ext (by repeat first | apply wxr | with_reducible assumption | apply wxe | apply wxa | apply wxd))) | (with_reducible exact PiecesAt.mono (by assumption) (bel_of_ext (by repeat first | apply wxr | with_reducible assumption | apply wxe | apply wxa | apply wxd))))).mono ?_; rintro e w' ⟨rfl, xe, rfl⟩) | (go_at_call 121; refine (HCALL.out _ _ (by omega) _ (by first | (with_reducible assumption) | (with_reducible exact IntsAt.mono (by assumption) (bel_of_ext (by repeat first | apply wxr | with_reducible assumption | apply wxe | apply wxa | apply wxd))) | (with_reducible exact CellsAt.mono (by assumption) (bel_of_ext (by repeat first | apply wxr | with_reducible assumption | apply wxe | apply wxa | apply wxd))) | (with_reducible exact RegionAt.mono (by assumption) (bel_of_ext (by repeat first | apply wxr | with_reducible assumption | apply wxe | apply wxa | apply wxd))) | (with_reducible exact RowsAt.mono (by assumption) (bel_of_ext (by repeat first | apply wxr | with_reducible assumption | apply wxe | apply wxa | apply wxd))) | (with_reducible exact PiecesAt.mono (by assumption) (bel_of_ext (by repeat first | apply wxr | with_reducible assumption | apply wxe | apply wxa | apply wxd))))).mono ?_; rintro e w' ⟨rv, rvs, rfl, hrl, K⟩; obtain ⟨xs, rfl⟩ := ext_of K.bel; rw [← List.append_nil (grpR rv rvs (castLL l))] at K; obtain ⟨g, gc, rfl⟩ := K.posQ (by omega); obtain ⟨r1, r2, r3⟩ := K.cellQ (hrl.trans (castLL_len l).symm) (j := 0) (by rw [castLL_len]; omega); have hro := K.own (rowI (vAt rvs 0) (rAt (castLL l) 0)) (List.mem_append_left _ (List.mem_cons_of_mem _ (rowsI_mem (hrl.trans (castLL_len l).symm) (by rw [castLL_len]; omega)))); rw [show rAt (castLL l) 0 = castL (l.getD 0 []) from castLL_at l 0, HLT.out] at r3 hro; obtain ⟨ta, tb, tq, tc, et, _, _, _, _⟩ := r3.opnN; rw [et] at r2 hro; have HRO := Lib.hid hro; clear K hrl hro r3 et)))
    refine hK'.out _ _ (by repeat first | apply wxr | with_reducible assumption | apply wxe | apply wxa | apply wxd) ?_
    clear hK' K'
    refine' takeE (i := 6) (v := _) rfl (by kernel_rfl) (by kernel_rfl) (by kernel_rfl) (fun _ _ _ h => h) (by kernel_rfl) (fun x => ?_) (by repeat first | apply wxr | with_reducible assumption | apply wxe | apply wxa | apply wxd) ?_
    rotate_left
    · (go_simp; try rfl)
    try simp only [List.getElem_toArray]
    try simp only [List.getElem_cons_succ]
    try simp only [List.getElem_cons_zero]
    try simp only [Act.put]
    try simp only [List.setIfInBounds_toArray]
    try simp only [List.set_cons_succ]
    try simp only [List.set_cons_zero]
    refine wpAnyH_done (by kernel_rfl) ?_ _
    go_wp2_with fail
    go_ret2
    exact ⟨.slice ta t.length tc, by rw [HF.out, odV, show (0 : Int).toNat = 0 from rfl, HT.out]; rfl, (by repeat first | apply wxr | with_reducible assumption | apply wxe | apply wxa | apply wxd), own_low (by rw [HF.out, odV, show (0 : Int).toNat = 0 from rfl, HT.out]; exact HRO.out) (by repeat first | apply wxr | with_reducible assumption | apply wxe | apply wxa | apply wxd)⟩
set_option maxRecDepth 100000 in
set_option maxHeartbeats 8000000 in
theorem specTn_any (wd : Int) (rows : List Int) (pss : List (List (Int × Int))) (n : Int) (v u : Value) (w : World) (h : IntsAt w v rows) (hc : PiecesAt w u pss) :
    Calls Tryz.prog 54 #[.agg #[.int .i64 wd, v], u, .int .i64 n] w (ExtPost w (tnV wd rows pss n)) := by
  obtain ⟨a, b, o, cap, rfl, hc1, hc2, hc3, hcell⟩ := h.opn
  have hbel := ((Below.refl w.heap.size w).alloc (Nat.le_refl _) (.cells #[.int .i64 wd, .slice a rows.length cap] 26))
  have h1 := h.mono hbel
  have hcu := hc.mono hbel
  obtain ⟨_, _, _, _, _, e1, _⟩ := hcu.opn
  subst e1
  clear hcell hc h hbel
  cases hr : regB wd rows
  · have HF := Lib.hid (tnV_no (n := n) (show probB wd rows pss = false by simp [probB, hr]))
    have HR := Lib.hid hr
    clear hr
    go_enter Tryz.func54, Tryz.ntmps54
    go_wp2_with (first | (go_at_call 14; refine (specIsRegion_b2 _ _ _ HR.out _ _ (by first | (with_reducible assumption) | (with_reducible exact IntsAt.mono (by assumption) (bel_of_ext (by repeat first | apply wxr | with_reducible assumption | apply wxe | apply wxa | apply wxd))) | (with_reducible exact CellsAt.mono (by assumption) (bel_of_ext (by repeat first | apply wxr | with_reducible assumption | apply wxe | apply wxa | apply wxd))) | (with_reducible exact RegionAt.mono (by assumption) (bel_of_ext (by repeat first | apply wxr | with_reducible assumption | apply wxe | apply wxa | apply wxd))) | (with_reducible exact RowsAt.mono (by assumption) (bel_of_ext (by repeat first | apply wxr | with_reducible assumption | apply wxe | apply wxa | apply wxd))) | (with_reducible exact PiecesAt.mono (by assumption) (bel_of_ext (by repeat first | apply wxr | with_reducible assumption | apply wxe | apply wxa | apply wxd))))).mono ?_; rintro e w' ⟨rfl, xe, rfl⟩))
    go_ret2
    exact ExtPost.failE HF.out (((Held.start w).to (by repeat first | apply wxr | with_reducible assumption | apply wxe | apply wxa | apply wxd)).empty _ _)
  cases hp : piecesB pss
  · have HF := Lib.hid (tnV_no (n := n) (show probB wd rows pss = false by simp [probB, hp]))
    have HR := Lib.hid hr
    have HP := Lib.hid hp
    clear hr hp
    go_enter Tryz.func54, Tryz.ntmps54
    go_wp2_with (first | (go_at_call 14; refine (specIsRegion_b2 _ _ _ HR.out _ _ (by first | (with_reducible assumption) | (with_reducible exact IntsAt.mono (by assumption) (bel_of_ext (by repeat first | apply wxr | with_reducible assumption | apply wxe | apply wxa | apply wxd))) | (with_reducible exact CellsAt.mono (by assumption) (bel_of_ext (by repeat first | apply wxr | with_reducible assumption | apply wxe | apply wxa | apply wxd))) | (with_reducible exact RegionAt.mono (by assumption) (bel_of_ext (by repeat first | apply wxr | with_reducible assumption | apply wxe | apply wxa | apply wxd))) | (with_reducible exact RowsAt.mono (by assumption) (bel_of_ext (by repeat first | apply wxr | with_reducible assumption | apply wxe | apply wxa | apply wxd))) | (with_reducible exact PiecesAt.mono (by assumption) (bel_of_ext (by repeat first | apply wxr | with_reducible assumption | apply wxe | apply wxa | apply wxd))))).mono ?_; rintro e w' ⟨rfl, xe, rfl⟩) | (go_at_call 69; refine (specPieces_b _ _ HP.out _ _ (by first | (with_reducible assumption) | (with_reducible exact IntsAt.mono (by assumption) (bel_of_ext (by repeat first | apply wxr | with_reducible assumption | apply wxe | apply wxa | apply wxd))) | (with_reducible exact CellsAt.mono (by assumption) (bel_of_ext (by repeat first | apply wxr | with_reducible assumption | apply wxe | apply wxa | apply wxd))) | (with_reducible exact RegionAt.mono (by assumption) (bel_of_ext (by repeat first | apply wxr | with_reducible assumption | apply wxe | apply wxa | apply wxd))) | (with_reducible exact RowsAt.mono (by assumption) (bel_of_ext (by repeat first | apply wxr | with_reducible assumption | apply wxe | apply wxa | apply wxd))) | (with_reducible exact PiecesAt.mono (by assumption) (bel_of_ext (by repeat first | apply wxr | with_reducible assumption | apply wxe | apply wxa | apply wxd))))).mono ?_; rintro e w' ⟨rfl, xe, rfl⟩))
    go_ret2
    exact ExtPost.failE HF.out (((Held.start w).to (by repeat first | apply wxr | with_reducible assumption | apply wxe | apply wxa | apply wxd)).empty _ _)
  have hb : probB wd rows pss = true := by simp [probB, hr, hp]
  cases hbt : btw n 0 199
  · have HF := Lib.hid (tnV_n (wd := wd) (rows := rows) (pss := pss) hbt)
    have HR := Lib.hid hr
    have HP := Lib.hid hp
    have HBT := Lib.hid hbt
    clear hr hp hb hbt
    go_enter Tryz.func54, Tryz.ntmps54
    go_wp2_with (first | (go_at_call 14; refine (specIsRegion_b2 _ _ _ HR.out _ _ (by first | (with_reducible assumption) | (with_reducible exact IntsAt.mono (by assumption) (bel_of_ext (by repeat first | apply wxr | with_reducible assumption | apply wxe | apply wxa | apply wxd))) | (with_reducible exact CellsAt.mono (by assumption) (bel_of_ext (by repeat first | apply wxr | with_reducible assumption | apply wxe | apply wxa | apply wxd))) | (with_reducible exact RegionAt.mono (by assumption) (bel_of_ext (by repeat first | apply wxr | with_reducible assumption | apply wxe | apply wxa | apply wxd))) | (with_reducible exact RowsAt.mono (by assumption) (bel_of_ext (by repeat first | apply wxr | with_reducible assumption | apply wxe | apply wxa | apply wxd))) | (with_reducible exact PiecesAt.mono (by assumption) (bel_of_ext (by repeat first | apply wxr | with_reducible assumption | apply wxe | apply wxa | apply wxd))))).mono ?_; rintro e w' ⟨rfl, xe, rfl⟩) | (go_at_call 69; refine (specPieces_b _ _ HP.out _ _ (by first | (with_reducible assumption) | (with_reducible exact IntsAt.mono (by assumption) (bel_of_ext (by repeat first | apply wxr | with_reducible assumption | apply wxe | apply wxa | apply wxd))) | (with_reducible exact CellsAt.mono (by assumption) (bel_of_ext (by repeat first | apply wxr | with_reducible assumption | apply wxe | apply wxa | apply wxd))) | (with_reducible exact RegionAt.mono (by assumption) (bel_of_ext (by repeat first | apply wxr | with_reducible assumption | apply wxe | apply wxa | apply wxd))) | (with_reducible exact RowsAt.mono (by assumption) (bel_of_ext (by repeat first | apply wxr | with_reducible assumption | apply wxe | apply wxa | apply wxd))) | (with_reducible exact PiecesAt.mono (by assumption) (bel_of_ext (by repeat first | apply wxr | with_reducible assumption | apply wxe | apply wxa | apply wxd))))).mono ?_; rintro e w' ⟨rfl, xe, rfl⟩) | (go_at_call 85; refine (l1In_b _ _ _ _ HBT.out _).mono ?_; rintro e w' ⟨rfl, xe, rfl⟩))
    go_ret2
    exact ExtPost.failE HF.out (((Held.start w).to (by repeat first | apply wxr | with_reducible assumption | apply wxe | apply wxa | apply wxd)).empty _ _)
  obtain ⟨n1, n2⟩ := btw_iff.1 hbt
  obtain ⟨N, rfl⟩ : ∃ N : Nat, n = N := ⟨n.toNat, by omega⟩
  have HBT := Lib.hid hbt
  have hN : N ≤ 199 := by omega
  have HF := Lib.hid (tnV_yes (n := (N : Int)) hb hbt)
  have HV := Lib.hid (alV_yes hb)
  obtain ⟨W, rfl, hW1, hW2, hl1, hl2, hrow⟩ := regB_bd hr
  clear hrow
  have HR := Lib.hid hr
  have HP := Lib.hid hp
  have hM36 := maskR_36 hr
  have HM := Lib.hid (alN_masks W rows pss)
  have hcall := l8S_any (alN W rows pss) HM.out
  obtain ⟨l, hl⟩ : ∃ l, specS (alN W rows pss) (maskR W rows) (maskR W rows) (N + 1) = l := ⟨_, rfl⟩
  have HL := Lib.hid hl
  have hcall2 : ∀ (v : Value) (q : Int), q = ((N + 1 : Nat) : Int) → ∀ (w : World), IntsAt w v (castL (alN W rows pss)) → Calls Tryz.prog 121 #[v, .int .i64 ((maskR W rows : Nat) : Int), .int .i64 q] w (SrchPost w l) := fun v q hq w h => by
    have := hcall v (maskR W rows) (maskR W rows) (N + 1) _ q (Nat.le_refl _) hM36 (by omega) (by omega) rfl hq w h
    rwa [hl] at this
  have HCALL := Lib.hid hcall2
  clear hr hp hb hl hcall hcall2
  cases ht : (tl (alN W rows pss) (maskR W rows))[N]? with
  | none =>
    have hln := spec_none ht
    rw [HL.out] at hln
    have HT := Lib.hid ht
    have hz : (l.length : Int) ≤ (N : Int) := by omega
    clear ht
    go_enter Tryz.func54, Tryz.ntmps54
    go_wp2_with (first | (go_at_call 14; refine (specIsRegion_b2 _ _ _ HR.out _ _ (by first | (with_reducible assumption) | (with_reducible exact IntsAt.mono (by assumption) (bel_of_ext (by repeat first | apply wxr | with_reducible assumption | apply wxe | apply wxa | apply wxd))) | (with_reducible exact CellsAt.mono (by assumption) (bel_of_ext (by repeat first | apply wxr | with_reducible assumption | apply wxe | apply wxa | apply wxd))) | (with_reducible exact RegionAt.mono (by assumption) (bel_of_ext (by repeat first | apply wxr | with_reducible assumption | apply wxe | apply wxa | apply wxd))) | (with_reducible exact RowsAt.mono (by assumption) (bel_of_ext (by repeat first | apply wxr | with_reducible assumption | apply wxe | apply wxa | apply wxd))) | (with_reducible exact PiecesAt.mono (by assumption) (bel_of_ext (by repeat first | apply wxr | with_reducible assumption | apply wxe | apply wxa | apply wxd))))).mono ?_; rintro e w' ⟨rfl, xe, rfl⟩) | (go_at_call 69; refine (specPieces_b _ _ HP.out _ _ (by first | (with_reducible assumption) | (with_reducible exact IntsAt.mono (by assumption) (bel_of_ext (by repeat first | apply wxr | with_reducible assumption | apply wxe | apply wxa | apply wxd))) | (with_reducible exact CellsAt.mono (by assumption) (bel_of_ext (by repeat first | apply wxr | with_reducible assumption | apply wxe | apply wxa | apply wxd))) | (with_reducible exact RegionAt.mono (by assumption) (bel_of_ext (by repeat first | apply wxr | with_reducible assumption | apply wxe | apply wxa | apply wxd))) | (with_reducible exact RowsAt.mono (by assumption) (bel_of_ext (by repeat first | apply wxr | with_reducible assumption | apply wxe | apply wxa | apply wxd))) | (with_reducible exact PiecesAt.mono (by assumption) (bel_of_ext (by repeat first | apply wxr | with_reducible assumption | apply wxe | apply wxa | apply wxd))))).mono ?_; rintro e w' ⟨rfl, xe, rfl⟩) | (go_at_call 85; refine (l1In_b _ _ _ _ HBT.out _).mono ?_; rintro e w' ⟨rfl, xe, rfl⟩))
    refine wp_region_heldE (by kernel_rfl) ?_
    refine' takeE (i := 0) (v := _) rfl (by kernel_rfl) (by kernel_rfl) (by kernel_rfl) (fun _ _ _ h => h) (by kernel_rfl) (fun x => ?_) (by repeat first | apply wxr | with_reducible assumption | apply wxe | apply wxa | apply wxd) ?_
    rotate_left
    · (go_simp; try rfl)
    try simp only [List.getElem_toArray]
    try simp only [List.getElem_cons_succ]
    try simp only [List.getElem_cons_zero]
    try simp only [Act.put]
    try simp only [List.setIfInBounds_toArray]
    try simp only [List.set_cons_succ]
    try simp only [List.set_cons_zero]
    refine' takeE (i := 1) (v := _) rfl (by kernel_rfl) (by kernel_rfl) (by kernel_rfl) (fun _ _ _ h => h) (by kernel_rfl) (fun x => ?_) (by repeat first | apply wxr | with_reducible assumption | apply wxe | apply wxa | apply wxd) ?_
    rotate_left
    · (go_simp; try rfl)
    try simp only [List.getElem_toArray]
    try simp only [List.getElem_cons_succ]
    try simp only [List.getElem_cons_zero]
    try simp only [Act.put]
    try simp only [List.setIfInBounds_toArray]
    try simp only [List.set_cons_succ]
    try simp only [List.set_cons_zero]
    refine' takeE (i := 3) (v := _) rfl (by kernel_rfl) (by kernel_rfl) (by kernel_rfl) (fun _ _ _ h => h) (by kernel_rfl) (fun x => ?_) (by repeat first | apply wxr | with_reducible assumption | apply wxe | apply wxa | apply wxd) ?_
    rotate_left
    · (go_simp; try rfl)
    try simp only [List.getElem_toArray]
    try simp only [List.getElem_cons_succ]
    try simp only [List.getElem_cons_zero]
    try simp only [Act.put]
    try simp only [List.setIfInBounds_toArray]
    try simp only [List.set_cons_succ]
    try simp only [List.set_cons_zero]
    refine' takeE (i := 5) (v := _) rfl (by kernel_rfl) (by kernel_rfl) (by kernel_rfl) (fun _ _ _ h => h) (by kernel_rfl) (fun x => ?_) (by repeat first | apply wxr | with_reducible assumption | apply wxe | apply wxa | apply wxd) ?_
    rotate_left
    · (go_simp; try rfl)
    try simp only [List.getElem_toArray]
    try simp only [List.getElem_cons_succ]
    try simp only [List.getElem_cons_zero]
    try simp only [Act.put]
    try simp only [List.setIfInBounds_toArray]
    try simp only [List.set_cons_succ]
    try simp only [List.set_cons_zero]
    refine' takeE (i := 6) (v := _) rfl (by kernel_rfl) (by kernel_rfl) (by kernel_rfl) (fun _ _ _ h => h) (by kernel_rfl) (fun x => ?_) (by repeat first | apply wxr | with_reducible assumption | apply wxe | apply wxa | apply wxd) ?_
    rotate_left
    · (go_simp; try rfl)
    try simp only [List.getElem_toArray]
    try simp only [List.getElem_cons_succ]
    try simp only [List.getElem_cons_zero]
    try simp only [Act.put]
    try simp only [List.setIfInBounds_toArray]
    try simp only [List.set_cons_succ]
    try simp only [List.set_cons_zero]
    refine nextE (i := 2) rfl (by kernel_rfl) (by kernel_rfl) (fun K' hK' => ?_)
    go_wp2_with ((first | (go_at_call 108; refine (specAll_any _ _ _ _ _ _ (by first | (with_reducible assumption) | (with_reducible exact IntsAt.mono (by assumption) (bel_of_ext (by repeat first | apply wxr | with_reducible assumption | apply wxe | apply wxa | apply wxd))) | (with_reducible exact CellsAt.mono (by assumption) (bel_of_ext (by repeat first | apply wxr | with_reducible assumption | apply wxe | apply wxa | apply wxd))) | (with_reducible exact RegionAt.mono (by assumption) (bel_of_ext (by repeat first | apply wxr | with_reducible assumption | apply wxe | apply wxa | apply wxd))) | (with_reducible exact RowsAt.mono (by assumption) (bel_of_ext (by repeat first | apply wxr | with_reducible assumption | apply wxe | apply wxa | apply wxd))) | (with_reducible exact PiecesAt.mono (by assumption) (bel_of_ext (by repeat first | apply wxr | with_reducible assumption | apply wxe | apply wxa | apply wxd)))) (by first | (with_reducible assumption) | (with_reducible exact IntsAt.mono (by assumption) (bel_of_ext (by repeat first | apply wxr | with_reducible assumption | apply wxe | apply wxa | apply wxd))) | (with_reducible exact CellsAt.mono (by assumption) (bel_of_ext (by repeat first | apply wxr | with_reducible assumption | apply wxe | apply wxa | apply wxd))) | (with_reducible exact RegionAt.mono (by assumption) (bel_of_ext (by repeat first | apply wxr | with_reducible assumption | apply wxe | apply wxa | apply wxd))) | (with_reducible exact RowsAt.mono (by assumption) (bel_of_ext (by repeat first | apply wxr | with_reducible assumption | apply wxe | apply wxa | apply wxd))) | (with_reducible exact PiecesAt.mono (by assumption) (bel_of_ext (by repeat first | apply wxr | with_reducible assumption | apply wxe | apply wxa | apply wxd))))).mono ?_; rintro e w' ⟨u, rfl, K⟩; obtain ⟨xk, rfl⟩ := ext_of K.bel; rw [HV.out] at K; obtain ⟨ua, uc, rfl⟩ := K.rowVN; have HA := K.ints0; clear K) | (go_at_call 109; refine (specMaskQ_any W rows HR.out _ _ (by first | (with_reducible assumption) | (with_reducible exact IntsAt.mono (by assumption) (bel_of_ext (by repeat first | apply wxr | with_reducible assumption | apply wxe | apply wxa | apply wxd))) | (with_reducible exact CellsAt.mono (by assumption) (bel_of_ext (by repeat first | apply wxr | with_reducible assumption | apply wxe | apply wxa | apply wxd))) | (with_reducible exact RegionAt.mono (by assumption) (bel_of_ext (by repeat first | apply wxr | with_reducible assumption | apply wxe | apply wxa | apply wxd))) | (with_reducible exact RowsAt.mono (by assumption) (bel_of_ext (by repeat first | apply wxr | with_reducible assumption | apply wxe | apply wxa | apply wxd))) | (with_reducible exact PiecesAt.mono (by assumption) (bel_of_ext (by repeat first | apply wxr | with_reducible assumption | apply wxe | apply wxa | apply wxd))))).mono ?_; rintro e w' ⟨rfl, xe, rfl⟩) | (go_at_call 121; refine (HCALL.out _ _ (by omega) _ (by first | (with_reducible assumption) | (with_reducible exact IntsAt.mono (by assumption) (bel_of_ext (by repeat first | apply wxr | with_reducible assumption | apply wxe | apply wxa | apply wxd))) | (with_reducible exact CellsAt.mono (by assumption) (bel_of_ext (by repeat first | apply wxr | with_reducible assumption | apply wxe | apply wxa | apply wxd))) | (with_reducible exact RegionAt.mono (by assumption) (bel_of_ext (by repeat first | apply wxr | with_reducible assumption | apply wxe | apply wxa | apply wxd))) | (with_reducible exact RowsAt.mono (by assumption) (bel_of_ext (by repeat first | apply wxr | with_reducible assumption | apply wxe | apply wxa | apply wxd))) | (with_reducible exact PiecesAt.mono (by assumption) (bel_of_ext (by repeat first | apply wxr | with_reducible assumption | apply wxe | apply wxa | apply wxd))))).mono ?_; rintro e w' ⟨rv, rvs, rfl, hrl, K⟩; obtain ⟨xs, rfl⟩ := ext_of K.bel; rw [← List.append_nil (grpR rv rvs (castLL l))] at K; obtain ⟨ra, rc, rfl⟩ := K.grpQ; clear K)))
    refine hK'.out _ _ (by repeat first | apply wxr | with_reducible assumption | apply wxe | apply wxa | apply wxd) ?_
    clear hK' K'
    refine nextE (i := 4) rfl (by kernel_rfl) (by kernel_rfl) (fun K' hK' => ?_)
    go_wp2_with ((first | (go_at_call 108; refine (specAll_any _ _ _ _ _ _ (by first | (with_reducible assumption) | (with_reducible exact IntsAt.mono (by assumption) (bel_of_ext (by repeat first | apply wxr | with_reducible assumption | apply wxe | apply wxa | apply wxd))) | (with_reducible exact CellsAt.mono (by assumption) (bel_of_ext (by repeat first | apply wxr | with_reducible assumption | apply wxe | apply wxa | apply wxd))) | (with_reducible exact RegionAt.mono (by assumption) (bel_of_ext (by repeat first | apply wxr | with_reducible assumption | apply wxe | apply wxa | apply wxd))) | (with_reducible exact RowsAt.mono (by assumption) (bel_of_ext (by repeat first | apply wxr | with_reducible assumption | apply wxe | apply wxa | apply wxd))) | (with_reducible exact PiecesAt.mono (by assumption) (bel_of_ext (by repeat first | apply wxr | with_reducible assumption | apply wxe | apply wxa | apply wxd)))) (by first | (with_reducible assumption) | (with_reducible exact IntsAt.mono (by assumption) (bel_of_ext (by repeat first | apply wxr | with_reducible assumption | apply wxe | apply wxa | apply wxd))) | (with_reducible exact CellsAt.mono (by assumption) (bel_of_ext (by repeat first | apply wxr | with_reducible assumption | apply wxe | apply wxa | apply wxd))) | (with_reducible exact RegionAt.mono (by assumption) (bel_of_ext (by repeat first | apply wxr | with_reducible assumption | apply wxe | apply wxa | apply wxd))) | (with_reducible exact RowsAt.mono (by assumption) (bel_of_ext (by repeat first | apply wxr | with_reducible assumption | apply wxe | apply wxa | apply wxd))) | (with_reducible exact PiecesAt.mono (by assumption) (bel_of_ext (by repeat first | apply wxr | with_reducible assumption | apply wxe | apply wxa | apply wxd))))).mono ?_; rintro e w' ⟨u, rfl, K⟩; obtain ⟨xk, rfl⟩ := ext_of K.bel; rw [HV.out] at K; obtain ⟨ua, uc, rfl⟩ := K.rowVN; have HA := K.ints0; clear K) | (go_at_call 109; refine (specMaskQ_any W rows HR.out _ _ (by first | (with_reducible assumption) | (with_reducible exact IntsAt.mono (by assumption) (bel_of_ext (by repeat first | apply wxr | with_reducible assumption | apply wxe | apply wxa | apply wxd))) | (with_reducible exact CellsAt.mono (by assumption) (bel_of_ext (by repeat first | apply wxr | with_reducible assumption | apply wxe | apply wxa | apply wxd))) | (with_reducible exact RegionAt.mono (by assumption) (bel_of_ext (by repeat first | apply wxr | with_reducible assumption | apply wxe | apply wxa | apply wxd))) | (with_reducible exact RowsAt.mono (by assumption) (bel_of_ext (by repeat first | apply wxr | with_reducible assumption | apply wxe | apply wxa | apply wxd))) | (with_reducible exact PiecesAt.mono (by assumption) (bel_of_ext (by repeat first | apply wxr | with_reducible assumption | apply wxe | apply wxa | apply wxd))))).mono ?_; rintro e w' ⟨rfl, xe, rfl⟩) | (go_at_call 121; refine (HCALL.out _ _ (by omega) _ (by first | (with_reducible assumption) | (with_reducible exact IntsAt.mono (by assumption) (bel_of_ext (by repeat first | apply wxr | with_reducible assumption | apply wxe | apply wxa | apply wxd))) | (with_reducible exact CellsAt.mono (by assumption) (bel_of_ext (by repeat first | apply wxr | with_reducible assumption | apply wxe | apply wxa | apply wxd))) | (with_reducible exact RegionAt.mono (by assumption) (bel_of_ext (by repeat first | apply wxr | with_reducible assumption | apply wxe | apply wxa | apply wxd))) | (with_reducible exact RowsAt.mono (by assumption) (bel_of_ext (by repeat first | apply wxr | with_reducible assumption | apply wxe | apply wxa | apply wxd))) | (with_reducible exact PiecesAt.mono (by assumption) (bel_of_ext (by repeat first | apply wxr | with_reducible assumption | apply wxe | apply wxa | apply wxd))))).mono ?_; rintro e w' ⟨rv, rvs, rfl, hrl, K⟩; obtain ⟨xs, rfl⟩ := ext_of K.bel; rw [← List.append_nil (grpR rv rvs (castLL l))] at K; obtain ⟨ra, rc, rfl⟩ := K.grpQ; clear K)))
    refine hK'.out _ _ (by repeat first | apply wxr | with_reducible assumption | apply wxe | apply wxa | apply wxd) ?_
    clear hK' K'
    refine nextE (i := 7) rfl (by kernel_rfl) (by kernel_rfl) (fun K' hK' => ?_)
    go_wp2_with ((first | (go_at_call 108; refine (specAll_any _ _ _ _ _ _ (by first | (with_reducible assumption) | (with_reducible exact IntsAt.mono (by assumption) (bel_of_ext (by repeat first | apply wxr | with_reducible assumption | apply wxe | apply wxa | apply wxd))) | (with_reducible exact CellsAt.mono (by assumption) (bel_of_ext (by repeat first | apply wxr | with_reducible assumption | apply wxe | apply wxa | apply wxd))) | (with_reducible exact RegionAt.mono (by assumption) (bel_of_ext (by repeat first | apply wxr | with_reducible assumption | apply wxe | apply wxa | apply wxd))) | (with_reducible exact RowsAt.mono (by assumption) (bel_of_ext (by repeat first | apply wxr | with_reducible assumption | apply wxe | apply wxa | apply wxd))) | (with_reducible exact PiecesAt.mono (by assumption) (bel_of_ext (by repeat first | apply wxr | with_reducible assumption | apply wxe | apply wxa | apply wxd)))) (by first | (with_reducible assumption) | (with_reducible exact IntsAt.mono (by assumption) (bel_of_ext (by repeat first | apply wxr | with_reducible assumption | apply wxe | apply wxa | apply wxd))) | (with_reducible exact CellsAt.mono (by assumption) (bel_of_ext (by repeat first | apply wxr | with_reducible assumption | apply wxe | apply wxa | apply wxd))) | (with_reducible exact RegionAt.mono (by assumption) (bel_of_ext (by repeat first | apply wxr | with_reducible assumption | apply wxe | apply wxa | apply wxd))) | (with_reducible exact RowsAt.mono (by assumption) (bel_of_ext (by repeat first | apply wxr | with_reducible assumption | apply wxe | apply wxa | apply wxd))) | (with_reducible exact PiecesAt.mono (by assumption) (bel_of_ext (by repeat first | apply wxr | with_reducible assumption | apply wxe | apply wxa | apply wxd))))).mono ?_; rintro e w' ⟨u, rfl, K⟩; obtain ⟨xk, rfl⟩ := ext_of K.bel; rw [HV.out] at K; obtain ⟨ua, uc, rfl⟩ := K.rowVN; have HA := K.ints0; clear K) | (go_at_call 109; refine (specMaskQ_any W rows HR.out _ _ (by first | (with_reducible assumption) | (with_reducible exact IntsAt.mono (by assumption) (bel_of_ext (by repeat first | apply wxr | with_reducible assumption | apply wxe | apply wxa | apply wxd))) | (with_reducible exact CellsAt.mono (by assumption) (bel_of_ext (by repeat first | apply wxr | with_reducible assumption | apply wxe | apply wxa | apply wxd))) | (with_reducible exact RegionAt.mono (by assumption) (bel_of_ext (by repeat first | apply wxr | with_reducible assumption | apply wxe | apply wxa | apply wxd))) | (with_reducible exact RowsAt.mono (by assumption) (bel_of_ext (by repeat first | apply wxr | with_reducible assumption | apply wxe | apply wxa | apply wxd))) | (with_reducible exact PiecesAt.mono (by assumption) (bel_of_ext (by repeat first | apply wxr | with_reducible assumption | apply wxe | apply wxa | apply wxd))))).mono ?_; rintro e w' ⟨rfl, xe, rfl⟩) | (go_at_call 121; refine (HCALL.out _ _ (by omega) _ (by first | (with_reducible assumption) | (with_reducible exact IntsAt.mono (by assumption) (bel_of_ext (by repeat first | apply wxr | with_reducible assumption | apply wxe | apply wxa | apply wxd))) | (with_reducible exact CellsAt.mono (by assumption) (bel_of_ext (by repeat first | apply wxr | with_reducible assumption | apply wxe | apply wxa | apply wxd))) | (with_reducible exact RegionAt.mono (by assumption) (bel_of_ext (by repeat first | apply wxr | with_reducible assumption | apply wxe | apply wxa | apply wxd))) | (with_reducible exact RowsAt.mono (by assumption) (bel_of_ext (by repeat first | apply wxr | with_reducible assumption | apply wxe | apply wxa | apply wxd))) | (with_reducible exact PiecesAt.mono (by assumption) (bel_of_ext (by repeat first | apply wxr | with_reducible assumption | apply wxe | apply wxa | apply wxd))))).mono ?_; rintro e w' ⟨rv, rvs, rfl, hrl, K⟩; obtain ⟨xs, rfl⟩ := ext_of K.bel; rw [← List.append_nil (grpR rv rvs (castLL l))] at K; obtain ⟨ra, rc, rfl⟩ := K.grpQ; clear K)))
    refine hK'.out _ _ (by repeat first | apply wxr | with_reducible assumption | apply wxe | apply wxa | apply wxd) ?_
    clear hK' K'
    refine' takeE (i := 8) (v := _) rfl (by kernel_rfl) (by kernel_rfl) (by kernel_rfl) (fun _ _ _ h => h) (by kernel_rfl) (fun x => ?_) (by repeat first | apply wxr | with_reducible assumption | apply wxe | apply wxa | apply wxd) ?_
    rotate_left
    · (go_simp; try rfl)
    try simp only [List.getElem_toArray]
    try simp only [List.getElem_cons_succ]
    try simp only [List.getElem_cons_zero]
    try simp only [Act.put]
    try simp only [List.setIfInBounds_toArray]
    try simp only [List.set_cons_succ]
    try simp only [List.set_cons_zero]
    refine wpAnyH_done (by kernel_rfl) ?_ _
    go_wp2_with fail
    go_ret2
    exact ExtPost.failE (by rw [HF.out, odV, show ((N : Nat) : Int).toNat = N from Int.toNat_natCast N, HT.out]; rfl) (((Held.start w).to (by repeat first | apply wxr | with_reducible assumption | apply wxe | apply wxa | apply wxd)).empty _ _)
  | some t =>
    obtain ⟨hln, hlt⟩ := spec_some ht
    rw [HL.out] at hln hlt
    have HT := Lib.hid ht
    have HLT := Lib.hid hlt
    have HLN := Lib.hid hln
    have hz : ¬ (l.length : Int) ≤ (N : Int) := by omega
    clear ht hlt
    go_enter Tryz.func54, Tryz.ntmps54
    go_wp2_with (first | (go_at_call 14; refine (specIsRegion_b2 _ _ _ HR.out _ _ (by first | (with_reducible assumption) | (with_reducible exact IntsAt.mono (by assumption) (bel_of_ext (by repeat first | apply wxr | with_reducible assumption | apply wxe | apply wxa | apply wxd))) | (with_reducible exact CellsAt.mono (by assumption) (bel_of_ext (by repeat first | apply wxr | with_reducible assumption | apply wxe | apply wxa | apply wxd))) | (with_reducible exact RegionAt.mono (by assumption) (bel_of_ext (by repeat first | apply wxr | with_reducible assumption | apply wxe | apply wxa | apply wxd))) | (with_reducible exact RowsAt.mono (by assumption) (bel_of_ext (by repeat first | apply wxr | with_reducible assumption | apply wxe | apply wxa | apply wxd))) | (with_reducible exact PiecesAt.mono (by assumption) (bel_of_ext (by repeat first | apply wxr | with_reducible assumption | apply wxe | apply wxa | apply wxd))))).mono ?_; rintro e w' ⟨rfl, xe, rfl⟩) | (go_at_call 69; refine (specPieces_b _ _ HP.out _ _ (by first | (with_reducible assumption) | (with_reducible exact IntsAt.mono (by assumption) (bel_of_ext (by repeat first | apply wxr | with_reducible assumption | apply wxe | apply wxa | apply wxd))) | (with_reducible exact CellsAt.mono (by assumption) (bel_of_ext (by repeat first | apply wxr | with_reducible assumption | apply wxe | apply wxa | apply wxd))) | (with_reducible exact RegionAt.mono (by assumption) (bel_of_ext (by repeat first | apply wxr | with_reducible assumption | apply wxe | apply wxa | apply wxd))) | (with_reducible exact RowsAt.mono (by assumption) (bel_of_ext (by repeat first | apply wxr | with_reducible assumption | apply wxe | apply wxa | apply wxd))) | (with_reducible exact PiecesAt.mono (by assumption) (bel_of_ext (by repeat first | apply wxr | with_reducible assumption | apply wxe | apply wxa | apply wxd))))).mono ?_; rintro e w' ⟨rfl, xe, rfl⟩) | (go_at_call 85; refine (l1In_b _ _ _ _ HBT.out _).mono ?_; rintro e w' ⟨rfl, xe, rfl⟩))
    refine wp_region_heldE (by kernel_rfl) ?_
    refine' takeE (i := 0) (v := _) rfl (by kernel_rfl) (by kernel_rfl) (by kernel_rfl) (fun _ _ _ h => h) (by kernel_rfl) (fun x => ?_) (by repeat first | apply wxr | with_reducible assumption | apply wxe | apply wxa | apply wxd) ?_
    rotate_left
    · (go_simp; try rfl)
    try simp only [List.getElem_toArray]
    try simp only [List.getElem_cons_succ]
    try simp only [List.getElem_cons_zero]
    try simp only [Act.put]
    try simp only [List.setIfInBounds_toArray]
    try simp only [List.set_cons_succ]
    try simp only [List.set_cons_zero]
    refine' takeE (i := 1) (v := _) rfl (by kernel_rfl) (by kernel_rfl) (by kernel_rfl) (fun _ _ _ h => h) (by kernel_rfl) (fun x => ?_) (by repeat first | apply wxr | with_reducible assumption | apply wxe | apply wxa | apply wxd) ?_
    rotate_left
    · (go_simp; try rfl)
    try simp only [List.getElem_toArray]
    try simp only [List.getElem_cons_succ]
    try simp only [List.getElem_cons_zero]
    try simp only [Act.put]
    try simp only [List.setIfInBounds_toArray]
    try simp only [List.set_cons_succ]
    try simp only [List.set_cons_zero]
    refine' takeE (i := 3) (v := _) rfl (by kernel_rfl) (by kernel_rfl) (by kernel_rfl) (fun _ _ _ h => h) (by kernel_rfl) (fun x => ?_) (by repeat first | apply wxr | with_reducible assumption | apply wxe | apply wxa | apply wxd) ?_
    rotate_left
    · (go_simp; try rfl)
    try simp only [List.getElem_toArray]
    try simp only [List.getElem_cons_succ]
    try simp only [List.getElem_cons_zero]
    try simp only [Act.put]
    try simp only [List.setIfInBounds_toArray]
    try simp only [List.set_cons_succ]
    try simp only [List.set_cons_zero]
    refine' takeE (i := 5) (v := _) rfl (by kernel_rfl) (by kernel_rfl) (by kernel_rfl) (fun _ _ _ h => h) (by kernel_rfl) (fun x => ?_) (by repeat first | apply wxr | with_reducible assumption | apply wxe | apply wxa | apply wxd) ?_
    rotate_left
    · (go_simp; try rfl)
    try simp only [List.getElem_toArray]
    try simp only [List.getElem_cons_succ]
    try simp only [List.getElem_cons_zero]
    try simp only [Act.put]
    try simp only [List.setIfInBounds_toArray]
    try simp only [List.set_cons_succ]
    try simp only [List.set_cons_zero]
    refine' takeE (i := 6) (v := _) rfl (by kernel_rfl) (by kernel_rfl) (by kernel_rfl) (fun _ _ _ h => h) (by kernel_rfl) (fun x => ?_) (by repeat first | apply wxr | with_reducible assumption | apply wxe | apply wxa | apply wxd) ?_
    rotate_left
    · (go_simp; try rfl)
    try simp only [List.getElem_toArray]
    try simp only [List.getElem_cons_succ]
    try simp only [List.getElem_cons_zero]
    try simp only [Act.put]
    try simp only [List.setIfInBounds_toArray]
    try simp only [List.set_cons_succ]
    try simp only [List.set_cons_zero]
    refine nextE (i := 2) rfl (by kernel_rfl) (by kernel_rfl) (fun K' hK' => ?_)
    go_wp2_with ((first | (go_at_call 108; refine (specAll_any _ _ _ _ _ _ (by first | (with_reducible assumption) | (with_reducible exact IntsAt.mono (by assumption) (bel_of_ext (by repeat first | apply wxr | with_reducible assumption | apply wxe | apply wxa | apply wxd))) | (with_reducible exact CellsAt.mono (by assumption) (bel_of_ext (by repeat first | apply wxr | with_reducible assumption | apply wxe | apply wxa | apply wxd))) | (with_reducible exact RegionAt.mono (by assumption) (bel_of_ext (by repeat first | apply wxr | with_reducible assumption | apply wxe | apply wxa | apply wxd))) | (with_reducible exact RowsAt.mono (by assumption) (bel_of_ext (by repeat first | apply wxr | with_reducible assumption | apply wxe | apply wxa | apply wxd))) | (with_reducible exact PiecesAt.mono (by assumption) (bel_of_ext (by repeat first | apply wxr | with_reducible assumption | apply wxe | apply wxa | apply wxd)))) (by first | (with_reducible assumption) | (with_reducible exact IntsAt.mono (by assumption) (bel_of_ext (by repeat first | apply wxr | with_reducible assumption | apply wxe | apply wxa | apply wxd))) | (with_reducible exact CellsAt.mono (by assumption) (bel_of_ext (by repeat first | apply wxr | with_reducible assumption | apply wxe | apply wxa | apply wxd))) | (with_reducible exact RegionAt.mono (by assumption) (bel_of_ext (by repeat first | apply wxr | with_reducible assumption | apply wxe | apply wxa | apply wxd))) | (with_reducible exact RowsAt.mono (by assumption) (bel_of_ext (by repeat first | apply wxr | with_reducible assumption | apply wxe | apply wxa | apply wxd))) | (with_reducible exact PiecesAt.mono (by assumption) (bel_of_ext (by repeat first | apply wxr | with_reducible assumption | apply wxe | apply wxa | apply wxd))))).mono ?_; rintro e w' ⟨u, rfl, K⟩; obtain ⟨xk, rfl⟩ := ext_of K.bel; rw [HV.out] at K; obtain ⟨ua, uc, rfl⟩ := K.rowVN; have HA := K.ints0; clear K) | (go_at_call 109; refine (specMaskQ_any W rows HR.out _ _ (by first | (with_reducible assumption) | (with_reducible exact IntsAt.mono (by assumption) (bel_of_ext (by repeat first | apply wxr | with_reducible assumption | apply wxe | apply wxa | apply wxd))) | (with_reducible exact CellsAt.mono (by assumption) (bel_of_ext (by repeat first | apply wxr | with_reducible assumption | apply wxe | apply wxa | apply wxd))) | (with_reducible exact RegionAt.mono (by assumption) (bel_of_ext (by repeat first | apply wxr | with_reducible assumption | apply wxe | apply wxa | apply wxd))) | (with_reducible exact RowsAt.mono (by assumption) (bel_of_ext (by repeat first | apply wxr | with_reducible assumption | apply wxe | apply wxa | apply wxd))) | (with_reducible exact PiecesAt.mono (by assumption) (bel_of_ext (by repeat first | apply wxr | with_reducible assumption | apply wxe | apply wxa | apply wxd))))).mono ?_; rintro e w' ⟨rfl, xe, rfl⟩) | (go_at_call 121; refine (HCALL.out _ _ (by omega) _ (by first | (with_reducible assumption) | (with_reducible exact IntsAt.mono (by assumption) (bel_of_ext (by repeat first | apply wxr | with_reducible assumption | apply wxe | apply wxa | apply wxd))) | (with_reducible exact CellsAt.mono (by assumption) (bel_of_ext (by repeat first | apply wxr | with_reducible assumption | apply wxe | apply wxa | apply wxd))) | (with_reducible exact RegionAt.mono (by assumption) (bel_of_ext (by repeat first | apply wxr | with_reducible assumption | apply wxe | apply wxa | apply wxd))) | (with_reducible exact RowsAt.mono (by assumption) (bel_of_ext (by repeat first | apply wxr | with_reducible assumption | apply wxe | apply wxa | apply wxd))) | (with_reducible exact PiecesAt.mono (by assumption) (bel_of_ext (by repeat first | apply wxr | with_reducible assumption | apply wxe | apply wxa | apply wxd))))).mono ?_; rintro e w' ⟨rv, rvs, rfl, hrl, K⟩; obtain ⟨xs, rfl⟩ := ext_of K.bel; rw [← List.append_nil (grpR rv rvs (castLL l))] at K; obtain ⟨g, gc, rfl⟩ := K.posQ (by omega); obtain ⟨r1, r2, r3⟩ := K.cellQ (hrl.trans (castLL_len l).symm) (j := N) (by rw [castLL_len]; omega); have hro := K.own (rowI (vAt rvs N) (rAt (castLL l) N)) (List.mem_append_left _ (List.mem_cons_of_mem _ (rowsI_mem (hrl.trans (castLL_len l).symm) (by rw [castLL_len]; omega)))); rw [show rAt (castLL l) N = castL (l.getD N []) from castLL_at l N, HLT.out] at r3 hro; obtain ⟨ta, tb, tq, tc, et, _, _, _, _⟩ := r3.opnN; rw [et] at r2 hro; have HRO := Lib.hid hro; clear K hrl hro r3 et)))
    refine hK'.out _ _ (by repeat first | apply wxr | with_reducible assumption | apply wxe | apply wxa | apply wxd) ?_
    clear hK' K'
    refine nextE (i := 4) rfl (by kernel_rfl) (by kernel_rfl) (fun K' hK' => ?_)
    go_wp2_with ((first | (go_at_call 108; refine (specAll_any _ _ _ _ _ _ (by first | (with_reducible assumption) | (with_reducible exact IntsAt.mono (by assumption) (bel_of_ext (by repeat first | apply wxr | with_reducible assumption | apply wxe | apply wxa | apply wxd))) | (with_reducible exact CellsAt.mono (by assumption) (bel_of_ext (by repeat first | apply wxr | with_reducible assumption | apply wxe | apply wxa | apply wxd))) | (with_reducible exact RegionAt.mono (by assumption) (bel_of_ext (by repeat first | apply wxr | with_reducible assumption | apply wxe | apply wxa | apply wxd))) | (with_reducible exact RowsAt.mono (by assumption) (bel_of_ext (by repeat first | apply wxr | with_reducible assumption | apply wxe | apply wxa | apply wxd))) | (with_reducible exact PiecesAt.mono (by assumption) (bel_of_ext (by repeat first | apply wxr | with_reducible assumption | apply wxe | apply wxa | apply wxd)))) (by first | (with_reducible assumption) | (with_reducible exact IntsAt.mono (by assumption) (bel_of_ext (by repeat first | apply wxr | with_reducible assumption | apply wxe | apply wxa | apply wxd))) | (with_reducible exact CellsAt.mono (by assumption) (bel_of_ext (by repeat first | apply wxr | with_reducible assumption | apply wxe | apply wxa | apply wxd))) | (with_reducible exact RegionAt.mono (by assumption) (bel_of_ext (by repeat first | apply wxr | with_reducible assumption | apply wxe | apply wxa | apply wxd))) | (with_reducible exact RowsAt.mono (by assumption) (bel_of_ext (by repeat first | apply wxr | with_reducible assumption | apply wxe | apply wxa | apply wxd))) | (with_reducible exact PiecesAt.mono (by assumption) (bel_of_ext (by repeat first | apply wxr | with_reducible assumption | apply wxe | apply wxa | apply wxd))))).mono ?_; rintro e w' ⟨u, rfl, K⟩; obtain ⟨xk, rfl⟩ := ext_of K.bel; rw [HV.out] at K; obtain ⟨ua, uc, rfl⟩ := K.rowVN; have HA := K.ints0; clear K) | (go_at_call 109; refine (specMaskQ_any W rows HR.out _ _ (by first | (with_reducible assumption) | (with_reducible exact IntsAt.mono (by assumption) (bel_of_ext (by repeat first | apply wxr | with_reducible assumption | apply wxe | apply wxa | apply wxd))) | (with_reducible exact CellsAt.mono (by assumption) (bel_of_ext (by repeat first | apply wxr | with_reducible assumption | apply wxe | apply wxa | apply wxd))) | (with_reducible exact RegionAt.mono (by assumption) (bel_of_ext (by repeat first | apply wxr | with_reducible assumption | apply wxe | apply wxa | apply wxd))) | (with_reducible exact RowsAt.mono (by assumption) (bel_of_ext (by repeat first | apply wxr | with_reducible assumption | apply wxe | apply wxa | apply wxd))) | (with_reducible exact PiecesAt.mono (by assumption) (bel_of_ext (by repeat first | apply wxr | with_reducible assumption | apply wxe | apply wxa | apply wxd))))).mono ?_; rintro e w' ⟨rfl, xe, rfl⟩) | (go_at_call 121; refine (HCALL.out _ _ (by omega) _ (by first | (with_reducible assumption) | (with_reducible exact IntsAt.mono (by assumption) (bel_of_ext (by repeat first | apply wxr | with_reducible assumption | apply wxe | apply wxa | apply wxd))) | (with_reducible exact CellsAt.mono (by assumption) (bel_of_ext (by repeat first | apply wxr | with_reducible assumption | apply wxe | apply wxa | apply wxd))) | (with_reducible exact RegionAt.mono (by assumption) (bel_of_ext (by repeat first | apply wxr | with_reducible assumption | apply wxe | apply wxa | apply wxd))) | (with_reducible exact RowsAt.mono (by assumption) (bel_of_ext (by repeat first | apply wxr | with_reducible assumption | apply wxe | apply wxa | apply wxd))) | (with_reducible exact PiecesAt.mono (by assumption) (bel_of_ext (by repeat first | apply wxr | with_reducible assumption | apply wxe | apply wxa | apply wxd))))).mono ?_; rintro e w' ⟨rv, rvs, rfl, hrl, K⟩; obtain ⟨xs, rfl⟩ := ext_of K.bel; rw [← List.append_nil (grpR rv rvs (castLL l))] at K; obtain ⟨g, gc, rfl⟩ := K.posQ (by omega); obtain ⟨r1, r2, r3⟩ := K.cellQ (hrl.trans (castLL_len l).symm) (j := N) (by rw [castLL_len]; omega); have hro := K.own (rowI (vAt rvs N) (rAt (castLL l) N)) (List.mem_append_left _ (List.mem_cons_of_mem _ (rowsI_mem (hrl.trans (castLL_len l).symm) (by rw [castLL_len]; omega)))); rw [show rAt (castLL l) N = castL (l.getD N []) from castLL_at l N, HLT.out] at r3 hro; obtain ⟨ta, tb, tq, tc, et, _, _, _, _⟩ := r3.opnN; rw [et] at r2 hro; have HRO := Lib.hid hro; clear K hrl hro r3 et)))
    refine hK'.out _ _ (by repeat first | apply wxr | with_reducible assumption | apply wxe | apply wxa | apply wxd) ?_
    clear hK' K'
    refine nextE (i := 7) rfl (by kernel_rfl) (by kernel_rfl) (fun K' hK' => ?_)
    go_wp2_with ((first | (go_at_call 108; refine (specAll_any _ _ _ _ _ _ (by first | (with_reducible assumption) | (with_reducible exact IntsAt.mono (by assumption) (bel_of_ext (by repeat first | apply wxr | with_reducible assumption | apply wxe | apply wxa | apply wxd))) | (with_reducible exact CellsAt.mono (by assumption) (bel_of_ext (by repeat first | apply wxr | with_reducible assumption | apply wxe | apply wxa | apply wxd))) | (with_reducible exact RegionAt.mono (by assumption) (bel_of_ext (by repeat first | apply wxr | with_reducible assumption | apply wxe | apply wxa | apply wxd))) | (with_reducible exact RowsAt.mono (by assumption) (bel_of_ext (by repeat first | apply wxr | with_reducible assumption | apply wxe | apply wxa | apply wxd))) | (with_reducible exact PiecesAt.mono (by assumption) (bel_of_ext (by repeat first | apply wxr | with_reducible assumption | apply wxe | apply wxa | apply wxd)))) (by first | (with_reducible assumption) | (with_reducible exact IntsAt.mono (by assumption) (bel_of_ext (by repeat first | apply wxr | with_reducible assumption | apply wxe | apply wxa | apply wxd))) | (with_reducible exact CellsAt.mono (by assumption) (bel_of_ext (by repeat first | apply wxr | with_reducible assumption | apply wxe | apply wxa | apply wxd))) | (with_reducible exact RegionAt.mono (by assumption) (bel_of_ext (by repeat first | apply wxr | with_reducible assumption | apply wxe | apply wxa | apply wxd))) | (with_reducible exact RowsAt.mono (by assumption) (bel_of_ext (by repeat first | apply wxr | with_reducible assumption | apply wxe | apply wxa | apply wxd))) | (with_reducible exact PiecesAt.mono (by assumption) (bel_of_ext (by repeat first | apply wxr | with_reducible assumption | apply wxe | apply wxa | apply wxd))))).mono ?_; rintro e w' ⟨u, rfl, K⟩; obtain ⟨xk, rfl⟩ := ext_of K.bel; rw [HV.out] at K; obtain ⟨ua, uc, rfl⟩ := K.rowVN; have HA := K.ints0; clear K) | (go_at_call 109; refine (specMaskQ_any W rows HR.out _ _ (by first | (with_reducible assumption) | (with_reducible exact IntsAt.mono (by assumption) (bel_of_ext (by repeat first | apply wxr | with_reducible assumption | apply wxe | apply wxa | apply wxd))) | (with_reducible exact CellsAt.mono (by assumption) (bel_of_ext (by repeat first | apply wxr | with_reducible assumption | apply wxe | apply wxa | apply wxd))) | (with_reducible exact RegionAt.mono (by assumption) (bel_of_ext (by repeat first | apply wxr | with_reducible assumption | apply wxe | apply wxa | apply wxd))) | (with_reducible exact RowsAt.mono (by assumption) (bel_of_ext (by repeat first | apply wxr | with_reducible assumption | apply wxe | apply wxa | apply wxd))) | (with_reducible exact PiecesAt.mono (by assumption) (bel_of_ext (by repeat first | apply wxr | with_reducible assumption | apply wxe | apply wxa | apply wxd))))).mono ?_; rintro e w' ⟨rfl, xe, rfl⟩) | (go_at_call 121; refine (HCALL.out _ _ (by omega) _ (by first | (with_reducible assumption) | (with_reducible exact IntsAt.mono (by assumption) (bel_of_ext (by repeat first | apply wxr | with_reducible assumption | apply wxe | apply wxa | apply wxd))) | (with_reducible exact CellsAt.mono (by assumption) (bel_of_ext (by repeat first | apply wxr | with_reducible assumption | apply wxe | apply wxa | apply wxd))) | (with_reducible exact RegionAt.mono (by assumption) (bel_of_ext (by repeat first | apply wxr | with_reducible assumption | apply wxe | apply wxa | apply wxd))) | (with_reducible exact RowsAt.mono (by assumption) (bel_of_ext (by repeat first | apply wxr | with_reducible assumption | apply wxe | apply wxa | apply wxd))) | (with_reducible exact PiecesAt.mono (by assumption) (bel_of_ext (by repeat first | apply wxr | with_reducible assumption | apply wxe | apply wxa | apply wxd))))).mono ?_; rintro e w' ⟨rv, rvs, rfl, hrl, K⟩; obtain ⟨xs, rfl⟩ := ext_of K.bel; rw [← List.append_nil (grpR rv rvs (castLL l))] at K; obtain ⟨g, gc, rfl⟩ := K.posQ (by omega); obtain ⟨r1, r2, r3⟩ := K.cellQ (hrl.trans (castLL_len l).symm) (j := N) (by rw [castLL_len]; omega); have hro := K.own (rowI (vAt rvs N) (rAt (castLL l) N)) (List.mem_append_left _ (List.mem_cons_of_mem _ (rowsI_mem (hrl.trans (castLL_len l).symm) (by rw [castLL_len]; omega)))); rw [show rAt (castLL l) N = castL (l.getD N []) from castLL_at l N, HLT.out] at r3 hro; obtain ⟨ta, tb, tq, tc, et, _, _, _, _⟩ := r3.opnN; rw [et] at r2 hro; have HRO := Lib.hid hro; clear K hrl hro r3 et)))
    refine hK'.out _ _ (by repeat first | apply wxr | with_reducible assumption | apply wxe | apply wxa | apply wxd) ?_
    clear hK' K'
    refine' takeE (i := 8) (v := _) rfl (by kernel_rfl) (by kernel_rfl) (by kernel_rfl) (fun _ _ _ h => h) (by kernel_rfl) (fun x => ?_) (by repeat first | apply wxr | with_reducible assumption | apply wxe | apply wxa | apply wxd) ?_
    rotate_left
    · (go_simp; try rfl)
    try simp only [List.getElem_toArray]
    try simp only [List.getElem_cons_succ]
    try simp only [List.getElem_cons_zero]
    try simp only [Act.put]
    try simp only [List.setIfInBounds_toArray]
    try simp only [List.set_cons_succ]
    try simp only [List.set_cons_zero]
    refine wpAnyH_done (by kernel_rfl) ?_ _
    go_wp2_with fail
    go_ret2
    exact ⟨.slice ta t.length tc, by rw [HF.out, odV, show ((N : Nat) : Int).toNat = N from Int.toNat_natCast N, HT.out]; rfl, (by repeat first | apply wxr | with_reducible assumption | apply wxe | apply wxa | apply wxd), own_low (by rw [HF.out, odV, show ((N : Nat) : Int).toNat = N from Int.toNat_natCast N, HT.out]; exact HRO.out) (by repeat first | apply wxr | with_reducible assumption | apply wxe | apply wxa | apply wxd)⟩
end
section
open Go.ChangeShapes Go.WideShapes Go.ChangeAt Go.RowKit
theorem sub_bitB {m free : Nat} (h : subB m free = true) (i : Nat) : (free - m).testBit i = (free.testBit i && !m.testBit i) := by
  rw [← xor_sub h]
  have := sub_bits h (i := i)
  simp only [butN, Nat.testBit_xor, Nat.testBit_and]
  cases hf : free.testBit i <;> cases hm : m.testBit i <;> simp_all
theorem low_cand {all : List Nat} {free m : Nat} (h36 : free < 2 ^ 36) (hm : m ∈ cand all free) : lowN m = lowN free := by
  have h0 := cand_lt hm
  obtain ⟨_, h1, h2⟩ := mem_cand.1 hm
  refine lowN_eq ⟨h1, fun j hj => ?_⟩ (by omega)
  cases hb : m.testBit j
  · rfl
  · have := sub_bits h2 hb
    rw [(lowN_spec (m := free) (by omega) (by omega)).1.2 j hj] at this
    cases this
theorem low_next {all : List Nat} {free m : Nat} (h36 : free < 2 ^ 36) (hm : m ∈ cand all free) (h0 : 0 < free - m) : lowN free < lowN (free - m) := by
  have hp := cand_lt hm
  obtain ⟨_, h1, h2⟩ := mem_cand.1 hm
  have hs := (lowN_spec (m := free - m) h0 (by omega)).1
  have hf := (lowN_spec (m := free) (by omega) (by omega)).1
  rcases Nat.lt_trichotomy (lowN free) (lowN (free - m)) with e | e | e
  · exact e
  · have := hs.1
    rw [sub_bitB h2, ← e, h1] at this
    simp at this
  · have h3 := hs.1
    rw [sub_bitB h2, hf.2 _ e] at h3
    simp at h3
theorem and_zero_iff {a b : Nat} : andN a b = 0 ↔ ∀ i, a.testBit i = true → b.testBit i = false := by
  constructor
  · intro h i hi
    have := congrArg (fun q => q.testBit i) h
    simpa [andN, hi] using this
  · intro h
    apply Nat.eq_of_testBit_eq
    intro i
    have := h i
    simp only [andN, Nat.testBit_and, Nat.zero_testBit]
    cases ha : a.testBit i
    · rfl
    · rw [this ha]; rfl
theorem tl_nil {all : List Nat} {free : Nat} (h : [] ∈ tl all free) : free = 0 := by
  rcases Nat.eq_zero_or_pos free with e | e
  · exact e
  · rw [tl_pos all e] at h
    obtain ⟨m, _, h⟩ := List.mem_flatMap.1 h
    obtain ⟨t, _, h⟩ := List.mem_map.1 h
    cases h
theorem tl_cons {all : List Nat} {free m : Nat} {t : List Nat} (h : m :: t ∈ tl all free) : m ∈ cand all free ∧ t ∈ tl all (free - m) := by
  rcases Nat.eq_zero_or_pos free with e | e
  · subst e; rw [tl_zero] at h; simp at h
  · rw [tl_pos all e] at h
    obtain ⟨m', hm, h⟩ := List.mem_flatMap.1 h
    obtain ⟨t', ht, h⟩ := List.mem_map.1 h
    simp only [List.cons.injEq] at h
    obtain ⟨rfl, rfl⟩ := h
    exact ⟨hm, ht⟩
theorem tl_mem {all : List Nat} : ∀ {t : List Nat} {free : Nat}, t ∈ tl all free → ∀ m ∈ t, m ∈ all
  | [], _, _, m, hm => by cases hm
  | a :: t, free, h, m, hm => by
    obtain ⟨h1, h2⟩ := tl_cons h
    rcases List.mem_cons.1 hm with rfl | hm
    · exact (mem_cand.1 h1).1
    · exact tl_mem h2 m hm
theorem nth_castL_app {p t : List Nat} {m : Nat} : nth (castL (p ++ m :: t)) p.length = (m : Int) := by
  simp [nth, castL, List.getD]
theorem tl_cov {all : List Nat} : ∀ {t : List Nat} {free : Nat}, free < 2 ^ 36 → t ∈ tl all free → ∀ (p : List Nat) (u : Nat), cvTo all (castL (p ++ t)) p.length = some u → andN u free = 0 → (∀ q, p.getLast? = some q → 0 < free → lowN q < lowN free) →
    cvTo all (castL (p ++ t)) (p.length + t.length) = some (orN u free)
  | [], free, h36, h, p, u, hu, h0, hq => by
    have := tl_nil h
    subst this
    rw [List.length_nil, Nat.add_zero, hu]; simp [orN]
  | m :: t, free, h36, h, p, u, hu, h0, hq => by
    obtain ⟨h1, h2⟩ := tl_cons h
    have hc := cand_lt h1
    obtain ⟨c1, c2, c3⟩ := mem_cand.1 h1
    have hum : andN u m = 0 := and_zero_iff.2 fun i hi => by
      have := and_zero_iff.1 h0 i hi
      cases hb : m.testBit i
      · rfl
      · rw [sub_bits c3 hb] at this; cases this
    have hstep : cvTo all (castL (p ++ m :: t)) (p.length + 1) = some (orN u m) := by
      rw [cvTo_succ hu]
      have e := nth_castL_app (p := p) (t := t) (m := m)
      have hh : hasL all (nth (castL (p ++ m :: t)) p.length) = true := by rw [e]; exact hasL_iff.2 ⟨m, c1, rfl⟩
      by_cases hp : p.length = 0
      · exact cvS_zero e hh hum hp
      · obtain ⟨p', q, rfl⟩ : ∃ p' q, p = p' ++ [q] := ⟨p.dropLast, p.getLast (by intro e; subst e; simp at hp), (List.dropLast_concat_getLast _).symm⟩
        have e2 : nth (castL ((p' ++ [q]) ++ m :: t)) ((p' ++ [q]).length - 1) = (q : Int) := by
          have := nth_castL_app (p := p') (t := m :: t) (m := q)
          simpa [List.append_assoc] using this
        exact cvS_yes e e2 hh hum (by rw [low_cand h36 h1]; exact hq q (by simp) (by omega))
    have hl : p ++ m :: t = (p ++ [m]) ++ t := by simp
    rw [hl] at hstep ⊢
    have ih := tl_cov (t := t) (free := free - m) (by omega) h2 (p ++ [m]) (orN u m) (by rw [List.length_append]; exact hstep) (and_zero_iff.2 fun i hi => by
        rw [sub_bitB c3]
        simp only [orN, Nat.testBit_or, Bool.or_eq_true] at hi
        rcases hi with hi | hi
        · rw [and_zero_iff.1 h0 i hi]; rfl
        · rw [hi]; simp) (fun q hq h0 => by
        simp at hq; subst hq
        rw [low_cand h36 h1]; exact low_next h36 h1 h0)
    have e1 : (p ++ [m]).length + t.length = p.length + (m :: t).length := by simp; omega
    rw [e1] at ih
    rw [ih]
    congr 1
    apply Nat.eq_of_testBit_eq
    intro i
    simp only [orN, Nat.testBit_or, sub_bitB c3]
    have := sub_bits c3 (i := i)
    cases hm : m.testBit i
    · simp
    · simp [this hm]
theorem tl_covB {all : List Nat} {t : List Nat} {free : Nat} (h36 : free < 2 ^ 36) (h : t ∈ tl all free) : covB all free (castL t) = true := by
  have := tl_cov h36 h [] 0 rfl (by simp [andN]) (fun q hq => by simp at hq)
  rw [List.nil_append, List.length_nil, Nat.zero_add] at this
  rw [covB, castL_len, this]
  simp [orN]
theorem castL_inj : ∀ {a b : List Nat}, castL a = castL b → a = b := by
  intro a b h
  have := congrArg (List.map Int.toNat) h
  simpa [castL, Function.comp_def] using this
theorem tl_nodup {all : List Nat} (hn : all.Nodup) : ∀ n free, free ≤ n → (tl all free).Nodup
  | 0, free, h => by
    have : free = 0 := by omega
    subst this; rw [tl_zero]; simp
  | n + 1, free, h => by
    rcases Nat.eq_zero_or_pos free with e | e
    · subst e; rw [tl_zero]; simp
    · rw [tl_pos all e]
      have hc : (cand all free).Nodup := (hn.filter _).filter _
      refine List.pairwise_flatMap.2 ⟨fun m hm => ?_, ?_⟩
      · have := cand_lt hm
        have ih := tl_nodup hn n (free - m) (by omega)
        exact List.Pairwise.map _ (fun a b hab e => hab (by simpa using e)) ih
      · refine List.Pairwise.imp (fun {a b} hab => ?_) hc
        intro t h1 t' h2 he
        obtain ⟨t1, _, rfl⟩ := List.mem_map.1 h1
        obtain ⟨t2, _, rfl⟩ := List.mem_map.1 h2
        simp only [List.cons.injEq] at he
        exact hab he.1
/-! ### weights -/
theorem wsTo_split {m free : Nat} (h : subB m free = true) (ws : List Int) : ∀ k, wsTo free ws k = wsTo m ws k + wsTo (free - m) ws k
  | 0 => rfl
  | k + 1 => by
    have ih := wsTo_split h ws k
    have hb := sub_bitB h k
    have hs := sub_bits h (i := k)
    simp only [wsTo, iter] at ih ⊢
    cases hm : m.testBit k
    · rw [hm] at hb
      simp only [Bool.not_false, Bool.and_true] at hb
      rw [hb]
      split <;> simp_all <;> omega
    · rw [hm] at hb
      rw [hs hm]
      simp only [Bool.not_true, Bool.and_false] at hb
      rw [hb]
      simp_all; omega
end
section
open Go.ChangeShapes Go.WideShapes Go.ChangeAt Go.RowKit
theorem alN_nodup (wd : Int) (rows : List Int) (pss : List (List (Int × Int))) : (alN wd rows pss).Nodup := by
  have h := asc_sortL strictI (castL (alR wd rows pss))
  rw [← alN_cast] at h
  have h2 : (alN wd rows pss).Pairwise fun (a b : Nat) => ltI (a : Int) (b : Int) = true := List.pairwise_map.1 h
  exact h2.imp fun {a b} hab e => by
    subst e
    have := ltI_iff.1 hab
    omega
theorem maskR_36i (wd : Int) (rows : List Int) (h : regB wd rows = true) : maskR wd rows < 2 ^ 36 := by
  obtain ⟨W, rfl, _⟩ := regB_bd h
  exact maskR_36 h
theorem tn_some {wd : Int} {rows : List Int} {pss : List (List (Int × Int))} {n : Int} {l : List Int} (h : tnV wd rows pss n = some l) :
    probB wd rows pss = true ∧ 0 ≤ n ∧ n ≤ 199 ∧ ∃ t, (tl (alN wd rows pss) (maskR wd rows))[n.toNat]? = some t ∧ l = castL t := by
  unfold tnV at h
  split at h
  · rename_i hc
    rw [Bool.and_eq_true, btw_iff] at hc
    unfold odV at h
    obtain ⟨t, h1, h2⟩ := Option.map_eq_some_iff.1 h
    exact ⟨hc.1, by omega, by omega, t, h1, h2.symm⟩
  · cases h
theorem tn_til {wd : Int} {rows : List Int} {pss : List (List (Int × Int))} {n : Int} {l : List Int} (h : tnV wd rows pss n = some l) : tilB wd rows pss l = true := by
  obtain ⟨hp, _, _, t, h1, rfl⟩ := tn_some h
  rw [tilB_yes _ hp]
  exact tl_covB (maskR_36i wd rows (probB_parts hp).1) (List.mem_of_getElem? h1)
theorem tn_count {wd : Int} {rows : List Int} {pss : List (List (Int × Int))} {n : Int} {l : List Int} (h : tnV wd rows pss n = some l) : n < ctV wd rows pss := by
  obtain ⟨hp, h0, h1, t, h2, rfl⟩ := tn_some h
  have := (List.getElem?_eq_some_iff.1 h2).1
  rw [ctV_yes hp]
  omega
theorem tn_none {wd : Int} {rows : List Int} {pss : List (List (Int × Int))} {n : Int} (h : tnV wd rows pss n = none) (h0 : 0 ≤ n) (h1 : n < 200) : ctV wd rows pss ≤ n := by
  cases hp : probB wd rows pss
  · rw [ctV_no hp]; omega
  · rw [tnV_yes hp (btw_iff.2 ⟨by omega, by omega⟩), odV, Option.map_eq_none_iff, List.getElem?_eq_none_iff] at h
    rw [ctV_yes hp]
    omega
theorem ct_pos {wd : Int} {rows : List Int} {pss : List (List (Int × Int))} : decide (0 < ctV wd rows pss) = (tnV wd rows pss 0).isSome := by
  cases h : tnV wd rows pss 0 with
  | none => have := tn_none h (by omega) (by omega); simp; omega
  | some l => have := tn_count h; simp; omega
theorem tn_ne {wd : Int} {rows : List Int} {pss : List (List (Int × Int))} {n : Int} {l : List Int} (h : tnV wd rows pss n = some l) (h0 : 0 < n) : ∃ k, tnV wd rows pss (n - 1) = some k ∧ k ≠ l := by
  obtain ⟨hp, h1, h2, t, h3, rfl⟩ := tn_some h
  have hl := (List.getElem?_eq_some_iff.1 h3).1
  refine ⟨castL (tl (alN wd rows pss) (maskR wd rows))[(n - 1).toNat], ?_, fun e => ?_⟩
  · rw [tnV_yes hp (btw_iff.2 ⟨by omega, by omega⟩), odV, List.getElem?_eq_getElem (by omega)]; rfl
  · have e2 := castL_inj e
    have hn := tl_nodup (alN_nodup wd rows pss) _ _ (Nat.le_refl (maskR wd rows))
    have h4 := List.getElem?_eq_some_iff.1 h3
    have := (List.nodup_iff_pairwise_ne.1 hn |> List.pairwise_iff_getElem.1) (n - 1).toNat n.toNat (by omega) hl (by omega)
    exact this (by rw [e2, h4.2])
end
section
open Go.ChangeShapes Go.WideShapes Go.ChangeAt Go.RowKit
theorem Held.newI {W0 w : World} {L : List Row} (H : Held W0 w L) (xs : List Int) (hl : xs.length ≤ maxLen) : Held W0 (w.alloc (.cells (xs.map iv).toArray 3)) (rowI (.slice (some ⟨w.heap.size, 0, none⟩) xs.length xs.length) xs :: L) :=
  H.push ((Below.refl _ _).alloc (Nat.le_refl _) _) ⟨by simp, .inr ⟨w.heap.size, xs.length, _, rfl, Nat.le_refl _, heap_alloc_new w _, Nat.le_refl _, hl, by simp, by rw [List.toList_toArray, Nat.mul_one, List.take_of_length_le (by simp)]⟩⟩
theorem Held.rowCellQ {W0 w : World} {L : List Row} {b c q : Nat} {xs : List Int} (H : Held W0 w L) (h : rowI (.slice (some ⟨b, 0, none⟩) xs.length c) xs ∈ L) (hq : q < xs.length) : w.cell? ⟨b, q, none⟩ = some (.int .i64 (nth xs q)) ∧ Old w b := by
  have ho := H.own _ h
  refine ⟨?_, ⟨(ho.lt b rfl).2⟩⟩
  rw [ho.cellAt q (by show q < xs.length * 1; omega), ← nth_get hq]
  simp [iv, hq]
set_option maxRecDepth 100000 in
set_option maxHeartbeats 2000000 in
theorem drawTn_any (zs : List Int) (v : Value) (w : World) (hb : BytesAt w v zs) : Calls Tryz.prog 52 #[v] w fun e w' => ∃ (wd : Int) (ra : Option Addr) (rc : Nat) (pa : Option Addr) (pc : Nat) (rows : List Int) (pss : List (List (Int × Int))) (n : Int),
    e = .returned (.tuple #[.agg #[.int .i64 wd, .slice ra rows.length rc], .slice pa pss.length pc, .int .i64 n]) ∧ -1 ≤ n ∧ n ≤ 200 ∧ IntsAt w' (.slice ra rows.length rc) rows ∧ PiecesAt w' (.slice pa pss.length pc) pss ∧ ∃ x, w' = ext w x := by
  have HB := Lib.hid hb
  obtain ⟨a, b, o, cap, rfl, hc1, hc2, hc3, hcell⟩ := hb.opn
  clear hb hcell
  obtain ⟨q, hq⟩ : ∃ q, q = zs.length % 6 := ⟨_, rfl⟩
  have hq6 : q < 6 := by omega
  have hqm : ((zs.length : Int) % 6) = (q : Int) := by omega
  have hidx := fun (b : Nat) (w : World) => idx_run (P := Tryz.prog) (z := none) Tryz.underlying24 infoInt b 0 6 6 q hq6 w
  simp only [Nat.zero_add, Nat.mul_one] at hidx
  have hz : -1 ≤ nth [0, 1, 2, 3, -1, 200] q ∧ nth [0, 1, 2, 3, -1, 200] q ≤ 200 := by
    have : q = 0 ∨ q = 1 ∨ q = 2 ∨ q = 3 ∨ q = 4 ∨ q = 5 := by omega
    rcases this with h | h | h | h | h | h <;> subst h <;> decide
  obtain ⟨z, hzz⟩ : ∃ z, nth [0, 1, 2, 3, -1, 200] q = z := ⟨_, rfl⟩
  rw [hzz] at hz
  have HZ := Lib.hid hz
  have HZZ := Lib.hid hzz
  have hqt : Int.tmod (zs.length : Int) 6 = (q : Int) := by rw [Int.tmod_eq_emod_of_nonneg (by omega)]; exact hqm
  clear hq hzz hz hqm
  have H0 := Lib.hid ((Held.start w).newBox2 26 (.int .i64 0) (.slice none 0 0))
  go_enter Tryz.func52, Tryz.ntmps52
  go_upto_region 2 with (first | (go_at_call 118; refine (l8Both_any zs _ _ (HB.out.mono (bel_of_ext (by repeat first | apply wxr | with_reducible assumption | apply wxe | apply wxa | apply wxd)))).mono ?_; rintro e w1 ⟨wd, ra, rc, pa, pc, rows, pss, L1, rfl, hl, h3, hown, K⟩; have HD := Lib.hid ((H0.out.to (by repeat first | apply wxr | with_reducible assumption | apply wxe | apply wxa | apply wxd)).join K); have HO := Lib.hid hown; clear K hown))
  have HE2 : Held w (w1.alloc (.cells #[.int .i64 wd, .slice ra rows.length rc] 26)) (boxR2 w1.heap.size 26 (.int .i64 wd) (.slice ra rows.length rc) :: ((L1 ++ [rowI (.slice ra rows.length rc) rows]) ++ [boxR2 w.heap.size 26 (.int .i64 0) (.slice none 0 0)])) := HD.out.newBox2 _ _ _
  have HE := Lib.hid (HE2.front ((List.perm_append_comm (l₁ := _ :: _) (l₂ := [_]))))
  clear HE2 HD
  generalize w1.heap.size = b5 at HE ⊢
  generalize World.alloc w1 _ = w3 at HE ⊢
  refine wp_region_heldS (S := fun w' => w'.cell? ⟨b5, 0, none⟩ = some (.int .i64 wd) ∧ w'.cell? ⟨b5, 1, none⟩ = some (.slice ra rows.length rc)) (by kernel_rfl) ?_
  have HF := Lib.hid (HE.out.to (w' := w3.drew) (by repeat first | apply wxr | with_reducible assumption | apply wxe | apply wxa | apply wxd))
  clear HE
  generalize w3.drew = w4 at HF ⊢
  obtain ⟨q0, q1, q2, q3, q4⟩ := HF.out.readB2 1 rfl
  refine' takeS (i := 0) (v := _) rfl (by kernel_rfl) (by kernel_rfl) (by kernel_rfl) (fun _ _ _ h => h) (by kernel_rfl) (fun wb hwb => ?_) ⟨q0,q1⟩ ?_
  rotate_left
  · (obtain ⟨s0, s1⟩ := hwb; go_simp; try rfl)
  try simp only [List.getElem_toArray]
  try simp only [List.getElem_cons_succ]
  try simp only [List.getElem_cons_zero]
  try simp only [Act.put]
  try simp only [List.setIfInBounds_toArray]
  try simp only [List.set_cons_succ]
  try simp only [List.set_cons_zero]
  refine' takeS (i := 1) (v := _) rfl (by kernel_rfl) (by kernel_rfl) (by kernel_rfl) (fun _ _ _ h => h) (by kernel_rfl) (fun wb hwb => ?_) ⟨q0,q1⟩ ?_
  rotate_left
  · (obtain ⟨s0, s1⟩ := hwb; go_simp; try rfl)
  try simp only [List.getElem_toArray]
  try simp only [List.getElem_cons_succ]
  try simp only [List.getElem_cons_zero]
  try simp only [Act.put]
  try simp only [List.setIfInBounds_toArray]
  try simp only [List.set_cons_succ]
  try simp only [List.set_cons_zero]
  refine' takeS (i := 3) (v := _) rfl (by kernel_rfl) (by kernel_rfl) (by kernel_rfl) (fun _ _ _ h => h) (by kernel_rfl) (fun wb hwb => ?_) ⟨q0,q1⟩ ?_
  rotate_left
  · (obtain ⟨s0, s1⟩ := hwb; go_simp; try rfl)
  try simp only [List.getElem_toArray]
  try simp only [List.getElem_cons_succ]
  try simp only [List.getElem_cons_zero]
  try simp only [Act.put]
  try simp only [List.setIfInBounds_toArray]
  try simp only [List.set_cons_succ]
  try simp only [List.set_cons_zero]
  refine' takeS (i := 4) (v := _) rfl (by kernel_rfl) (by kernel_rfl) (by kernel_rfl) (fun _ _ _ h => h) (by kernel_rfl) (fun wb hwb => ?_) ⟨q0,q1⟩ ?_
  rotate_left
  · (obtain ⟨s0, s1⟩ := hwb; go_simp; try rfl)
  try simp only [List.getElem_toArray]
  try simp only [List.getElem_cons_succ]
  try simp only [List.getElem_cons_zero]
  try simp only [Act.put]
  try simp only [List.setIfInBounds_toArray]
  try simp only [List.set_cons_succ]
  try simp only [List.set_cons_zero]
  refine' takeS (i := 5) (v := _) rfl (by kernel_rfl) (by kernel_rfl) (by kernel_rfl) (fun _ _ _ h => h) (by kernel_rfl) (fun wb hwb => ?_) ⟨q0,q1⟩ ?_
  rotate_left
  · (obtain ⟨s0, s1⟩ := hwb; go_simp; try rfl)
  try simp only [List.getElem_toArray]
  try simp only [List.getElem_cons_succ]
  try simp only [List.getElem_cons_zero]
  try simp only [Act.put]
  try simp only [List.setIfInBounds_toArray]
  try simp only [List.set_cons_succ]
  try simp only [List.set_cons_zero]
  have fin : ∀ w' L', Held w w' (boxR2 w.heap.size 26 (.int .i64 wd) (.slice ra rows.length rc) :: L') → (∀ r ∈ L1 ++ [rowI (.slice ra rows.length rc) rows], r ∈ L') → IntsAt w' (.slice ra rows.length rc) rows ∧ PiecesAt w' (.slice pa pss.length pc) pss ∧ ∃ x, w' = ext w x := fun w' L' H hs =>
    ⟨H.ints (List.mem_cons_of_mem _ (hs _ (List.mem_append_right _ List.mem_cons_self))), HO.out _ _ _ H (fun r hr => List.mem_cons_of_mem _ (hs r (List.mem_append_left _ hr))), ext_of H.bel⟩
  have FIN := Lib.hid fin
  clear fin
  refine forkE (i := 2) (j := 8) rfl rfl (by kernel_rfl) (by kernel_rfl) (by kernel_rfl) (fun K' hK' => ?_) (fun K' hK' => ?_)
  · go_wp2_with fail
    have G : Hid (Held w (w4.alloc (.cells #[.int .i64 0, .int .i64 1, .int .i64 2, .int .i64 3, .int .i64 (-1), .int .i64 200] 3)) (rowI (.slice (some ⟨w4.heap.size, 0, none⟩) 6 6) [0, 1, 2, 3, -1, 200] :: _)) := Lib.hid (HF.out.newI [0, 1, 2, 3, -1, 200] (by simp [maxLen]))
    clear q0 q1 q2 q3 q4 HF
    generalize w4.heap.size = b6 at G ⊢
    generalize World.alloc w4 _ = w5 at G ⊢
    obtain ⟨q0, q1, q2, q3, q4⟩ := G.out.readB2 2 rfl
    obtain ⟨c1, c2⟩ := G.out.rowCellQ (xs := [0, 1, 2, 3, -1, 200]) List.mem_cons_self hq6
    rw [HZZ.out] at c1
    refine hK'.out _ _ ⟨q0, q1⟩ ?_
    clear hK' K'
    refine' takeS (i := 6) (v := _) rfl (by kernel_rfl) (by kernel_rfl) (by kernel_rfl) (fun _ _ _ h => h) (by kernel_rfl) (fun wb hwb => ?_) ⟨q0,q1⟩ ?_
    rotate_left
    · (obtain ⟨s0, s1⟩ := hwb; go_simp; try rfl)
    try simp only [List.getElem_toArray]
    try simp only [List.getElem_cons_succ]
    try simp only [List.getElem_cons_zero]
    try simp only [Act.put]
    try simp only [List.setIfInBounds_toArray]
    try simp only [List.set_cons_succ]
    try simp only [List.set_cons_zero]
    refine forkE (i := 7) (j := 8) rfl rfl (by kernel_rfl) (by kernel_rfl) (by kernel_rfl) (fun K' hK' => ?_) (fun K' hK' => ?_)
    · go_wp2_with fail
      refine hK'.out _ _ ⟨q0, q1⟩ ?_
      clear hK' K'
      refine nextE (i := 8) rfl (by kernel_rfl) (by kernel_rfl) (fun K' hK' => ?_)
      obtain ⟨k0, k1, k2, k3, k4⟩ := G.out.readB2 1 rfl
      go_wp2_with fail
      have M := Lib.hid ((G.out.pull 1 rfl).setBox2 (.int .i64 wd) (.slice ra rows.length rc))
      clear q0 q1 q2 q3 q4 k0 k1 k2 k3 k4 c1 c2
      generalize World.setCell (World.setCell _ _ _) _ _ = w6 at M ⊢
      obtain ⟨q0, q1, q2, q3, q4⟩ := M.out.readB2 2 rfl
      refine hK'.out _ _ ⟨q0, q1⟩ ?_
      clear hK' K'
      refine' takeS (i := 9) (v := _) rfl (by kernel_rfl) (by kernel_rfl) (by kernel_rfl) (fun _ _ _ h => h) (by kernel_rfl) (fun wb hwb => ?_) ⟨q0,q1⟩ ?_
      rotate_left
      · (obtain ⟨s0, s1⟩ := hwb; go_simp; try rfl)
      try simp only [List.getElem_toArray]
      try simp only [List.getElem_cons_succ]
      try simp only [List.getElem_cons_zero]
      try simp only [Act.put]
      try simp only [List.setIfInBounds_toArray]
      try simp only [List.set_cons_succ]
      try simp only [List.set_cons_zero]
      refine' takeS (i := 10) (v := _) rfl (by kernel_rfl) (by kernel_rfl) (by kernel_rfl) (fun _ _ _ h => h) (by kernel_rfl) (fun wb hwb => ?_) ⟨q0,q1⟩ ?_
      rotate_left
      · (obtain ⟨s0, s1⟩ := hwb; go_simp; try rfl)
      try simp only [List.getElem_toArray]
      try simp only [List.getElem_cons_succ]
      try simp only [List.getElem_cons_zero]
      try simp only [Act.put]
      try simp only [List.setIfInBounds_toArray]
      try simp only [List.set_cons_succ]
      try simp only [List.set_cons_zero]
      refine wpAnyH_done (by kernel_rfl) ?_ _
      obtain ⟨m0, m1, _, _, _⟩ := M.out.readB2 0 rfl
      go_wp2_with fail
      refine bodyPost_ret (v := .tuple #[.agg #[.int .i64 wd, .slice ra rows.length rc], .slice pa pss.length pc, .int .i64 z]) (by simp [results, Tryz.results52, go_sem, m0, m1]) rfl ?_
      exact ⟨wd, ra, rc, pa, pc, rows, pss, z, rfl, HZ.out.1, HZ.out.2, FIN.out _ _ M.out (fun r hr => List.mem_cons_of_mem _ (List.mem_cons_of_mem _ hr))⟩
    · obtain ⟨k0, k1, k2, k3, k4⟩ := G.out.readB2 1 rfl
      go_wp2_with fail
      have M := Lib.hid ((G.out.pull 1 rfl).setBox2 (.int .i64 wd) (.slice ra rows.length rc))
      clear q0 q1 q2 q3 q4 k0 k1 k2 k3 k4 c1 c2
      generalize World.setCell (World.setCell _ _ _) _ _ = w6 at M ⊢
      obtain ⟨q0, q1, q2, q3, q4⟩ := M.out.readB2 2 rfl
      obtain ⟨c1, c2⟩ := M.out.rowCellQ (xs := [0, 1, 2, 3, -1, 200]) (List.mem_cons_of_mem _ List.mem_cons_self) hq6
      rw [HZZ.out] at c1
      refine hK'.out _ _ ⟨q0, q1⟩ ?_
      clear hK' K'
      refine' takeS (i := 9) (v := _) rfl (by kernel_rfl) (by kernel_rfl) (by kernel_rfl) (fun _ _ _ h => h) (by kernel_rfl) (fun wb hwb => ?_) ⟨q0,q1⟩ ?_
      rotate_left
      · (obtain ⟨s0, s1⟩ := hwb; go_simp; try rfl)
      try simp only [List.getElem_toArray]
      try simp only [List.getElem_cons_succ]
      try simp only [List.getElem_cons_zero]
      try simp only [Act.put]
      try simp only [List.setIfInBounds_toArray]
      try simp only [List.set_cons_succ]
      try simp only [List.set_cons_zero]
      refine nextE (i := 7) rfl (by kernel_rfl) (by kernel_rfl) (fun K' hK' => ?_)
      go_wp2_with fail
      refine hK'.out _ _ ⟨q0, q1⟩ ?_
      clear hK' K'
      refine' takeS (i := 10) (v := _) rfl (by kernel_rfl) (by kernel_rfl) (by kernel_rfl) (fun _ _ _ h => h) (by kernel_rfl) (fun wb hwb => ?_) ⟨q0,q1⟩ ?_
      rotate_left
      · (obtain ⟨s0, s1⟩ := hwb; go_simp; try rfl)
      try simp only [List.getElem_toArray]
      try simp only [List.getElem_cons_succ]
      try simp only [List.getElem_cons_zero]
      try simp only [Act.put]
      try simp only [List.setIfInBounds_toArray]
      try simp only [List.set_cons_succ]
      try simp only [List.set_cons_zero]
      refine wpAnyH_done (by kernel_rfl) ?_ _
      obtain ⟨m0, m1, _, _, _⟩ := M.out.readB2 0 rfl
      go_wp2_with fail
      refine bodyPost_ret (v := .tuple #[.agg #[.int .i64 wd, .slice ra rows.length rc], .slice pa pss.length pc, .int .i64 z]) (by simp [results, Tryz.results52, go_sem, m0, m1]) rfl ?_
      exact ⟨wd, ra, rc, pa, pc, rows, pss, z, rfl, HZ.out.1, HZ.out.2, FIN.out _ _ M.out (fun r hr => List.mem_cons_of_mem _ (List.mem_cons_of_mem _ hr))⟩
  · obtain ⟨k0, k1, k2, k3, k4⟩ := HF.out.readB2 0 rfl
    go_wp2_with fail
    have M := Lib.hid (HF.out.setBox2 (.int .i64 wd) (.slice ra rows.length rc))
    clear q0 q1 q2 q3 q4 k0 k1 k2 k3 k4 HF
    generalize World.setCell (World.setCell _ _ _) _ _ = w5 at M ⊢
    obtain ⟨q0, q1, q2, q3, q4⟩ := M.out.readB2 1 rfl
    refine hK'.out _ _ ⟨q0, q1⟩ ?_
    clear hK' K'
    refine' takeS (i := 9) (v := _) rfl (by kernel_rfl) (by kernel_rfl) (by kernel_rfl) (fun _ _ _ h => h) (by kernel_rfl) (fun wb hwb => ?_) ⟨q0,q1⟩ ?_
    rotate_left
    · (obtain ⟨s0, s1⟩ := hwb; go_simp; try rfl)
    try simp only [List.getElem_toArray]
    try simp only [List.getElem_cons_succ]
    try simp only [List.getElem_cons_zero]
    try simp only [Act.put]
    try simp only [List.setIfInBounds_toArray]
    try simp only [List.set_cons_succ]
    try simp only [List.set_cons_zero]
    refine nextE (i := 2) rfl (by kernel_rfl) (by kernel_rfl) (fun K' hK' => ?_)
    go_wp2_with fail
    have G : Hid (Held w (w5.alloc (.cells #[.int .i64 0, .int .i64 1, .int .i64 2, .int .i64 3, .int .i64 (-1), .int .i64 200] 3)) (rowI (.slice (some ⟨w5.heap.size, 0, none⟩) 6 6) [0, 1, 2, 3, -1, 200] :: _)) := Lib.hid (M.out.newI [0, 1, 2, 3, -1, 200] (by simp [maxLen]))
    clear q0 q1 q2 q3 q4 M
    generalize w5.heap.size = b6 at G ⊢
    generalize World.alloc w5 _ = w6 at G ⊢
    obtain ⟨q0, q1, q2, q3, q4⟩ := G.out.readB2 2 rfl
    obtain ⟨c1, c2⟩ := G.out.rowCellQ (xs := [0, 1, 2, 3, -1, 200]) List.mem_cons_self hq6
    rw [HZZ.out] at c1
    refine hK'.out _ _ ⟨q0, q1⟩ ?_
    clear hK' K'
    refine' takeS (i := 6) (v := _) rfl (by kernel_rfl) (by kernel_rfl) (by kernel_rfl) (fun _ _ _ h => h) (by kernel_rfl) (fun wb hwb => ?_) ⟨q0,q1⟩ ?_
    rotate_left
    · (obtain ⟨s0, s1⟩ := hwb; go_simp; try rfl)
    try simp only [List.getElem_toArray]
    try simp only [List.getElem_cons_succ]
    try simp only [List.getElem_cons_zero]
    try simp only [Act.put]
    try simp only [List.setIfInBounds_toArray]
    try simp only [List.set_cons_succ]
    try simp only [List.set_cons_zero]
    refine nextE (i := 7) rfl (by kernel_rfl) (by kernel_rfl) (fun K' hK' => ?_)
    go_wp2_with fail
    refine hK'.out _ _ ⟨q0, q1⟩ ?_
    clear hK' K'
    refine' takeS (i := 10) (v := _) rfl (by kernel_rfl) (by kernel_rfl) (by kernel_rfl) (fun _ _ _ h => h) (by kernel_rfl) (fun wb hwb => ?_) ⟨q0,q1⟩ ?_
    rotate_left
    · (obtain ⟨s0, s1⟩ := hwb; go_simp; try rfl)
    try simp only [List.getElem_toArray]
    try simp only [List.getElem_cons_succ]
    try simp only [List.getElem_cons_zero]
    try simp only [Act.put]
    try simp only [List.setIfInBounds_toArray]
    try simp only [List.set_cons_succ]
    try simp only [List.set_cons_zero]
    have G2 := Lib.hid (G.out.pull 1 rfl)
    refine wpAnyH_done (by kernel_rfl) ?_ _
    obtain ⟨m0, m1, _, _, _⟩ := G2.out.readB2 0 rfl
    go_wp2_with fail
    refine bodyPost_ret (v := .tuple #[.agg #[.int .i64 wd, .slice ra rows.length rc], .slice pa pss.length pc, .int .i64 z]) (by simp [results, Tryz.results52, go_sem, m0, m1]) rfl ?_
    exact ⟨wd, ra, rc, pa, pc, rows, pss, z, rfl, HZ.out.1, HZ.out.2, FIN.out _ _ G2.out (fun r hr => List.mem_cons_of_mem _ (List.mem_cons_of_mem _ hr))⟩
def MaskL (l : List Int) : Prop := ∀ n ∈ l, 0 ≤ n ∧ n < 68719476736
theorem MaskL.wf {l : List Int} (h : MaskL l) : ∀ n ∈ l, (Lit.int .i64 n).wf = true := fun n hn => by
  have := h n hn
  simp [Lit.wf, IntKind.min, IntKind.max, IntKind.signed, IntKind.bits]; omega
theorem mask_cast {l : List Nat} (h : ∀ m ∈ l, m < 2 ^ 36) : MaskL (castL l) := fun n hn => by
  obtain ⟨m, hm, rfl⟩ := List.mem_map.1 hn
  have := h m hm
  omega
theorem al_mask (wd : Int) (rows : List Int) (pss : List (List (Int × Int))) : MaskL (castL (alV wd rows pss)) := mask_cast fun m hm => by
  cases hp : probB wd rows pss
  · rw [alV_no hp] at hm; cases hm
  · rw [alV_yes hp] at hm; exact alN_lt _ _ _ m hm
theorem tn_mask {wd : Int} {rows : List Int} {pss : List (List (Int × Int))} {n : Int} {l : List Int} (h : tnV wd rows pss n = some l) : MaskL l := by
  obtain ⟨_, _, _, t, h1, rfl⟩ := tn_some h
  exact mask_cast fun m hm => alN_lt _ _ _ m (tl_mem (List.mem_of_getElem? h1) m hm)
/-- a region, pieces, and a list of masks -/
def TilPost (w : World) (e : Ending) (w' : World) : Prop := ∃ (wd : Int) (ra : Option Addr) (rc : Nat) (pa : Option Addr) (pc : Nat) (la : Option Addr) (lc : Nat) (rows : List Int) (pss : List (List (Int × Int))) (l : List Int),
  e = .returned (.tuple #[.agg #[.int .i64 wd, .slice ra rows.length rc], .slice pa pss.length pc, .slice la l.length lc]) ∧ IntsAt w' (.slice ra rows.length rc) rows ∧ PiecesAt w' (.slice pa pss.length pc) pss ∧ IntsAt w' (.slice la l.length lc) l ∧ MaskL l ∧ (∃ x, w' = ext w x) ∧ ∃ L', Held w w' L' ∧ rowI (.slice ra rows.length rc) rows ∈ L' ∧ rowI (.slice la l.length lc) l ∈ L'
set_option maxRecDepth 100000 in
set_option maxHeartbeats 4000000 in
theorem drawIsTil_any (zs : List Int) (v : Value) (w : World) (hb : BytesAt w v zs) : Calls Tryz.prog 59 #[v] w (TilPost w) := by
  have HB := Lib.hid hb
  obtain ⟨a, b, o, cap, rfl, hc1, hc2, hc3, hcell⟩ := hb.opn
  clear hb hcell
  obtain ⟨q, hq⟩ : ∃ q, q = zs.length % 5 := ⟨_, rfl⟩
  have hqt : Int.tmod (zs.length : Int) 5 = (q : Int) := by rw [Int.tmod_eq_emod_of_nonneg (by omega)]; omega
  clear hq
  have H0 := Lib.hid ((Held.start w).newBox2 26 (.int .i64 0) (.slice none 0 0))
  go_enter Tryz.func59, Tryz.ntmps59
  go_upto_region 3 with (first | (go_at_call 118; refine (l8Both_any zs _ _ (HB.out.mono (bel_of_ext (by repeat first | apply wxr | with_reducible assumption | apply wxe | apply wxa | apply wxd)))).mono ?_; rintro e w1 ⟨wd, ra, rc, pa, pc, rows, pss, L1, rfl, hl, h3, hown, K⟩; obtain ⟨jr, jp, _⟩ := BothPost.reads hown K; have HD := Lib.hid ((H0.out.to (by repeat first | apply wxr | with_reducible assumption | apply wxe | apply wxa | apply wxd)).join K); have HO := Lib.hid hown; clear K hown) | (go_at_call 66; refine (specFt_any _ _ _ _ _ _ (by first | (with_reducible assumption) | (with_reducible exact IntsAt.mono (by assumption) (bel_of_ext (by repeat first | apply wxr | with_reducible assumption | apply wxe | apply wxa | apply wxd))) | (with_reducible exact CellsAt.mono (by assumption) (bel_of_ext (by repeat first | apply wxr | with_reducible assumption | apply wxe | apply wxa | apply wxd))) | (with_reducible exact RegionAt.mono (by assumption) (bel_of_ext (by repeat first | apply wxr | with_reducible assumption | apply wxe | apply wxa | apply wxd))) | (with_reducible exact RowsAt.mono (by assumption) (bel_of_ext (by repeat first | apply wxr | with_reducible assumption | apply wxe | apply wxa | apply wxd))) | (with_reducible exact PiecesAt.mono (by assumption) (bel_of_ext (by repeat first | apply wxr | with_reducible assumption | apply wxe | apply wxa | apply wxd))) | (with_reducible exact TextsAt.mono (by assumption) (bel_of_ext (by repeat first | apply wxr | with_reducible assumption | apply wxe | apply wxa | apply wxd)))) (by first | (with_reducible assumption) | (with_reducible exact IntsAt.mono (by assumption) (bel_of_ext (by repeat first | apply wxr | with_reducible assumption | apply wxe | apply wxa | apply wxd))) | (with_reducible exact CellsAt.mono (by assumption) (bel_of_ext (by repeat first | apply wxr | with_reducible assumption | apply wxe | apply wxa | apply wxd))) | (with_reducible exact RegionAt.mono (by assumption) (bel_of_ext (by repeat first | apply wxr | with_reducible assumption | apply wxe | apply wxa | apply wxd))) | (with_reducible exact RowsAt.mono (by assumption) (bel_of_ext (by repeat first | apply wxr | with_reducible assumption | apply wxe | apply wxa | apply wxd))) | (with_reducible exact PiecesAt.mono (by assumption) (bel_of_ext (by repeat first | apply wxr | with_reducible assumption | apply wxe | apply wxa | apply wxd))) | (with_reducible exact TextsAt.mono (by assumption) (bel_of_ext (by repeat first | apply wxr | with_reducible assumption | apply wxe | apply wxa | apply wxd))))).mono ?_; rintro e w2 ⟨lv, rfl, hx2, own⟩; have HE := Lib.hid (takeI_held (HD.out.newBox2 26 (.int .i64 wd) (.slice ra rows.length rc)) hx2 own); obtain ⟨la, lc, rfl⟩ := own_slice own; clear own jr jp hx2))
  have fin : ∀ w' L', Held w w' L' → (∀ r ∈ L1 ++ [rowI (.slice ra rows.length rc) rows], r ∈ L') → IntsAt w' (.slice ra rows.length rc) rows ∧ PiecesAt w' (.slice pa pss.length pc) pss ∧ ∃ x, w' = ext w x := fun w' L' H hs =>
    ⟨H.ints (hs _ (List.mem_append_right _ List.mem_cons_self)), HO.out _ _ _ H (fun r hr => hs r (List.mem_append_left _ hr)), ext_of H.bel⟩
  have FIN := Lib.hid fin
  clear fin HD
  rcases hr : tnV wd rows pss 0 with _ | l
  · rw [hr] at HE
    simp only [Option.isSome_none, Option.getD_none, List.length_nil]
    clear hr
    have HG := Lib.hid HE.out.drop
    clear HE
    go_upto_region 5 with fail
    generalize w1.heap.size = b5 at HG ⊢
    refine wp_region_heldS (S := fun w' => w'.cell? ⟨b5, 0, none⟩ = some (.int .i64 wd) ∧ w'.cell? ⟨b5, 1, none⟩ = some (.slice ra rows.length rc)) (by kernel_rfl) ?_
    have HH := Lib.hid ((HG.out.front ((List.perm_append_comm (l₁ := _ :: _) (l₂ := [_])))).to (w' := w2.drew) (by repeat first | apply wxr | with_reducible assumption | apply wxe | apply wxa | apply wxd))
    clear HG
    generalize w2.drew = w4 at HH ⊢
    obtain ⟨q0, q1, q2, q3, q4⟩ := HH.out.readB2 1 rfl
    obtain ⟨jr4, jp4, _⟩ := FIN.out _ _ HH.out (fun r hr => List.mem_cons_of_mem _ (List.mem_cons_of_mem _ hr))
    refine' takeS (i := 0) (v := _) rfl (by kernel_rfl) (by kernel_rfl) (by kernel_rfl) (fun _ _ _ h => h) (by kernel_rfl) (fun wb hwb => ?_) ⟨q0,q1⟩ ?_
    rotate_left
    · (obtain ⟨s0, s1⟩ := hwb; go_simp; try rfl)
    try simp only [List.getElem_toArray]
    try simp only [List.getElem_cons_succ]
    try simp only [List.getElem_cons_zero]
    try simp only [Act.put]
    try simp only [List.setIfInBounds_toArray]
    try simp only [List.set_cons_succ]
    try simp only [List.set_cons_zero]
    refine' takeS (i := 1) (v := _) rfl (by kernel_rfl) (by kernel_rfl) (by kernel_rfl) (fun _ _ _ h => h) (by kernel_rfl) (fun wb hwb => ?_) ⟨q0,q1⟩ ?_
    rotate_left
    · (obtain ⟨s0, s1⟩ := hwb; go_simp; try rfl)
    try simp only [List.getElem_toArray]
    try simp only [List.getElem_cons_succ]
    try simp only [List.getElem_cons_zero]
    try simp only [Act.put]
    try simp only [List.setIfInBounds_toArray]
    try simp only [List.set_cons_succ]
    try simp only [List.set_cons_zero]
    refine' takeS (i := 2) (v := _) rfl (by kernel_rfl) (by kernel_rfl) (by kernel_rfl) (fun _ _ _ h => h) (by kernel_rfl) (fun wb hwb => ?_) ⟨q0,q1⟩ ?_
    rotate_left
    · (obtain ⟨s0, s1⟩ := hwb; go_simp; try rfl)
    try simp only [List.getElem_toArray]
    try simp only [List.getElem_cons_succ]
    try simp only [List.getElem_cons_zero]
    try simp only [Act.put]
    try simp only [List.setIfInBounds_toArray]
    try simp only [List.set_cons_succ]
    try simp only [List.set_cons_zero]
    refine' takeS (i := 3) (v := _) rfl (by kernel_rfl) (by kernel_rfl) (by kernel_rfl) (fun _ _ _ h => h) (by kernel_rfl) (fun wb hwb => ?_) ⟨q0,q1⟩ ?_
    rotate_left
    · (obtain ⟨s0, s1⟩ := hwb; go_simp; try rfl)
    try simp only [List.getElem_toArray]
    try simp only [List.getElem_cons_succ]
    try simp only [List.getElem_cons_zero]
    try simp only [Act.put]
    try simp only [List.setIfInBounds_toArray]
    try simp only [List.set_cons_succ]
    try simp only [List.set_cons_zero]
    refine nextE (i := 4) rfl (by kernel_rfl) (by kernel_rfl) (fun K' hK' => ?_)
    go_wp2_with (go_at_call 108; refine (specAll_any _ _ _ _ _ _ jr4 jp4).mono ?_; rintro e w5 ⟨av, rfl, K⟩; obtain ⟨aa, ac, rfl⟩ := K.rowV; have HJ := Lib.hid (HH.out.take1 K); clear K)
    clear q0 q1 q2 q3 q4 jr4 jp4 HH
    obtain ⟨q0, q1, q2, q3, q4⟩ := HJ.out.readB2 2 rfl
    refine hK'.out _ _ ⟨q0, q1⟩ ?_
    clear hK' K'
    refine nextE (i := 5) rfl (by kernel_rfl) (by kernel_rfl) (fun K' hK' => ?_)
    obtain ⟨k0, k1, k2, k3, k4⟩ := HJ.out.readB2 1 rfl
    go_wp2_with fail
    have M := Lib.hid ((HJ.out.pull 1 rfl).setBox2 (.int .i64 wd) (.slice ra rows.length rc))
    clear q0 q1 q2 q3 q4 k0 k1 k2 k3 k4 HJ
    generalize World.setCell (World.setCell _ _ _) _ _ = w6 at M ⊢
    obtain ⟨q0, q1, q2, q3, q4⟩ := M.out.readB2 2 rfl
    refine hK'.out _ _ ⟨q0, q1⟩ ?_
    clear hK' K'
    refine' takeS (i := 6) (v := _) rfl (by kernel_rfl) (by kernel_rfl) (by kernel_rfl) (fun _ _ _ h => h) (by kernel_rfl) (fun wb hwb => ?_) ⟨q0,q1⟩ ?_
    rotate_left
    · (obtain ⟨s0, s1⟩ := hwb; go_simp; try rfl)
    try simp only [List.getElem_toArray]
    try simp only [List.getElem_cons_succ]
    try simp only [List.getElem_cons_zero]
    try simp only [Act.put]
    try simp only [List.setIfInBounds_toArray]
    try simp only [List.set_cons_succ]
    try simp only [List.set_cons_zero]
    refine' takeS (i := 7) (v := _) rfl (by kernel_rfl) (by kernel_rfl) (by kernel_rfl) (fun _ _ _ h => h) (by kernel_rfl) (fun wb hwb => ?_) ⟨q0,q1⟩ ?_
    rotate_left
    · (obtain ⟨s0, s1⟩ := hwb; go_simp; try rfl)
    try simp only [List.getElem_toArray]
    try simp only [List.getElem_cons_succ]
    try simp only [List.getElem_cons_zero]
    try simp only [Act.put]
    try simp only [List.setIfInBounds_toArray]
    try simp only [List.set_cons_succ]
    try simp only [List.set_cons_zero]
    refine wpAnyH_done (by kernel_rfl) ?_ _
    obtain ⟨m0, m1, _, _, _⟩ := M.out.readB2 0 rfl
    go_wp2_with fail
    refine bodyPost_ret (v := .tuple #[.agg #[.int .i64 wd, .slice ra rows.length rc], .slice pa pss.length pc, .slice aa (castL (alV wd rows pss)).length ac]) (by simp [results, Tryz.results59, go_sem, m0, m1]) rfl ?_
    obtain ⟨jr5, jp5, hx5⟩ := FIN.out _ _ M.out (fun r hr => List.mem_cons_of_mem _ (List.mem_cons_of_mem _ (List.mem_cons_of_mem _ hr)))
    exact ⟨wd, ra, rc, pa, pc, aa, ac, rows, pss, _, rfl, jr5, jp5, M.out.ints (List.mem_cons_of_mem _ List.mem_cons_self), al_mask _ _ _, hx5, _, M.out, List.mem_cons_of_mem _ (List.mem_cons_of_mem _ (List.mem_cons_of_mem _ (List.mem_append_right _ List.mem_cons_self))), List.mem_cons_of_mem _ List.mem_cons_self⟩
  · have HM := Lib.hid (tn_mask hr)
    rw [hr] at HE
    simp only [Option.isSome_some, Option.getD_some] at HE ⊢
    clear hr
    by_cases hm : 0 < q
    · have hd : decide ((0 : Int) < q) = true := decide_eq_true (by omega)
      obtain ⟨q0, q1, q2, q3, q4⟩ := HE.out.readB2 1 rfl
      obtain ⟨k0, k1, k2, k3, k4⟩ := HE.out.readBox2 (b := w.heap.size) (List.mem_cons_of_mem _ (List.mem_cons_of_mem _ (List.mem_append_right _ List.mem_cons_self)))
      go_wp2_with fail
      have M := Lib.hid ((HE.out.front (List.perm_append_comm (l₁ := _ :: _ :: _) (l₂ := [_]))).setBox2 (.int .i64 wd) (.slice ra rows.length rc))
      obtain ⟨m0, m1, _, _, _⟩ := M.out.readB2 0 rfl
      refine bodyPost_ret (v := .tuple #[.agg #[.int .i64 wd, .slice ra rows.length rc], .slice pa pss.length pc, .slice la l.length lc]) (by simp [results, Tryz.results59, go_sem, m0, m1]) rfl ?_
      obtain ⟨jr5, jp5, hx5⟩ := FIN.out _ _ M.out (fun r hr => List.mem_cons_of_mem _ (List.mem_cons_of_mem _ (List.mem_cons_of_mem _ hr)))
      exact ⟨wd, ra, rc, pa, pc, la, lc, rows, pss, l, rfl, jr5, jp5, M.out.ints (List.mem_cons_of_mem _ List.mem_cons_self), HM.out, hx5, _, M.out, List.mem_cons_of_mem _ (List.mem_cons_of_mem _ (List.mem_cons_of_mem _ (List.mem_append_right _ List.mem_cons_self))), List.mem_cons_of_mem _ List.mem_cons_self⟩
    · have hd : decide ((0 : Int) < q) = false := decide_eq_false (by omega)
      have HG := Lib.hid HE.out.drop
      clear HE
      go_upto_region 5 with fail
      generalize w1.heap.size = b5 at HG ⊢
      refine wp_region_heldS (S := fun w' => w'.cell? ⟨b5, 0, none⟩ = some (.int .i64 wd) ∧ w'.cell? ⟨b5, 1, none⟩ = some (.slice ra rows.length rc)) (by kernel_rfl) ?_
      have HH := Lib.hid ((HG.out.front ((List.perm_append_comm (l₁ := _ :: _) (l₂ := [_])))).to (w' := w2.drew) (by repeat first | apply wxr | with_reducible assumption | apply wxe | apply wxa | apply wxd))
      clear HG
      generalize w2.drew = w4 at HH ⊢
      obtain ⟨q0, q1, q2, q3, q4⟩ := HH.out.readB2 1 rfl
      obtain ⟨jr4, jp4, _⟩ := FIN.out _ _ HH.out (fun r hr => List.mem_cons_of_mem _ (List.mem_cons_of_mem _ hr))
      refine' takeS (i := 0) (v := _) rfl (by kernel_rfl) (by kernel_rfl) (by kernel_rfl) (fun _ _ _ h => h) (by kernel_rfl) (fun wb hwb => ?_) ⟨q0,q1⟩ ?_
      rotate_left
      · (obtain ⟨s0, s1⟩ := hwb; go_simp; try rfl)
      try simp only [List.getElem_toArray]
      try simp only [List.getElem_cons_succ]
      try simp only [List.getElem_cons_zero]
      try simp only [Act.put]
      try simp only [List.setIfInBounds_toArray]
      try simp only [List.set_cons_succ]
      try simp only [List.set_cons_zero]
      refine' takeS (i := 1) (v := _) rfl (by kernel_rfl) (by kernel_rfl) (by kernel_rfl) (fun _ _ _ h => h) (by kernel_rfl) (fun wb hwb => ?_) ⟨q0,q1⟩ ?_
      rotate_left
      · (obtain ⟨s0, s1⟩ := hwb; go_simp; try rfl)
      try simp only [List.getElem_toArray]
      try simp only [List.getElem_cons_succ]
      try simp only [List.getElem_cons_zero]
      try simp only [Act.put]
      try simp only [List.setIfInBounds_toArray]
      try simp only [List.set_cons_succ]
      try simp only [List.set_cons_zero]
      refine' takeS (i := 2) (v := _) rfl (by kernel_rfl) (by kernel_rfl) (by kernel_rfl) (fun _ _ _ h => h) (by kernel_rfl) (fun wb hwb => ?_) ⟨q0,q1⟩ ?_
      rotate_left
      · (obtain ⟨s0, s1⟩ := hwb; go_simp; try rfl)
      try simp only [List.getElem_toArray]
      try simp only [List.getElem_cons_succ]
      try simp only [List.getElem_cons_zero]
      try simp only [Act.put]
      try simp only [List.setIfInBounds_toArray]
      try simp only [List.set_cons_succ]
      try simp only [List.set_cons_zero]
      refine' takeS (i := 3) (v := _) rfl (by kernel_rfl) (by kernel_rfl) (by kernel_rfl) (fun _ _ _ h => h) (by kernel_rfl) (fun wb hwb => ?_) ⟨q0,q1⟩ ?_
      rotate_left
      · (obtain ⟨s0, s1⟩ := hwb; go_simp; try rfl)
      try simp only [List.getElem_toArray]
      try simp only [List.getElem_cons_succ]
      try simp only [List.getElem_cons_zero]
      try simp only [Act.put]
      try simp only [List.setIfInBounds_toArray]
      try simp only [List.set_cons_succ]
      try simp only [List.set_cons_zero]
      refine nextE (i := 4) rfl (by kernel_rfl) (by kernel_rfl) (fun K' hK' => ?_)
      go_wp2_with (go_at_call 108; refine (specAll_any _ _ _ _ _ _ jr4 jp4).mono ?_; rintro e w5 ⟨av, rfl, K⟩; obtain ⟨aa, ac, rfl⟩ := K.rowV; have HJ := Lib.hid (HH.out.take1 K); clear K)
      clear q0 q1 q2 q3 q4 jr4 jp4 HH
      obtain ⟨q0, q1, q2, q3, q4⟩ := HJ.out.readB2 2 rfl
      refine hK'.out _ _ ⟨q0, q1⟩ ?_
      clear hK' K'
      refine nextE (i := 5) rfl (by kernel_rfl) (by kernel_rfl) (fun K' hK' => ?_)
      obtain ⟨k0, k1, k2, k3, k4⟩ := HJ.out.readB2 1 rfl
      go_wp2_with fail
      have M := Lib.hid ((HJ.out.pull 1 rfl).setBox2 (.int .i64 wd) (.slice ra rows.length rc))
      clear q0 q1 q2 q3 q4 k0 k1 k2 k3 k4 HJ
      generalize World.setCell (World.setCell _ _ _) _ _ = w6 at M ⊢
      obtain ⟨q0, q1, q2, q3, q4⟩ := M.out.readB2 2 rfl
      refine hK'.out _ _ ⟨q0, q1⟩ ?_
      clear hK' K'
      refine' takeS (i := 6) (v := _) rfl (by kernel_rfl) (by kernel_rfl) (by kernel_rfl) (fun _ _ _ h => h) (by kernel_rfl) (fun wb hwb => ?_) ⟨q0,q1⟩ ?_
      rotate_left
      · (obtain ⟨s0, s1⟩ := hwb; go_simp; try rfl)
      try simp only [List.getElem_toArray]
      try simp only [List.getElem_cons_succ]
      try simp only [List.getElem_cons_zero]
      try simp only [Act.put]
      try simp only [List.setIfInBounds_toArray]
      try simp only [List.set_cons_succ]
      try simp only [List.set_cons_zero]
      refine' takeS (i := 7) (v := _) rfl (by kernel_rfl) (by kernel_rfl) (by kernel_rfl) (fun _ _ _ h => h) (by kernel_rfl) (fun wb hwb => ?_) ⟨q0,q1⟩ ?_
      rotate_left
      · (obtain ⟨s0, s1⟩ := hwb; go_simp; try rfl)
      try simp only [List.getElem_toArray]
      try simp only [List.getElem_cons_succ]
      try simp only [List.getElem_cons_zero]
      try simp only [Act.put]
      try simp only [List.setIfInBounds_toArray]
      try simp only [List.set_cons_succ]
      try simp only [List.set_cons_zero]
      refine wpAnyH_done (by kernel_rfl) ?_ _
      obtain ⟨m0, m1, _, _, _⟩ := M.out.readB2 0 rfl
      go_wp2_with fail
      refine bodyPost_ret (v := .tuple #[.agg #[.int .i64 wd, .slice ra rows.length rc], .slice pa pss.length pc, .slice aa (castL (alV wd rows pss)).length ac]) (by simp [results, Tryz.results59, go_sem, m0, m1]) rfl ?_
      obtain ⟨jr5, jp5, hx5⟩ := FIN.out _ _ M.out (fun r hr => List.mem_cons_of_mem _ (List.mem_cons_of_mem _ (List.mem_cons_of_mem _ hr)))
      exact ⟨wd, ra, rc, pa, pc, aa, ac, rows, pss, _, rfl, jr5, jp5, M.out.ints (List.mem_cons_of_mem _ List.mem_cons_self), al_mask _ _ _, hx5, _, M.out, List.mem_cons_of_mem _ (List.mem_cons_of_mem _ (List.mem_cons_of_mem _ (List.mem_append_right _ List.mem_cons_self))), List.mem_cons_of_mem _ List.mem_cons_self⟩
set_option maxHeartbeats 2000000 in
theorem drawFT_any (zs : List Int) (v : Value) (w : World) (hb : BytesAt w v zs) : Calls Tryz.prog 60 #[v] w fun e w' => ∃ (wd : Int) (ra : Option Addr) (rc : Nat) (la : Option Addr) (lc : Nat) (rows l : List Int),
    e = .returned (.tuple #[.agg #[.int .i64 wd, .slice ra rows.length rc], .slice la l.length lc]) ∧ IntsAt w' (.slice ra rows.length rc) rows ∧ IntsAt w' (.slice la l.length lc) l ∧ MaskL l ∧ ∃ x, w' = ext w x := by
  have HB := Lib.hid hb
  have H0 := Lib.hid ((Held.start w).newBox2 26 (.int .i64 0) (.slice none 0 0))
  clear hb
  go_enter Tryz.func60, Tryz.ntmps60
  go_wp2_with (first | (go_at_call 59; refine (drawIsTil_any zs v _ (HB.out.mono (bel_of_ext (by repeat first | apply wxr | with_reducible assumption | apply wxe | apply wxa | apply wxd)))).mono ?_; rintro e w1 ⟨wd, ra, rc, pa, pc, la, lc, rows, pss, l, rfl, _, _, _, hM, _, L', K, n1, n2⟩; have HD := Lib.hid ((H0.out.to (by repeat first | apply wxr | with_reducible assumption | apply wxe | apply wxa | apply wxd)).join K); have HM := Lib.hid (And.intro hM (And.intro n1 n2)); obtain ⟨k0, k1, k2, k3, k4⟩ := HD.out.readBox2 (b := w.heap.size) (List.mem_append_right _ List.mem_cons_self); clear K hM n1 n2))
  have HF := (HD.out.front (perm_last1 _ _)).setBox2 (.int .i64 wd) (.slice ra rows.length rc)
  obtain ⟨m0, m1, m2, m3, m4⟩ := HF.readB2 0 rfl
  refine bodyPost_ret (v := .tuple #[.agg #[.int .i64 wd, .slice ra rows.length rc], .slice la l.length lc]) (by simp [results, Tryz.results60, go_sem, m0, m1]) rfl ?_
  obtain ⟨hM, n1, n2⟩ := HM.out
  have HG := fun w' hx => HF.to (w' := w') hx
  exact ⟨wd, ra, rc, la, lc, rows, l, rfl, (HG _ (by repeat first | apply wxr | with_reducible assumption | apply wxe | apply wxa | apply wxd)).ints (List.mem_cons_of_mem _ n1), (HG _ (by repeat first | apply wxr | with_reducible assumption | apply wxe | apply wxa | apply wxd)).ints (List.mem_cons_of_mem _ n2), hM, ext_of (HG _ (by repeat first | apply wxr | with_reducible assumption | apply wxe | apply wxa | apply wxd)).bel⟩
end
section
open Go.ChangeShapes Go.WideShapes Go.ChangeAt Go.RowKit
def tb (ls : List Int) (b i : Nat) : Bool := decide (0 ≤ nth ls i) && (nth ls i).toNat.testBit b
/-- the least number with the bit, among the last j ones -/
def dnTo (ls : List Int) (b : Nat) : Nat → Option Nat := iter (fun j s => if tb ls b (ls.length - 1 - j) then some (ls.length - 1 - j) else s) none
theorem dnTo_t {ls : List Int} {b j : Nat} (h : tb ls b (ls.length - 1 - j) = true) : dnTo ls b (j + 1) = some (ls.length - 1 - j) := by simp [dnTo, iter, h]
theorem dnTo_f {ls : List Int} {b j : Nat} (h : tb ls b (ls.length - 1 - j) = false) : dnTo ls b (j + 1) = dnTo ls b j := by simp [dnTo, iter, h]
theorem dnTo_lt {ls : List Int} {b : Nat} : ∀ j i, j ≤ ls.length → dnTo ls b j = some i → i < ls.length := by
  intro j
  induction j with
  | zero => intro i _ h; simp [dnTo, iter] at h
  | succ j ih =>
    intro i hj h
    cases ht : tb ls b (ls.length - 1 - j)
    · rw [dnTo_f ht] at h; exact ih i (by omega) h
    · rw [dnTo_t ht] at h; simp at h; omega
def lc : Option Nat → UInt8
  | none => 46
  | some i => UInt8.ofNat (97 + i)
def ftAt : Option Nat → Int
  | none => -1
  | some i => i
def tlTo (W : Nat) (ls : List Int) (y x : Nat) : List UInt8 := (List.range x).map fun i => lc (dnTo ls (addN (mulN y W) i) ls.length)
theorem tlTo_len (W : Nat) (ls : List Int) (y x : Nat) : (tlTo W ls y x).length = x := by simp [tlTo]
theorem tlTo_succ (W : Nat) (ls : List Int) (y x : Nat) : tlTo W ls y (x + 1) = tlTo W ls y x ++ [lc (dnTo ls (addN (mulN y W) x) ls.length)] := by simp [tlTo, List.range_succ]
def tsTo (W : Nat) (ls : List Int) (k : Nat) : List (List UInt8) := (List.range k).map fun y => tlTo W ls y W
theorem tsTo_len (W : Nat) (ls : List Int) (k : Nat) : (tsTo W ls k).length = k := by simp [tsTo]
theorem tsTo_succ (W : Nat) (ls : List Int) (k : Nat) : tsTo W ls (k + 1) = tsTo W ls k ++ [tlTo W ls k W] := by simp [tsTo, List.range_succ]
def ftlTo (W : Nat) (ls : List Int) (k : Nat) : List UInt8 := Lib.join (tsTo W ls k) [47]
def ttHd (W : Nat) (ls : List Int) (k : Nat) : List UInt8 := if k = 0 then [] else ftlTo W ls k ++ [47]
theorem ftlTo_succ (W : Nat) (ls : List Int) (k : Nat) : ftlTo W ls (k + 1) = ttHd W ls k ++ tlTo W ls k W := by
  unfold ttHd ftlTo
  rw [tsTo_succ]
  by_cases h : k = 0
  · subst h; simp [tsTo, Lib.join_one]
  · rw [if_neg h, join_snoc _ _ _ (by intro e; have := tsTo_len W ls k; rw [e] at this; exact h this.symm)]
theorem ttTo_len (W : Nat) (ls : List Int) (k : Nat) : (ftlTo W ls k).length ≤ k * (W + 1) := by
  induction k with
  | zero => simp [ftlTo, tsTo, Lib.join_nil]
  | succ k ih =>
    rw [ftlTo_succ, List.length_append, tlTo_len, Nat.succ_mul]
    unfold ttHd
    split
    · simp; omega
    · simp; omega
theorem ttHd_len {W : Nat} {ls : List Int} {k : Nat} (hW : W ≤ 6) (hk : k ≤ 6) : (ttHd W ls k).length ≤ 43 ∧ (ftlTo W ls k).length ≤ 42 := by
  have h1 := ttTo_len W ls k
  have h2 : k * (W + 1) ≤ 6 * 7 := Nat.mul_le_mul hk (by omega)
  unfold ttHd
  split
  · simp; omega
  · simp; omega
def tilV (wd : Int) (rows ls : List Int) : List UInt8 := if regB wd rows && decide ((ls.length : Int) ≤ 26) then ftlTo wd.toNat ls rows.length else []
theorem tilV_r {wd : Int} {rows ls : List Int} (h : regB wd rows = false) : tilV wd rows ls = [] := by simp [tilV, h]
theorem tilV_l {wd : Int} {rows ls : List Int} (h : (26 : Int) < ls.length) : tilV wd rows ls = [] := by
  unfold tilV; rw [if_neg]; simp; intro _; omega
theorem tilV_yes {W : Nat} {rows ls : List Int} (h : regB W rows = true) (h2 : (ls.length : Int) ≤ 26) : tilV W rows ls = ftlTo W ls rows.length := by simp [tilV, h]; intro h3; omega
theorem nth_mem {xs : List Int} {k : Nat} (hk : k < xs.length) : nth xs k ∈ xs := by rw [← nth_get hk]; exact List.getElem_mem hk
theorem tb_neg {ls : List Int} {b i : Nat} (h : ¬ 0 ≤ nth ls i) : tb ls b i = false := by simp [tb, h]
theorem tb_nat {ls : List Int} {b i M : Nat} (h : nth ls i = M) : tb ls b i = M.testBit b := by simp [tb, h]
theorem down_zero (n : Nat) : ((n : Int) - 1) = (n : Int) - 1 - (0 : Nat) := by simp
theorem conv_one (i : Nat) (hi : i ≤ 26) (w : World) : (convert 22 9 (.slice (some ⟨w.heap.size, 0, none⟩) 1 1)).run Tryz.prog (w.alloc (.cells #[.int .u8 (97 + (i : Int))] 5)) = .ok (.string (bsOf [lc (some i)])) (w.alloc (.cells #[.int .u8 (97 + (i : Int))] 5)) := by
  refine run_convert_bytes_back _ _ _ 5 ⟨w.heap.size, 0, none⟩ 1 [lc (some i)] Tryz.underlying22 Tryz.underlying5 Tryz.underlying9 fun j hj => ?_
  obtain rfl : j = 0 := by simpa using hj
  have e : ((lc (some i)).toNat : Int) = 97 + (i : Int) := by
    simp only [lc, UInt8.toNat_ofNat']
    omega
  rw [Go.WideShapes.add_plain, World.cell?_alloc_at _ _ _ _ rfl]
  simp [e]
set_option maxRecDepth 100000 in
set_option maxHeartbeats 2000000 in
theorem implFT_any (wd : Int) (rows ls : List Int) (v u : Value) (w : World) (h : IntsAt w v rows) (hu : IntsAt w u ls) (wl : ∀ n ∈ ls, (Lit.int .i64 n).wf = true) :
    Calls Tryz.prog 62 #[.agg #[.int .i64 wd, v], u] w fun e w' => e = .returned (.string (bsOf (tilV wd rows ls))) ∧ ∃ x, w' = ext w x := by
  have h0 := h
  obtain ⟨a, b, o, cap, rfl, hc1, hc2, hc3, hcell⟩ := h.opn
  obtain ⟨au, bu, ou, cu, rfl, hd1, hd2, hd3, hdcell⟩ := hu.opn
  have h1 := h0.alloc (.cells #[.int .i64 wd, .slice a rows.length cap] 26)
  have DC := Lib.hid hdcell
  clear hcell hdcell h h0 hu
  cases hr : regB wd rows
  · have HF := Lib.hid (tilV_r (ls := ls) hr)
    go_enter Tryz.func62, Tryz.ntmps62
    go_wp2_with (first | (go_at_call 15; refine (isRegion_any _ _ _ _ h1).mono ?_; rintro e w' ⟨rfl, xe, rfl⟩))
    go_ret
    exact ⟨by rw [HF.out]; rfl, (by repeat first | apply wxr | with_reducible assumption | apply wxe | apply wxa | apply wxd)⟩
  by_cases hl : (26 : Int) < ls.length
  · have HF := Lib.hid (tilV_l (wd := wd) (rows := rows) hl)
    go_enter Tryz.func62, Tryz.ntmps62
    go_wp2_with (first | (go_at_call 15; refine (isRegion_any _ _ _ _ h1).mono ?_; rintro e w' ⟨rfl, xe, rfl⟩))
    go_ret
    exact ⟨by rw [HF.out]; rfl, (by repeat first | apply wxr | with_reducible assumption | apply wxe | apply wxa | apply wxd)⟩
  obtain ⟨W, rfl, hW1, hW2, hl1, hl2, hrow⟩ := regB_bd hr
  have HF := Lib.hid (tilV_yes hr (show (ls.length : Int) ≤ 26 by omega))
  have HR := Lib.hid hr
  haveI : Le6 W := ⟨hW2⟩
  clear hrow
  go_enter Tryz.func62, Tryz.ntmps62
  go_wp2_with (first | (go_at_call 15; refine (isRegion_any _ _ _ _ h1).mono ?_; rintro e w' ⟨rfl, xe, rfl⟩; have H0 := (Held.start (w.alloc (.cells #[.int .i64 W, .slice a rows.length cap] 26))).ext xe))
  go_loopw [5, 22] (fun u i wr => ∃ (r : Value) (k : Nat), r = u ∧ k ≤ rows.length ∧ i = .int .i64 k ∧ Held (w.alloc (.cells #[.int .i64 W, .slice a rows.length cap] 26)) wr [rowS r (tsTo W ls k)]) (fun _ i _ => rows.length - (intOf i).toNat)
  case atStart => exact ⟨_, 0, rfl, Nat.zero_le _, rfl, H0.nilS⟩
  case round =>
    clear H0
    obtain ⟨r, y, rfl, hy, rfl, H⟩ := hrel
    obtain ⟨kb0, kb1⟩ := H.box2
    by_cases hlt : y < rows.length
    · haveI : Le6 y := ⟨by omega⟩
      have H2 := Lib.hid H
      clear H
      go_wp2_with fail
      go_loopw [7, 27] (fun u i wr2 => ∃ q : Nat, q ≤ W ∧ u = .string (bsOf (tlTo W ls y q)) ∧ i = .int .i64 q ∧ Held (w.alloc (.cells #[.int .i64 W, .slice a rows.length cap] 26)) wr2 [rowS r (tsTo W ls y)]) (fun _ i _ => W - (intOf i).toNat)
      case atStart => exact ⟨0, Nat.zero_le _, rfl, rfl, H2.out⟩
      case round =>
        clear H2 kb0 kb1
        obtain ⟨q, hq, rfl, rfl, H⟩ := hrel
        haveI : LenOK (tlTo W ls y q) := ⟨by rw [tlTo_len]; omega⟩
        by_cases hlt2 : q < W
        · have h36 := spot_36 hW2 hl2 hlt2 hlt
          haveI : AddOK (mulN y W) q := ⟨by unfold addN at h36; omega⟩
          haveI : Le64 (addN (mulN y W) q) := ⟨by omega⟩
          have H2 := Lib.hid H
          clear H
          go_wp2_with fail
          go_loopw [9, 10] (fun u i wr3 => ∃ j : Nat, j ≤ ls.length ∧ u = .string (bsOf [lc (dnTo ls (addN (mulN y W) q) j)]) ∧ i = .int .i64 ((ls.length : Int) - 1 - j) ∧ Held (w.alloc (.cells #[.int .i64 W, .slice a rows.length cap] 26)) wr3 [rowS r (tsTo W ls y)]) (fun _ i _ => (intOf i + 1).toNat)
          case atStart => exact ⟨0, Nat.zero_le _, rfl, by rw [← down_zero], H2.out⟩
          case round =>
            clear H2
            obtain ⟨j, hj, rfl, rfl, H⟩ := hrel
            obtain ⟨kb0, kb1⟩ := H.box2
            by_cases hlt3 : j < ls.length
            · obtain ⟨i, hi⟩ : ∃ i : Nat, i = ls.length - 1 - j := ⟨_, rfl⟩
              have hii : ((ls.length : Int) - 1 - j) = i := by omega
              obtain ⟨q1, q2, q3⟩ := DC.out i (by omega)
              have HI := Lib.hid hi
              have k3 := H.unbox.cellO q1 q3
              have ob : Old wr bu := ⟨Nat.lt_of_lt_of_le q1.lt H.unbox.bel.size⟩
              have kbo := H.boxOld
              have hdn : ((i : Int) - 1) = (ls.length : Int) - 1 - ((j + 1 : Nat) : Int) := by omega
              have HD := Lib.hid hdn
              have hiv : i ≤ 26 := by omega
              rw [hii]
              clear hii hi q1 q3 hdn
              by_cases hn : 0 ≤ nth ls i
              case neg =>
                have HT := Lib.hid (dnTo_f (ls := ls) (b := addN (mulN y W) q) (j := j) (by rw [← HI.out]; exact tb_neg hn))
                have hn' : decide (0 ≤ nth ls i) = false := decide_eq_false hn
                go_wp2_with fail
                refine wp_region_ext_lit (by kernel_rfl) (by kernel_rfl) ?_
                repeat (go_big_quiet_step (fail))
                refine wpQuiet_nil ?_
                intro _ hwq
                obtain ⟨xq, hwq⟩ := hwq
                subst hwq
                go_wp2_with fail
                go_roundw
                case rel => exact ⟨j + 1, hlt3, by rw [HT.out], by rw [HD.out], H.to (by repeat first | apply wxr | with_reducible assumption | apply wxe | apply wxa | apply wxd)⟩
                case measure => first | (simp [intOf]; done) | (simp [intOf]; omega)
              obtain ⟨M, hM⟩ : ∃ M : Nat, nth ls i = M := ⟨(nth ls i).toNat, by omega⟩
              haveI : Lt63 M := ⟨by have := (wf_bd (wl _ (nth_mem (show i < ls.length by have := HI.out; omega)))).2; omega⟩
              have HTB := Lib.hid (tb_nat (b := addN (mulN y W) q) hM)
              rw [hM] at k3
              clear hn hM
              cases hb : M.testBit (addN (mulN y W) q)
              · have HT := Lib.hid (dnTo_f (ls := ls) (b := addN (mulN y W) q) (j := j) (by rw [← HI.out, HTB.out]; exact hb))
                have hbt := bit_test M (addN (mulN y W) q)
                rw [hb] at hbt
                clear hb
                go_wp2_with fail
                refine wp_region_ext_lit (by kernel_rfl) (by kernel_rfl) ?_
                repeat (go_big_quiet_step (fail))
                refine wpQuiet_nil ?_
                intro _ hwq
                obtain ⟨xq, hwq⟩ := hwq
                subst hwq
                go_wp2_with fail
                go_roundw
                case rel => exact ⟨j + 1, hlt3, by rw [HT.out], by rw [HD.out], H.to (by repeat first | apply wxr | with_reducible assumption | apply wxe | apply wxa | apply wxd)⟩
                case measure => first | (simp [intOf]; done) | (simp [intOf]; omega)
              · have HT := Lib.hid (dnTo_t (ls := ls) (b := addN (mulN y W) q) (j := j) (by rw [← HI.out, HTB.out]; exact hb))
                have hbt := bit_test M (addN (mulN y W) q)
                rw [hb] at hbt
                clear hb
                go_wp2_with fail
                have hcv := conv_one i hiv
                refine wp_region_ext_lit (by kernel_rfl) (by kernel_rfl) ?_
                repeat (go_big_quiet_step (fail))
                refine wpQuiet_nil ?_
                intro _ hwq
                obtain ⟨xq, hwq⟩ := hwq
                subst hwq
                go_wp2_with fail
                go_roundw
                case rel => exact ⟨j + 1, hlt3, by rw [HT.out, ← HI.out], by rw [HD.out], H.to (by repeat first | apply wxr | with_reducible assumption | apply wxe | apply wxa | apply wxd)⟩
                case measure => first | (simp [intOf]; done) | (simp [intOf]; omega)
            · have HJ := Lib.hid (show j = ls.length by omega)
              have hneg : decide (0 ≤ (ls.length : Int) - 1 - j) = false := decide_eq_false (by omega)
              haveI : LenOK [lc (dnTo ls (addN (mulN y W) q) j)] := ⟨by simp⟩
              go_wp2_with fail
              go_roundw
              case rel => exact ⟨q + 1, hlt2, by rw [tlTo_succ, HJ.out], int_succ q, H⟩
              case measure => simp [intOf]; omega
        · have HQ := Lib.hid (show q = W by omega)
          go_wp2_with (first | (at_builtin; refine wpList_append_held (m := 1) rfl _ _ _ rfl elemStr (H.to (by repeat first | apply wxr | with_reducible assumption | apply wxe | apply wxa | apply wxd)) rfl rfl (Sl_new1 _ _ _) (one_str _) (by rw [tsTo_len]; unfold maxLen; omega) (by rw [tsTo_len]; omega) ?_; intro v' w' H; have H := H.snocS))
          go_roundw
          case rel => exact ⟨v', y + 1, rfl, hlt, int_succ y, by rw [tsTo_succ]; rw [HQ.out] at H; exact H⟩
          case measure => simp [intOf]; omega
    · have hye : y = rows.length := by omega
      rw [hye] at H
      clear hye
      have hlen := tsTo_len W ls rows.length
      obtain ⟨g, c, rfl, hgc, hg, hcells⟩ := H.texts (by omega)
      obtain ⟨_, l2⟩ := ttHd_len (W := W) (ls := ls) (k := rows.length) hW2 hl2
      have HCL := Lib.hid hcells
      have HX := Lib.hid (ext_of H.unbox.bel)
      have HL := Lib.hid hlen
      clear hcells hlen
      go_wp2_with (first | (go_at_call 79; go_loud (refine (join_any g c (tsTo W ls rows.length) _ HCL.out hg (by rw [HL.out]; omega) hgc (by show (ftlTo W ls rows.length).length ≤ _; omega)).mono ?_; rintro e w' ⟨rfl, xe, rfl⟩)))
      go_ret
      obtain ⟨x0, rfl⟩ := HX.out
      exact ⟨by rw [HF.out]; rfl, (by repeat first | apply wxr | with_reducible assumption | apply wxe | apply wxa | apply wxd)⟩
end
end Go.Proofs.YtchcepihmphdmaaGreatDoor
