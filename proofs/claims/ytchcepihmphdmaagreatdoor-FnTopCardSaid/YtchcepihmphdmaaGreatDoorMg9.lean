/- Part 9 of a proof: refuts, refutt, echelon, redplain, signed, fwplain, fsplain, fsrows, echwalk, invwalk, redwalk. -/
import Derived.Test.YtchcepihmphdmaaGreatDoorRows
import Derived.WalkKit
import Derived.ProofKit
import Derived.OpenShut
import Derived.BigQuiet
import Derived.Lib.Hide
import Derived.Deep.QuietTactic
import Derived.Outline
import Derived.StillTailTactics
import Derived.Test.YtchcepihmphdmaaGreatDoorMg1
import Derived.Test.YtchcepihmphdmaaGreatDoorMg2
import Derived.Test.YtchcepihmphdmaaGreatDoorMg3
import Derived.Test.YtchcepihmphdmaaGreatDoorMg4
import Derived.Test.YtchcepihmphdmaaGreatDoorMg5
import Derived.Test.YtchcepihmphdmaaGreatDoorMg6
import Derived.Test.YtchcepihmphdmaaGreatDoorMg7
import Derived.Test.YtchcepihmphdmaaGreatDoorMg8
namespace Go.Proofs.YtchcepihmphdmaaGreatDoor
set_option linter.unusedVariables false
section
open Go.ChangeShapes Go.WideShapes Go.ChangeAt Go.RowKit
set_option maxRecDepth 100000 in
set_option maxHeartbeats 8000000 in
theorem specRf_any (wd : Int) (rows : List Int) (pss : List (List (Int × Int))) (v u : Value) (w : World) (h : IntsAt w v rows) (hc : PiecesAt w u pss) :
    Calls Tryz.prog 68 #[.agg #[.int .i64 wd, v], u] w fun e w' => e = .returned (treeV (rfV wd rows pss)) ∧ ∃ x, w' = ext w x := by
  obtain ⟨a, b, o, cap, rfl, hc1, hc2, hc3, hcell⟩ := h.opn
  have hbel := ((Below.refl w.heap.size w).alloc (Nat.le_refl _) (.cells #[.int .i64 wd, .slice a rows.length cap] 26))
  have h1 := h.mono hbel
  have hcu := hc.mono hbel
  obtain ⟨_, _, _, _, _, e1, _⟩ := hcu.opn
  subst e1
  clear hcell hc h hbel
  cases hr : regB wd rows
  · have HF := Lib.hid (rfV_no (show probB wd rows pss = false by simp [probB, hr]))
    have HR := Lib.hid hr
    clear hr
    go_enter Tryz.func68, Tryz.ntmps68
    go_wp2_with (first | (go_at_call 14; refine (specIsRegion_b2 _ _ _ HR.out _ _ (by with_reducible first|assumption|((first|refine wmI ‹_› ?_|refine wmC ‹_› ?_|refine wmP ‹_› ?_);repeat first|apply wxr|assumption|apply wxe|apply wxa|apply wxd))).mono ?_; rintro e w' ⟨rfl, xe, rfl⟩))
    go_ret2
    exact ⟨by rw [HF.out]; rfl, (by repeat first | apply wxr | with_reducible assumption | apply wxe | apply wxa | apply wxd)⟩
  cases hp : piecesB pss
  · have HF := Lib.hid (rfV_no (show probB wd rows pss = false by simp [probB, hp]))
    have HR := Lib.hid hr
    have HP := Lib.hid hp
    clear hr hp
    go_enter Tryz.func68, Tryz.ntmps68
    go_wp2_with (first | (go_at_call 14; refine (specIsRegion_b2 _ _ _ HR.out _ _ (by with_reducible first|assumption|((first|refine wmI ‹_› ?_|refine wmC ‹_› ?_|refine wmP ‹_› ?_);repeat first|apply wxr|assumption|apply wxe|apply wxa|apply wxd))).mono ?_; rintro e w' ⟨rfl, xe, rfl⟩) | (go_at_call 69; refine (specPieces_b _ _ HP.out _ _ (by with_reducible first|assumption|((first|refine wmI ‹_› ?_|refine wmC ‹_› ?_|refine wmP ‹_› ?_);repeat first|apply wxr|assumption|apply wxe|apply wxa|apply wxd))).mono ?_; rintro e w' ⟨rfl, xe, rfl⟩))
    go_ret2
    exact ⟨by rw [HF.out]; rfl, (by repeat first | apply wxr | with_reducible assumption | apply wxe | apply wxa | apply wxd)⟩
  have hb : probB wd rows pss = true := by simp [probB, hr, hp]
  have HF := Lib.hid (rfV_yes hb)
  have HV := Lib.hid (alV_yes hb)
  obtain ⟨W, rfl, hW1, hW2, hl1, hl2, hrow⟩ := regB_bd hr
  clear hrow
  have HR := Lib.hid hr
  have HP := Lib.hid hp
  have hM36 := maskR_36 hr
  have HM := Lib.hid (alN_masks W rows pss)
  have hcall := l9T_any (alN W rows pss) HM.out
  have hcall2 : ∀ (v : Value) (w : World), IntsAt w v (castL (alN W rows pss)) → Calls Tryz.prog 128 #[v, .int .i64 ((maskR W rows : Nat) : Int), .int .i64 2000] w fun e w' => e = .returned (treeV (cut (tx (alN W rows pss) (maskR W rows)))) ∧ ∃ x, w' = ext w x := fun v w h => by
    have := hcall v (maskR W rows) (maskR W rows) 2000 _ (Nat.le_refl _) hM36 (by omega) (by omega) rfl w h
    rwa [spec_cut] at this
  cases hct : cut (tx (alN W rows pss) (maskR W rows)) with
  | none =>
    rw [hct] at hcall2
    simp only [treeV] at hcall2
    have HCALL := Lib.hid hcall2
    have HC := Lib.hid hct
    clear hr hp hb hcall hcall2 hct
    go_enter Tryz.func68, Tryz.ntmps68
    go_wp2_with (first | (go_at_call 14; refine (specIsRegion_b2 _ _ _ HR.out _ _ (by with_reducible first|assumption|((first|refine wmI ‹_› ?_|refine wmC ‹_› ?_|refine wmP ‹_› ?_);repeat first|apply wxr|assumption|apply wxe|apply wxa|apply wxd))).mono ?_; rintro e w' ⟨rfl, xe, rfl⟩) | (go_at_call 69; refine (specPieces_b _ _ HP.out _ _ (by with_reducible first|assumption|((first|refine wmI ‹_› ?_|refine wmC ‹_› ?_|refine wmP ‹_› ?_);repeat first|apply wxr|assumption|apply wxe|apply wxa|apply wxd))).mono ?_; rintro e w' ⟨rfl, xe, rfl⟩))
    refine wp_region_heldE (by kernel_rfl) ?_
    refine' takeE (i := 0) (v := _) rfl (by kernel_rfl) (by kernel_rfl) (by kernel_rfl) (fun _ _ _ h => h) (by kernel_rfl) (fun x => ?_) (by repeat first | apply wxr | with_reducible assumption | apply wxe | apply wxa | apply wxd) ?_
    rotate_left
    · (go_simp; try rfl)
    try simp only [List.getElem_toArray]
    try simp only [List.getElem_cons_succ]
    try simp only [List.getElem_cons_zero]
    try simp only [Act.put]
    try simp only [List.setIfInBounds_toArray]
    try simp only [List.set_cons_succ]
    try simp only [List.set_cons_zero]
    refine' takeE (i := 1) (v := _) rfl (by kernel_rfl) (by kernel_rfl) (by kernel_rfl) (fun _ _ _ h => h) (by kernel_rfl) (fun x => ?_) (by repeat first | apply wxr | with_reducible assumption | apply wxe | apply wxa | apply wxd) ?_
    rotate_left
    · (go_simp; try rfl)
    try simp only [List.getElem_toArray]
    try simp only [List.getElem_cons_succ]
    try simp only [List.getElem_cons_zero]
    try simp only [Act.put]
    try simp only [List.setIfInBounds_toArray]
    try simp only [List.set_cons_succ]
    try simp only [List.set_cons_zero]
    refine' takeE (i := 3) (v := _) rfl (by kernel_rfl) (by kernel_rfl) (by kernel_rfl) (fun _ _ _ h => h) (by kernel_rfl) (fun x => ?_) (by repeat first | apply wxr | with_reducible assumption | apply wxe | apply wxa | apply wxd) ?_
    rotate_left
    · (go_simp; try rfl)
    try simp only [List.getElem_toArray]
    try simp only [List.getElem_cons_succ]
    try simp only [List.getElem_cons_zero]
    try simp only [Act.put]
    try simp only [List.setIfInBounds_toArray]
    try simp only [List.set_cons_succ]
    try simp only [List.set_cons_zero]
    refine nextE (i := 2) rfl (by kernel_rfl) (by kernel_rfl) (fun K' hK' => ?_)
    go_wp2_with ((first | (go_at_call 108; refine (specAll_any _ _ _ _ _ _ (by with_reducible first|assumption|((first|refine wmI ‹_› ?_|refine wmC ‹_› ?_|refine wmP ‹_› ?_);repeat first|apply wxr|assumption|apply wxe|apply wxa|apply wxd)) (by with_reducible first|assumption|((first|refine wmI ‹_› ?_|refine wmC ‹_› ?_|refine wmP ‹_› ?_);repeat first|apply wxr|assumption|apply wxe|apply wxa|apply wxd))).mono ?_; rintro e w' ⟨u, rfl, K⟩; obtain ⟨xk, rfl⟩ := ext_of K.bel; rw [HV.out] at K; obtain ⟨ua, uc, rfl⟩ := K.rowVN; have HA := K.ints0; clear K) | (go_at_call 109; refine (specMaskQ_any W rows HR.out _ _ (by with_reducible first|assumption|((first|refine wmI ‹_› ?_|refine wmC ‹_› ?_|refine wmP ‹_› ?_);repeat first|apply wxr|assumption|apply wxe|apply wxa|apply wxd))).mono ?_; rintro e w' ⟨rfl, xe, rfl⟩) | (go_at_call 128; refine (HCALL.out _ _ (by with_reducible first|assumption|((first|refine wmI ‹_› ?_|refine wmC ‹_› ?_|refine wmP ‹_› ?_);repeat first|apply wxr|assumption|apply wxe|apply wxa|apply wxd))).mono ?_; rintro e w' ⟨rfl, xe, rfl⟩)))
    refine hK'.out _ _ (by repeat first | apply wxr | with_reducible assumption | apply wxe | apply wxa | apply wxd) ?_
    clear hK' K'
    refine nextE (i := 4) rfl (by kernel_rfl) (by kernel_rfl) (fun K' hK' => ?_)
    go_wp2_with ((first | (go_at_call 108; refine (specAll_any _ _ _ _ _ _ (by with_reducible first|assumption|((first|refine wmI ‹_› ?_|refine wmC ‹_› ?_|refine wmP ‹_› ?_);repeat first|apply wxr|assumption|apply wxe|apply wxa|apply wxd)) (by with_reducible first|assumption|((first|refine wmI ‹_› ?_|refine wmC ‹_› ?_|refine wmP ‹_› ?_);repeat first|apply wxr|assumption|apply wxe|apply wxa|apply wxd))).mono ?_; rintro e w' ⟨u, rfl, K⟩; obtain ⟨xk, rfl⟩ := ext_of K.bel; rw [HV.out] at K; obtain ⟨ua, uc, rfl⟩ := K.rowVN; have HA := K.ints0; clear K) | (go_at_call 109; refine (specMaskQ_any W rows HR.out _ _ (by with_reducible first|assumption|((first|refine wmI ‹_› ?_|refine wmC ‹_› ?_|refine wmP ‹_› ?_);repeat first|apply wxr|assumption|apply wxe|apply wxa|apply wxd))).mono ?_; rintro e w' ⟨rfl, xe, rfl⟩) | (go_at_call 128; refine (HCALL.out _ _ (by with_reducible first|assumption|((first|refine wmI ‹_› ?_|refine wmC ‹_› ?_|refine wmP ‹_› ?_);repeat first|apply wxr|assumption|apply wxe|apply wxa|apply wxd))).mono ?_; rintro e w' ⟨rfl, xe, rfl⟩)))
    refine hK'.out _ _ (by repeat first | apply wxr | with_reducible assumption | apply wxe | apply wxa | apply wxd) ?_
    clear hK' K'
    refine nextE (i := 5) rfl (by kernel_rfl) (by kernel_rfl) (fun K' hK' => ?_)
    go_wp2_with ((first | (go_at_call 108; refine (specAll_any _ _ _ _ _ _ (by with_reducible first|assumption|((first|refine wmI ‹_› ?_|refine wmC ‹_› ?_|refine wmP ‹_› ?_);repeat first|apply wxr|assumption|apply wxe|apply wxa|apply wxd)) (by with_reducible first|assumption|((first|refine wmI ‹_› ?_|refine wmC ‹_› ?_|refine wmP ‹_› ?_);repeat first|apply wxr|assumption|apply wxe|apply wxa|apply wxd))).mono ?_; rintro e w' ⟨u, rfl, K⟩; obtain ⟨xk, rfl⟩ := ext_of K.bel; rw [HV.out] at K; obtain ⟨ua, uc, rfl⟩ := K.rowVN; have HA := K.ints0; clear K) | (go_at_call 109; refine (specMaskQ_any W rows HR.out _ _ (by with_reducible first|assumption|((first|refine wmI ‹_› ?_|refine wmC ‹_› ?_|refine wmP ‹_› ?_);repeat first|apply wxr|assumption|apply wxe|apply wxa|apply wxd))).mono ?_; rintro e w' ⟨rfl, xe, rfl⟩) | (go_at_call 128; refine (HCALL.out _ _ (by with_reducible first|assumption|((first|refine wmI ‹_› ?_|refine wmC ‹_› ?_|refine wmP ‹_› ?_);repeat first|apply wxr|assumption|apply wxe|apply wxa|apply wxd))).mono ?_; rintro e w' ⟨rfl, xe, rfl⟩)))
    refine hK'.out _ _ (by repeat first | apply wxr | with_reducible assumption | apply wxe | apply wxa | apply wxd) ?_
    clear hK' K'
    refine' takeE (i := 6) (v := _) rfl (by kernel_rfl) (by kernel_rfl) (by kernel_rfl) (fun _ _ _ h => h) (by kernel_rfl) (fun x => ?_) (by repeat first | apply wxr | with_reducible assumption | apply wxe | apply wxa | apply wxd) ?_
    rotate_left
    · (go_simp; try rfl)
    try simp only [List.getElem_toArray]
    try simp only [List.getElem_cons_succ]
    try simp only [List.getElem_cons_zero]
    try simp only [Act.put]
    try simp only [List.setIfInBounds_toArray]
    try simp only [List.set_cons_succ]
    try simp only [List.set_cons_zero]
    refine' takeE (i := 7) (v := _) rfl (by kernel_rfl) (by kernel_rfl) (by kernel_rfl) (fun _ _ _ h => h) (by kernel_rfl) (fun x => ?_) (by repeat first | apply wxr | with_reducible assumption | apply wxe | apply wxa | apply wxd) ?_
    rotate_left
    · (go_simp; try rfl)
    try simp only [List.getElem_toArray]
    try simp only [List.getElem_cons_succ]
    try simp only [List.getElem_cons_zero]
    try simp only [Act.put]
    try simp only [List.setIfInBounds_toArray]
    try simp only [List.set_cons_succ]
    try simp only [List.set_cons_zero]
    refine' takeE (i := 8) (v := _) rfl (by kernel_rfl) (by kernel_rfl) (by kernel_rfl) (fun _ _ _ h => h) (by kernel_rfl) (fun x => ?_) (by repeat first | apply wxr | with_reducible assumption | apply wxe | apply wxa | apply wxd) ?_
    rotate_left
    · (go_simp; try rfl)
    try simp only [List.getElem_toArray]
    try simp only [List.getElem_cons_succ]
    try simp only [List.getElem_cons_zero]
    try simp only [Act.put]
    try simp only [List.setIfInBounds_toArray]
    try simp only [List.set_cons_succ]
    try simp only [List.set_cons_zero]
    refine' takeE (i := 9) (v := _) rfl (by kernel_rfl) (by kernel_rfl) (by kernel_rfl) (fun _ _ _ h => h) (by kernel_rfl) (fun x => ?_) (by repeat first | apply wxr | with_reducible assumption | apply wxe | apply wxa | apply wxd) ?_
    rotate_left
    · (go_simp; try rfl)
    try simp only [List.getElem_toArray]
    try simp only [List.getElem_cons_succ]
    try simp only [List.getElem_cons_zero]
    try simp only [Act.put]
    try simp only [List.setIfInBounds_toArray]
    try simp only [List.set_cons_succ]
    try simp only [List.set_cons_zero]
    refine' takeE (i := 10) (v := _) rfl (by kernel_rfl) (by kernel_rfl) (by kernel_rfl) (fun _ _ _ h => h) (by kernel_rfl) (fun x => ?_) (by repeat first | apply wxr | with_reducible assumption | apply wxe | apply wxa | apply wxd) ?_
    rotate_left
    · (go_simp; try rfl)
    try simp only [List.getElem_toArray]
    try simp only [List.getElem_cons_succ]
    try simp only [List.getElem_cons_zero]
    try simp only [Act.put]
    try simp only [List.setIfInBounds_toArray]
    try simp only [List.set_cons_succ]
    try simp only [List.set_cons_zero]
    refine wpAnyH_done (by kernel_rfl) ?_ _
    go_wp2_with fail
    go_ret2
    exact ⟨by rw [HF.out, HC.out]; rfl, (by repeat first | apply wxr | with_reducible assumption | apply wxe | apply wxa | apply wxd)⟩
  | some t =>
    rw [hct] at hcall2
    simp only [treeV] at hcall2
    have HCALL := Lib.hid hcall2
    have HC := Lib.hid hct
    clear hr hp hb hcall hcall2 hct
    go_enter Tryz.func68, Tryz.ntmps68
    go_wp2_with (first | (go_at_call 14; refine (specIsRegion_b2 _ _ _ HR.out _ _ (by with_reducible first|assumption|((first|refine wmI ‹_› ?_|refine wmC ‹_› ?_|refine wmP ‹_› ?_);repeat first|apply wxr|assumption|apply wxe|apply wxa|apply wxd))).mono ?_; rintro e w' ⟨rfl, xe, rfl⟩) | (go_at_call 69; refine (specPieces_b _ _ HP.out _ _ (by with_reducible first|assumption|((first|refine wmI ‹_› ?_|refine wmC ‹_› ?_|refine wmP ‹_› ?_);repeat first|apply wxr|assumption|apply wxe|apply wxa|apply wxd))).mono ?_; rintro e w' ⟨rfl, xe, rfl⟩))
    refine wp_region_heldE (by kernel_rfl) ?_
    refine' takeE (i := 0) (v := _) rfl (by kernel_rfl) (by kernel_rfl) (by kernel_rfl) (fun _ _ _ h => h) (by kernel_rfl) (fun x => ?_) (by repeat first | apply wxr | with_reducible assumption | apply wxe | apply wxa | apply wxd) ?_
    rotate_left
    · (go_simp; try rfl)
    try simp only [List.getElem_toArray]
    try simp only [List.getElem_cons_succ]
    try simp only [List.getElem_cons_zero]
    try simp only [Act.put]
    try simp only [List.setIfInBounds_toArray]
    try simp only [List.set_cons_succ]
    try simp only [List.set_cons_zero]
    refine' takeE (i := 1) (v := _) rfl (by kernel_rfl) (by kernel_rfl) (by kernel_rfl) (fun _ _ _ h => h) (by kernel_rfl) (fun x => ?_) (by repeat first | apply wxr | with_reducible assumption | apply wxe | apply wxa | apply wxd) ?_
    rotate_left
    · (go_simp; try rfl)
    try simp only [List.getElem_toArray]
    try simp only [List.getElem_cons_succ]
    try simp only [List.getElem_cons_zero]
    try simp only [Act.put]
    try simp only [List.setIfInBounds_toArray]
    try simp only [List.set_cons_succ]
    try simp only [List.set_cons_zero]
    refine' takeE (i := 3) (v := _) rfl (by kernel_rfl) (by kernel_rfl) (by kernel_rfl) (fun _ _ _ h => h) (by kernel_rfl) (fun x => ?_) (by repeat first | apply wxr | with_reducible assumption | apply wxe | apply wxa | apply wxd) ?_
    rotate_left
    · (go_simp; try rfl)
    try simp only [List.getElem_toArray]
    try simp only [List.getElem_cons_succ]
    try simp only [List.getElem_cons_zero]
    try simp only [Act.put]
    try simp only [List.setIfInBounds_toArray]
    try simp only [List.set_cons_succ]
    try simp only [List.set_cons_zero]
    refine nextE (i := 2) rfl (by kernel_rfl) (by kernel_rfl) (fun K' hK' => ?_)
    go_wp2_with ((first | (go_at_call 108; refine (specAll_any _ _ _ _ _ _ (by with_reducible first|assumption|((first|refine wmI ‹_› ?_|refine wmC ‹_› ?_|refine wmP ‹_› ?_);repeat first|apply wxr|assumption|apply wxe|apply wxa|apply wxd)) (by with_reducible first|assumption|((first|refine wmI ‹_› ?_|refine wmC ‹_› ?_|refine wmP ‹_› ?_);repeat first|apply wxr|assumption|apply wxe|apply wxa|apply wxd))).mono ?_; rintro e w' ⟨u, rfl, K⟩; obtain ⟨xk, rfl⟩ := ext_of K.bel; rw [HV.out] at K; obtain ⟨ua, uc, rfl⟩ := K.rowVN; have HA := K.ints0; clear K) | (go_at_call 109; refine (specMaskQ_any W rows HR.out _ _ (by with_reducible first|assumption|((first|refine wmI ‹_› ?_|refine wmC ‹_› ?_|refine wmP ‹_› ?_);repeat first|apply wxr|assumption|apply wxe|apply wxa|apply wxd))).mono ?_; rintro e w' ⟨rfl, xe, rfl⟩) | (go_at_call 128; refine (HCALL.out _ _ (by with_reducible first|assumption|((first|refine wmI ‹_› ?_|refine wmC ‹_› ?_|refine wmP ‹_› ?_);repeat first|apply wxr|assumption|apply wxe|apply wxa|apply wxd))).mono ?_; rintro e w' ⟨rfl, xe, rfl⟩)))
    refine hK'.out _ _ (by repeat first | apply wxr | with_reducible assumption | apply wxe | apply wxa | apply wxd) ?_
    clear hK' K'
    refine nextE (i := 4) rfl (by kernel_rfl) (by kernel_rfl) (fun K' hK' => ?_)
    go_wp2_with ((first | (go_at_call 108; refine (specAll_any _ _ _ _ _ _ (by with_reducible first|assumption|((first|refine wmI ‹_› ?_|refine wmC ‹_› ?_|refine wmP ‹_› ?_);repeat first|apply wxr|assumption|apply wxe|apply wxa|apply wxd)) (by with_reducible first|assumption|((first|refine wmI ‹_› ?_|refine wmC ‹_› ?_|refine wmP ‹_› ?_);repeat first|apply wxr|assumption|apply wxe|apply wxa|apply wxd))).mono ?_; rintro e w' ⟨u, rfl, K⟩; obtain ⟨xk, rfl⟩ := ext_of K.bel; rw [HV.out] at K; obtain ⟨ua, uc, rfl⟩ := K.rowVN; have HA := K.ints0; clear K) | (go_at_call 109; refine (specMaskQ_any W rows HR.out _ _ (by with_reducible first|assumption|((first|refine wmI ‹_› ?_|refine wmC ‹_› ?_|refine wmP ‹_› ?_);repeat first|apply wxr|assumption|apply wxe|apply wxa|apply wxd))).mono ?_; rintro e w' ⟨rfl, xe, rfl⟩) | (go_at_call 128; refine (HCALL.out _ _ (by with_reducible first|assumption|((first|refine wmI ‹_› ?_|refine wmC ‹_› ?_|refine wmP ‹_› ?_);repeat first|apply wxr|assumption|apply wxe|apply wxa|apply wxd))).mono ?_; rintro e w' ⟨rfl, xe, rfl⟩)))
    refine hK'.out _ _ (by repeat first | apply wxr | with_reducible assumption | apply wxe | apply wxa | apply wxd) ?_
    clear hK' K'
    refine nextE (i := 5) rfl (by kernel_rfl) (by kernel_rfl) (fun K' hK' => ?_)
    go_wp2_with ((first | (go_at_call 108; refine (specAll_any _ _ _ _ _ _ (by with_reducible first|assumption|((first|refine wmI ‹_› ?_|refine wmC ‹_› ?_|refine wmP ‹_› ?_);repeat first|apply wxr|assumption|apply wxe|apply wxa|apply wxd)) (by with_reducible first|assumption|((first|refine wmI ‹_› ?_|refine wmC ‹_› ?_|refine wmP ‹_› ?_);repeat first|apply wxr|assumption|apply wxe|apply wxa|apply wxd))).mono ?_; rintro e w' ⟨u, rfl, K⟩; obtain ⟨xk, rfl⟩ := ext_of K.bel; rw [HV.out] at K; obtain ⟨ua, uc, rfl⟩ := K.rowVN; have HA := K.ints0; clear K) | (go_at_call 109; refine (specMaskQ_any W rows HR.out _ _ (by with_reducible first|assumption|((first|refine wmI ‹_› ?_|refine wmC ‹_› ?_|refine wmP ‹_› ?_);repeat first|apply wxr|assumption|apply wxe|apply wxa|apply wxd))).mono ?_; rintro e w' ⟨rfl, xe, rfl⟩) | (go_at_call 128; refine (HCALL.out _ _ (by with_reducible first|assumption|((first|refine wmI ‹_› ?_|refine wmC ‹_› ?_|refine wmP ‹_› ?_);repeat first|apply wxr|assumption|apply wxe|apply wxa|apply wxd))).mono ?_; rintro e w' ⟨rfl, xe, rfl⟩)))
    refine hK'.out _ _ (by repeat first | apply wxr | with_reducible assumption | apply wxe | apply wxa | apply wxd) ?_
    clear hK' K'
    refine' takeE (i := 6) (v := _) rfl (by kernel_rfl) (by kernel_rfl) (by kernel_rfl) (fun _ _ _ h => h) (by kernel_rfl) (fun x => ?_) (by repeat first | apply wxr | with_reducible assumption | apply wxe | apply wxa | apply wxd) ?_
    rotate_left
    · (go_simp; try rfl)
    try simp only [List.getElem_toArray]
    try simp only [List.getElem_cons_succ]
    try simp only [List.getElem_cons_zero]
    try simp only [Act.put]
    try simp only [List.setIfInBounds_toArray]
    try simp only [List.set_cons_succ]
    try simp only [List.set_cons_zero]
    refine' takeE (i := 7) (v := _) rfl (by kernel_rfl) (by kernel_rfl) (by kernel_rfl) (fun _ _ _ h => h) (by kernel_rfl) (fun x => ?_) (by repeat first | apply wxr | with_reducible assumption | apply wxe | apply wxa | apply wxd) ?_
    rotate_left
    · (go_simp; try rfl)
    try simp only [List.getElem_toArray]
    try simp only [List.getElem_cons_succ]
    try simp only [List.getElem_cons_zero]
    try simp only [Act.put]
    try simp only [List.setIfInBounds_toArray]
    try simp only [List.set_cons_succ]
    try simp only [List.set_cons_zero]
    refine' takeE (i := 8) (v := _) rfl (by kernel_rfl) (by kernel_rfl) (by kernel_rfl) (fun _ _ _ h => h) (by kernel_rfl) (fun x => ?_) (by repeat first | apply wxr | with_reducible assumption | apply wxe | apply wxa | apply wxd) ?_
    rotate_left
    · (go_simp; try rfl)
    try simp only [List.getElem_toArray]
    try simp only [List.getElem_cons_succ]
    try simp only [List.getElem_cons_zero]
    try simp only [Act.put]
    try simp only [List.setIfInBounds_toArray]
    try simp only [List.set_cons_succ]
    try simp only [List.set_cons_zero]
    refine' takeE (i := 9) (v := _) rfl (by kernel_rfl) (by kernel_rfl) (by kernel_rfl) (fun _ _ _ h => h) (by kernel_rfl) (fun x => ?_) (by repeat first | apply wxr | with_reducible assumption | apply wxe | apply wxa | apply wxd) ?_
    rotate_left
    · (go_simp; try rfl)
    try simp only [List.getElem_toArray]
    try simp only [List.getElem_cons_succ]
    try simp only [List.getElem_cons_zero]
    try simp only [Act.put]
    try simp only [List.setIfInBounds_toArray]
    try simp only [List.set_cons_succ]
    try simp only [List.set_cons_zero]
    refine' takeE (i := 10) (v := _) rfl (by kernel_rfl) (by kernel_rfl) (by kernel_rfl) (fun _ _ _ h => h) (by kernel_rfl) (fun x => ?_) (by repeat first | apply wxr | with_reducible assumption | apply wxe | apply wxa | apply wxd) ?_
    rotate_left
    · (go_simp; try rfl)
    try simp only [List.getElem_toArray]
    try simp only [List.getElem_cons_succ]
    try simp only [List.getElem_cons_zero]
    try simp only [Act.put]
    try simp only [List.setIfInBounds_toArray]
    try simp only [List.set_cons_succ]
    try simp only [List.set_cons_zero]
    refine wpAnyH_done (by kernel_rfl) ?_ _
    go_wp2_with fail
    go_ret2
    exact ⟨by rw [HF.out, HC.out]; rfl, (by repeat first | apply wxr | with_reducible assumption | apply wxe | apply wxa | apply wxd)⟩
end
section
open Go.ChangeShapes Go.WideShapes Go.ChangeAt Go.RowKit
theorem bs_self (s : ByteArray) : bsOf s.data.toList = s := by
  cases s with
  | mk d => simp only [bsOf, Array.toArray_toList]
@[go_sem ↓ 20000] theorem w_neq_selfT (x : ByteArray) : Op.stringOp .neq x x = pure (.bool false) := by
  unfold Op.stringOp
  simp
theorem ir_s (wd : Int) (rows : List Int) (pss : List (List (Int × Int))) (s : ByteArray) (v u : Value) (w : World) (h : IntsAt w v rows) (hc : PiecesAt w u pss) (hT : TabW w) :
    Calls Tryz.prog 42 #[.agg #[.int .i64 wd, v], u, .string s] w fun e w' => e = .returned (.bool (irV wd rows pss s.data.toList)) ∧ ∃ x, w' = ext w x := by
  have := ir_any wd rows pss s.data.toList v u w h hc hT
  rwa [bs_self] at this
end
section
open Go.ChangeShapes Go.WideShapes Go.ChangeAt Go.RowKit
class Pos1 (b : Nat) : Prop where
  pos : 0 < b
@[go_sem ↓ 20000] theorem w_remI (x : Int) (b : Nat) [h : Pos1 b] : Op.intDiv .rem .i64 x (b : Int) = pure (.int .i64 (x.tmod b)) := by
  have := h.pos
  unfold Op.intDiv
  rw [if_neg (by omega)]
theorem mul_small {a b : Int} (h1 : 0 ≤ a) (h2 : a ≤ 5) (h3 : 0 ≤ b) (h4 : b ≤ 5) : 0 ≤ a * b ∧ a * b ≤ 25 := by
  refine ⟨Int.mul_nonneg h1 h3, ?_⟩
  have := Int.mul_le_mul h2 h4 h3 (by omega)
  omega
theorem MO_congr {g cap m n : Nat} {φ : Nat → Value} {ρ κ : Nat → Nat} {M M' : Mat} {L : List Row} (h : ∀ i, i < m → ∀ j, j < n → M i j = M' i j) : MO g cap m φ ρ κ n M L = MO g cap m φ ρ κ n M' L := by
  unfold MO
  congr 2
  refine ftab_congr fun i hi => ?_
  rw [rowM, rowM, tab_congr (h i hi)]
theorem MO_last {g cap m n : Nat} {φ : Nat → Value} {ρ κ : Nat → Nat} {M : Mat} {L : List Row} {r : Row} : (MO g cap m φ ρ κ n M (r :: L)).Perm (r :: MO g cap m φ ρ κ n M L) := by
  unfold MO
  exact (List.Perm.cons _ List.perm_middle).trans (List.Perm.swap _ _ _)
theorem primeP_of {P : Nat} (h : primeB P = true) : primeP (P : Int) := by
  simp only [primeB, Bool.or_eq_true, beq_iff_eq] at h
  unfold primeP
  omega
theorem gs_full {p : Int} {m : Nat} {M : Mat} {c : Nat} (h : ¬ (gsTo p m M c).2.length < m) : ∀ d, gsTo p m M (c + d) = gsTo p m M c
  | 0 => rfl
  | d + 1 => by rw [← Nat.add_assoc, gsTo_succ, gs_full h d, colS, if_neg h]
theorem gs_stop {p : Int} {m : Nat} {M : Mat} {c n : Nat} (h : ¬ (gsTo p m M c).2.length < m) (hc : c ≤ n) : gsTo p m M n = gsTo p m M c := by
  have := gs_full h (n - c)
  rwa [show c + (n - c) = n by omega] at this
theorem gs_none {p : Int} {m : Nat} {M : Mat} {c : Nat} (h : ∀ q, (gsTo p m M c).2.length ≤ q → q < m → (gsTo p m M c).1 q c = 0) : gsTo p m M (c + 1) = gsTo p m M c := by
  rw [gsTo_succ, colS]
  by_cases h1 : (gsTo p m M c).2.length < m
  · rw [if_pos h1, if_neg]
    rw [nzF_none fun q hq1 hq2 => h q hq1 (by omega)]
    omega
  · rw [if_neg h1]
theorem gs_some {p : Int} {m : Nat} {M A : Mat} {c k : Nat} {piv : List Nat} (hg : gsTo p m M c = (A, piv)) (h1 : piv.length ≤ k) (h2 : k < m) (h3 : ∀ q, piv.length ≤ q → q < k → A q c = 0) (h4 : A k c ≠ 0) :
    gsTo p m M (c + 1) = (elimR p (scaleR p (swapR A piv.length k) piv.length (invP p (A k c))) piv.length c, piv ++ [c]) := by
  have hz : nzF A c (m - piv.length) piv.length = k := nzF_unique h1 (by omega) h3 h4
  rw [gsTo_succ, hg, colS]
  simp only [hz]
  rw [if_pos (by omega), if_pos h2]
  have : swapR A piv.length k piv.length = A k := by simp [swapR]
  rw [this]
def scTo (p : Int) (M : Mat) (t : Nat) (v : Int) (j : Nat) : Mat := fun i j' => if i = t ∧ j' < j then M i j' * v % p else M i j'
theorem scTo_zero (p : Int) (M : Mat) (t : Nat) (v : Int) : scTo p M t v 0 = M := by funext i j'; simp [scTo]
theorem scTo_at (p : Int) (M : Mat) (t : Nat) (v : Int) (j : Nat) : scTo p M t v j t j = M t j := by simp [scTo]
theorem scTo_step (p : Int) (M : Mat) (t : Nat) (v : Int) (j : Nat) : updM (scTo p M t v j) t j (M t j * v % p) = scTo p M t v (j + 1) := by
  funext i j'
  by_cases h1 : i = t
  · subst h1
    by_cases h2 : j' = j
    · subst h2; simp [updM, upd, scTo]
    · have : (j' < j + 1) = (j' < j) := propext ⟨fun _ => by omega, fun _ => by omega⟩
      simp [updM, upd, scTo, h2, this]
  · simp [updM, scTo, h1]
theorem scTo_all {p : Int} {M : Mat} {t : Nat} {v : Int} {n i j : Nat} (hj : j < n) : scTo p M t v n i j = scaleR p M t v i j := by simp [scTo, scaleR, hj]
def elIn (p : Int) (M : Mat) (t c i j : Nat) : Mat := fun i' j' => if i' < i ∨ (i' = i ∧ j' < j) then elimR p M t c i' j' else M i' j'
theorem elIn_zero (p : Int) (M : Mat) (t c : Nat) : elIn p M t c 0 0 = M := by funext i j'; simp [elIn]
theorem elIn_at {p : Int} {M : Mat} {t c i j : Nat} : elIn p M t c i j i j = M i j := by simp [elIn]
theorem elIn_t {p : Int} {M : Mat} {t c i j q : Nat} : elIn p M t c i j t q = M t q := by
  unfold elIn
  split
  · simp [elimR]
  · rfl
theorem elIn_lo {p : Int} {M : Mat} {t c i q : Nat} : elIn p M t c i 0 i q = M i q := by simp [elIn]
theorem elIn_step {p : Int} {M : Mat} {t c i j : Nat} (hi : i ≠ t) : updM (elIn p M t c i j) i j ((M i j + (p - M i c) * M t j) % p) = elIn p M t c i (j + 1) := by
  funext i' j'
  by_cases h1 : i' = i
  · subst h1
    by_cases h2 : j' = j
    · subst h2; simp [updM, upd, elIn, elimR, hi]
    · have : (j' < j + 1) = (j' < j) := propext ⟨fun _ => by omega, fun _ => by omega⟩
      simp [updM, upd, elIn, h2, this]
  · simp [updM, elIn, h1]
theorem elIn_next {p : Int} {M : Mat} {t c i n : Nat} {i' j' : Nat} (hj : j' < n) : elIn p M t c i n i' j' = elIn p M t c (i + 1) 0 i' j' := by
  unfold elIn
  have : (i' < i ∨ i' = i ∧ j' < n) = (i' < i + 1 ∨ i' = i + 1 ∧ j' < 0) := propext ⟨fun h => by rcases h with h | h <;> omega, fun h => by rcases h with h | h <;> omega⟩
  simp only [this]
/-- a row that stays: the leading row, or one with 0 in the column -/
theorem elIn_skip {p : Int} {m n : Nat} {M : Mat} (hR : Resid p m n M) {t c i : Nat} (hp : 0 < p) (hi : i < m) (h : i = t ∨ M i c = 0) {i' j' : Nat} (hj : j' < n) : elIn p M t c i 0 i' j' = elIn p M t c (i + 1) 0 i' j' := by
  unfold elIn
  by_cases e : i' = i
  · subst e
    rw [if_neg (by omega), if_pos (by omega)]
    unfold elimR
    split
    · rfl
    · rename_i hne
      have h0 : M i' c = 0 := by rcases h with h | h; exact absurd h hne; exact h
      have hb := hR i' hi j' hj
      rw [h0, Int.sub_zero, Int.add_mul_emod_self_left, Int.emod_eq_of_lt hb.1 hb.2]
  · have : (i' < i ∨ i' = i ∧ j' < 0) = (i' < i + 1 ∨ i' = i + 1 ∧ j' < 0) := propext ⟨fun h => by rcases h with h | h <;> omega, fun h => by rcases h with h | h <;> omega⟩
    simp only [this]
theorem elIn_all {p : Int} {M : Mat} {t c m : Nat} {i j : Nat} (hi : i < m) : elIn p M t c m 0 i j = elimR p M t c i j := by
  unfold elIn
  rw [if_pos (.inl hi)]
theorem swap_res {p : Int} {m n : Nat} {M : Mat} {t k : Nat} (h : Resid p m n M) (ht : t < m) (hk : k < m) : Resid p m n (swapR M t k) := fun i hi j hj => by
  unfold swapR
  split
  · exact h k hk j hj
  · split
    · exact h t ht j hj
    · exact h i hi j hj
theorem scale_res {p : Int} {m n : Nat} {M : Mat} {t : Nat} {v : Int} (hp : 0 < p) (h : Resid p m n M) : Resid p m n (scaleR p M t v) := fun i hi j hj => by
  unfold scaleR
  split
  · exact ⟨Int.emod_nonneg _ (by omega), Int.emod_lt_of_pos _ hp⟩
  · exact h i hi j hj
end
section
open Go.ChangeShapes Go.WideShapes Go.ChangeAt Go.RowKit
theorem red_val {p a f b : Int} (hp : 0 < p) (ha : 0 ≤ a) (ha2 : a < p) (hf : 0 ≤ f) (hf2 : f < p) (hb : 0 ≤ b) (hb2 : b < p) : ((a - f * b).tmod p + p).tmod p = (a + (p - f) * b) % p := by
  generalize hu : a - f * b = u
  have h1 : -p < u.tmod p := by
    rcases Int.le_total 0 u with h | h
    · have := Int.tmod_nonneg p h; omega
    · have := Int.lt_tmod_of_pos u hp; omega
  rw [Int.tmod_eq_emod_of_nonneg (by omega), Int.add_emod_right]
  have h2 : u = u.tmod p + p * u.tdiv p := by have := Int.mul_tdiv_add_tmod u p; omega
  have h3 : u % p = u.tmod p % p := by
    conv => lhs; rw [h2]
    rw [Int.add_mul_emod_self_left]
  have h4 : a + (p - f) * b = u + p * b := by rw [← hu, Int.sub_mul]; omega
  rw [h4, Int.add_mul_emod_self_left, h3]
theorem red_mid {p u : Int} (hp : 0 < p) (hp5 : p ≤ 5) : -5 ≤ u.tmod p ∧ u.tmod p ≤ 5 := by
  have := Int.lt_tmod_of_pos u hp
  have := Int.tmod_lt_of_pos u hp
  omega
/-- what the search from the end has found: places behind i are seen -/
def Seen (A : Mat) (c m : Nat) (i at_ : Int) : Prop := (at_ = -1 ∧ ∀ q : Nat, i < q → q < m → A q c = 0) ∨ ∃ a : Nat, at_ = a ∧ i < a ∧ a < m ∧ A a c ≠ 0 ∧ ∀ q : Nat, i < q → q < a → A q c = 0
theorem Seen.start (A : Mat) (c m : Nat) : Seen A c m ((m : Int) - 1) (-1) := .inl ⟨rfl, fun q h1 h2 => by omega⟩
theorem Seen.zero {A : Mat} {c m i : Nat} {at_ : Int} (h : Seen A c m i at_) (h0 : A i c = 0) : Seen A c m ((i : Int) - 1) at_ := by
  rcases h with ⟨e, h⟩ | ⟨a, e, h1, h2, h3, h4⟩
  · refine .inl ⟨e, fun q hq1 hq2 => ?_⟩
    rcases Nat.lt_or_ge i q with e2 | e2
    · exact h q (by omega) hq2
    · have : q = i := by omega
      rw [this]; exact h0
  · refine .inr ⟨a, e, by omega, h2, h3, fun q hq1 hq2 => ?_⟩
    rcases Nat.lt_or_ge i q with e2 | e2
    · exact h4 q (by omega) hq2
    · have : q = i := by omega
      rw [this]; exact h0
theorem Seen.here {A : Mat} {c m i : Nat} (hi : i < m) (h0 : A i c ≠ 0) : Seen A c m ((i : Int) - 1) i := .inr ⟨i, rfl, by omega, hi, h0, fun q h1 h2 => by omega⟩
theorem tab_snoc (k : Nat) (f : Nat → Int) : tab (k + 1) f = tab k f ++ [f k] := by simp [tab, List.range_succ]
end
section
open Go.ChangeShapes Go.WideShapes Go.ChangeAt Go.RowKit
def sgTo (all : List Nat) (k : List Int) (b : Nat) : Nat → Int := iter (fun i n => if (nthN all i).testBit b then n + nth k i else n) 0
theorem sgTo_t {all : List Nat} {k : List Int} {b i : Nat} (h : (nthN all i).testBit b = true) : sgTo all k b (i + 1) = sgTo all k b i + nth k i := by simp [sgTo, iter, h]
theorem sgTo_f {all : List Nat} {k : List Int} {b i : Nat} (h : (nthN all i).testBit b = false) : sgTo all k b (i + 1) = sgTo all k b i := by simp [sgTo, iter, h]
theorem sgTo_bd {all : List Nat} {k : List Int} {b P : Nat} (h : arB k P = true) (hP : P ≤ 5) : ∀ i, i ≤ k.length → 0 ≤ sgTo all k b i ∧ sgTo all k b i ≤ 4 * i
  | 0, _ => by simp [sgTo, iter]
  | i + 1, hi => by
    have ih := sgTo_bd (all := all) (b := b) h hP i (by omega)
    have h2 := arB_bd h hP (k := i) (by omega)
    cases hb : (nthN all i).testBit b
    · rw [sgTo_f hb]; omega
    · rw [sgTo_t hb]; omega
def bitI (m b : Nat) : Int := if m.testBit b then 1 else 0
theorem bit_int (m b : Nat) : ((andN (shrN m b) 1 : Nat) : Int) = bitI m b := by
  rw [bit_of, bitI]
  cases m.testBit b <;> rfl
theorem bitN_f {m b : Nat} (h : m.testBit b = false) : ((andN (shrN m b) 1 : Nat) : Int) = 0 := by rw [bit_int, bitI, h]; rfl
theorem bitN_t {m b : Nat} (h : m.testBit b = true) : ((andN (shrN m b) 1 : Nat) : Int) = 1 := by rw [bit_int, bitI, h]; rfl
def sgB (all : List Nat) (M : Nat) (k : List Int) (p : Int) (b : Nat) : Bool := decide (sgTo all k b all.length % p = bitI M b)
def sgV (wd : Int) (rows : List Int) (pss : List (List (Int × Int))) (p : Int) (k : List Int) : Bool :=
  probB wd rows pss && (primeB p && (decide (k.length = (alN wd rows pss).length) && (arB k p && allTo (sgB (alN wd rows pss) (maskR wd rows) k p) (wd.toNat * rows.length))))
theorem sgV_b {wd : Int} {rows : List Int} {pss : List (List (Int × Int))} {p : Int} {k : List Int} (h : probB wd rows pss = false) : sgV wd rows pss p k = false := by simp [sgV, h]
theorem sgV_p {wd : Int} {rows : List Int} {pss : List (List (Int × Int))} {p : Int} {k : List Int} (h : primeB p = false) : sgV wd rows pss p k = false := by simp [sgV, h]
theorem sgV_l {wd : Int} {rows : List Int} {pss : List (List (Int × Int))} {p : Int} {k : List Int} (h : ¬ k.length = (alN wd rows pss).length) : sgV wd rows pss p k = false := by simp [sgV, h]
theorem sgV_a {wd : Int} {rows : List Int} {pss : List (List (Int × Int))} {p : Int} {k : List Int} (h : arB k p = false) : sgV wd rows pss p k = false := by simp [sgV, h]
theorem sgV_i {W : Nat} {rows : List Int} {pss : List (List (Int × Int))} {p : Int} {k : List Int} {b : Nat} (hb : b < W * rows.length) (h : sgB (alN W rows pss) (maskR W rows) k p b = false) : sgV W rows pss p k = false := by
  have := allTo_false (p := sgB (alN W rows pss) (maskR W rows) k p) hb h
  simp [sgV, this]
theorem sgV_y {W : Nat} {rows : List Int} {pss : List (List (Int × Int))} {p : Int} {k : List Int} (h1 : probB W rows pss = true) (h2 : primeB p = true) (h3 : k.length = (alN W rows pss).length) (h4 : arB k p = true) (h5 : allTo (sgB (alN W rows pss) (maskR W rows) k p) (W * rows.length) = true) : sgV W rows pss p k = true := by
  simp [sgV, h1, h2, h3, h4, h5]
/-- outside the region no placement has the bit -/
theorem sub_bit {m M b : Nat} (h : andN m M = m) (hb : M.testBit b = false) : m.testBit b = false := by
  rw [← h]
  show (m &&& M).testBit b = false
  rw [Nat.testBit_and, hb, Bool.and_false]
theorem al_bit {W : Nat} {rows : List Int} {pss : List (List (Int × Int))} {b i : Nat} (hb : (maskR W rows).testBit b = false) (hi : i < (alN W rows pss).length) : (nthN (alN W rows pss) i).testBit b = false := by
  have h := alN_at (W := W) (rows := rows) (pss := pss) hi
  rw [isMaskB_nat] at h
  exact sub_bit (but_and.1 (by simpa using h)) hb
theorem sg_zero {W : Nat} {rows : List Int} {pss : List (List (Int × Int))} {k : List Int} {b : Nat} (hb : (maskR W rows).testBit b = false) : ∀ i, i ≤ (alN W rows pss).length → sgTo (alN W rows pss) k b i = 0
  | 0, _ => rfl
  | i + 1, hi => by rw [sgTo_f (al_bit hb (by omega)), sg_zero hb i (by omega)]
theorem sgB_out {W : Nat} {rows : List Int} {pss : List (List (Int × Int))} {k : List Int} {p : Int} {b : Nat} (hb : (maskR W rows).testBit b = false) : sgB (alN W rows pss) (maskR W rows) k p b = true := by
  simp [sgB, sg_zero hb _ (Nat.le_refl _), bitI, hb]
theorem sgB_in {all : List Nat} {M : Nat} {k : List Int} {p : Int} {b : Nat} (hb : M.testBit b = true) : sgB all M k p b = !(sgTo all k b all.length % p != 1) := by
  by_cases h : sgTo all k b all.length % p = 1 <;> simp [sgB, bitI, hb, h]
set_option maxRecDepth 100000 in
set_option maxHeartbeats 8000000 in
theorem implSg_any (wd : Int) (rows : List Int) (pss : List (List (Int × Int))) (p : Int) (ks : List Int) (v u t : Value) (w : World) (h : IntsAt w v rows) (hc : PiecesAt w u pss) (hl : IntsAt w t ks) :
    Calls Tryz.prog 75 #[.agg #[.int .i64 wd, v], u, .int .i64 p, t] w fun e w' => e = .returned (.bool (sgV wd rows pss p ks)) ∧ ∃ x, w' = ext w x := by
  obtain ⟨a, b, o, cap, rfl, hc1, hc2, hc3, hcell⟩ := h.opn
  have hbel := ((Below.refl w.heap.size w).alloc (Nat.le_refl _) (.cells #[.int .i64 wd, .slice a rows.length cap] 26))
  have h1 := h.mono hbel
  have hcu := hc.mono hbel
  have hlu := hl.mono hbel
  obtain ⟨_, _, _, _, e1, hx8⟩ := hlu.opn
  subst e1
  obtain ⟨_, _, _, _, _, e1, hx9⟩ := hcu.opn
  subst e1
  clear hx8 hx9
  clear hcell hc hl h hbel
  cases hb : probB wd rows pss
  · have HF := Lib.hid (sgV_b (p := p) (k := ks) hb)
    have HB := Lib.hid hb
    clear hb
    go_enter Tryz.func75, Tryz.ntmps75
    go_wp2_with (first | (go_at_call 111; refine (isProblem_b _ _ _ _ HB.out _ _ _ (by with_reducible first|assumption|((first|refine wmI ‹_› ?_|refine wmC ‹_› ?_|refine wmP ‹_› ?_);repeat first|apply wxr|assumption|apply wxe|apply wxa|apply wxd)) (by with_reducible first|assumption|((first|refine wmI ‹_› ?_|refine wmC ‹_› ?_|refine wmP ‹_› ?_);repeat first|apply wxr|assumption|apply wxe|apply wxa|apply wxd))).mono ?_; rintro e w' ⟨rfl, xe, rfl⟩))
    go_ret
    exact ⟨ret_bool HF.out.symm, (by repeat first | apply wxr | with_reducible assumption | apply wxe | apply wxa | apply wxd)⟩
  obtain ⟨hr, _, h5, _⟩ := probB_parts hb
  have HB := Lib.hid hb
  obtain ⟨W, rfl, hW1, hW2, hl1, hl2, hrow⟩ := regB_bd hr
  clear hrow
  have HR := Lib.hid hr
  cases hp : primeB p
  · have HF := Lib.hid (sgV_p (wd := W) (rows := rows) (pss := pss) (k := ks) hp)
    have HP := Lib.hid hp
    clear hb hr hp
    go_enter Tryz.func75, Tryz.ntmps75
    go_wp2_with (first | (go_at_call 111; refine (isProblem_b _ _ _ _ HB.out _ _ _ (by with_reducible first|assumption|((first|refine wmI ‹_› ?_|refine wmC ‹_› ?_|refine wmP ‹_› ?_);repeat first|apply wxr|assumption|apply wxe|apply wxa|apply wxd)) (by with_reducible first|assumption|((first|refine wmI ‹_› ?_|refine wmC ‹_› ?_|refine wmP ‹_› ?_);repeat first|apply wxr|assumption|apply wxe|apply wxa|apply wxd))).mono ?_; rintro e w' ⟨rfl, xe, rfl⟩) | (go_at_call 130; refine (isPrime_b _ _ HP.out _).mono ?_; rintro e w' ⟨rfl, xe, rfl⟩))
    go_ret
    exact ⟨ret_bool HF.out.symm, (by repeat first | apply wxr | with_reducible assumption | apply wxe | apply wxa | apply wxd)⟩
  obtain ⟨P, rfl, hP1, hP2⟩ := primeB_nat hp
  have HP := Lib.hid hp
  have HAL := Lib.hid (alN_len (wd := W) (rows := rows) h5)
  cases ha : (arB ks P && decide (ks.length = (alN W rows pss).length))
  · have HF := Lib.hid (show sgV W rows pss P ks = false by
      rcases Bool.and_eq_false_iff.1 ha with e | e
      · exact sgV_a e
      · exact sgV_l (by simpa using e))
    have HA := Lib.hid ha
    clear hb hr hp ha
    go_enter Tryz.func75, Tryz.ntmps75
    go_wp2_with (first | (go_at_call 111; refine (isProblem_b _ _ _ _ HB.out _ _ _ (by with_reducible first|assumption|((first|refine wmI ‹_› ?_|refine wmC ‹_› ?_|refine wmP ‹_› ?_);repeat first|apply wxr|assumption|apply wxe|apply wxa|apply wxd)) (by with_reducible first|assumption|((first|refine wmI ‹_› ?_|refine wmC ‹_› ?_|refine wmP ‹_› ?_);repeat first|apply wxr|assumption|apply wxe|apply wxa|apply wxd))).mono ?_; rintro e w' ⟨rfl, xe, rfl⟩) | (go_at_call 130; refine (isPrime_b _ _ HP.out _).mono ?_; rintro e w' ⟨rfl, xe, rfl⟩) | (go_at_call 113; refine (all_any W rows pss _ _ _ (by with_reducible first|assumption|((first|refine wmI ‹_› ?_|refine wmC ‹_› ?_|refine wmP ‹_› ?_);repeat first|apply wxr|assumption|apply wxe|apply wxa|apply wxd)) (by with_reducible first|assumption|((first|refine wmI ‹_› ?_|refine wmC ‹_› ?_|refine wmP ‹_› ?_);repeat first|apply wxr|assumption|apply wxe|apply wxa|apply wxd)) HR.out h5).mono ?_; rintro e w' ⟨u, rfl, K⟩; obtain ⟨ua, uc, rfl⟩ := K.rowVN; obtain ⟨xk, rfl⟩ := ext_of K.bel; clear K) | (go_at_call 139; refine (areRes_b ks _ _ _ HA.out _ _ (by with_reducible first|assumption|((first|refine wmI ‹_› ?_|refine wmC ‹_› ?_|refine wmP ‹_› ?_);repeat first|apply wxr|assumption|apply wxe|apply wxa|apply wxd)) (by omega) hP2).mono ?_; rintro e w' ⟨rfl, xe, rfl⟩))
    go_ret
    exact ⟨ret_bool HF.out.symm, (by repeat first | apply wxr | with_reducible assumption | apply wxe | apply wxa | apply wxd)⟩
  have HA := Lib.hid ha
  obtain ⟨hA1, hA2⟩ := Bool.and_eq_true_iff.1 ha
  have HLEN := Lib.hid (show ks.length = (alN W rows pss).length by simpa using hA2)
  have HAR := Lib.hid hA1
  have hM63 := maskR_lt63 hr
  haveI : Lt63 (maskR W rows) := ⟨hM63⟩
  clear hb hr hp ha hA1 hA2
  go_enter Tryz.func75, Tryz.ntmps75
  go_wp2_with (first | (go_at_call 111; refine (isProblem_b _ _ _ _ HB.out _ _ _ (by with_reducible first|assumption|((first|refine wmI ‹_› ?_|refine wmC ‹_› ?_|refine wmP ‹_› ?_);repeat first|apply wxr|assumption|apply wxe|apply wxa|apply wxd)) (by with_reducible first|assumption|((first|refine wmI ‹_› ?_|refine wmC ‹_› ?_|refine wmP ‹_› ?_);repeat first|apply wxr|assumption|apply wxe|apply wxa|apply wxd))).mono ?_; rintro e w' ⟨rfl, xe, rfl⟩) | (go_at_call 130; refine (isPrime_b _ _ HP.out _).mono ?_; rintro e w' ⟨rfl, xe, rfl⟩) | (go_at_call 113; refine (all_any W rows pss _ _ _ (by with_reducible first|assumption|((first|refine wmI ‹_› ?_|refine wmC ‹_› ?_|refine wmP ‹_› ?_);repeat first|apply wxr|assumption|apply wxe|apply wxa|apply wxd)) (by with_reducible first|assumption|((first|refine wmI ‹_› ?_|refine wmC ‹_› ?_|refine wmP ‹_› ?_);repeat first|apply wxr|assumption|apply wxe|apply wxa|apply wxd)) HR.out h5).mono ?_; rintro e w' ⟨u, rfl, K⟩; have hx2 := Lib.hid (ext_trans (w := w.alloc (.cells #[.int .i64 W, .slice a rows.length cap] 26)) (by repeat first | apply wxr | with_reducible assumption | apply wxe | apply wxa | apply wxd) (ext_of K.bel)); obtain ⟨ua, uc, rfl⟩ := K.rowVN; have HI := Lib.hid K.ints0; clear K; have hlw := hlu.mono (bel_of_ext hx2.out); have hrw := h1.mono (bel_of_ext hx2.out); obtain ⟨kb0, kb1⟩ := below_box2 (bel_of_ext hx2.out); have kbo : Old w' w.heap.size := ⟨by have := (bel_of_ext hx2.out).size; rw [World.size_alloc] at this; omega⟩; clear h1 hcu hlu) | (go_at_call 139; refine (areRes_b ks _ _ _ HA.out _ _ hlw (by omega) hP2).mono ?_; rintro e w' ⟨rfl, xe, rfl⟩) | (go_at_call 131; refine (size_any _ rows _ _ (by with_reducible first|assumption|((first|refine wmI ‹_› ?_|refine wmC ‹_› ?_|refine wmP ‹_› ?_);repeat first|apply wxr|assumption|apply wxe|apply wxa|apply wxd)) hW2 hl2).mono ?_; rintro e w' ⟨rfl, xe, rfl⟩))
  have hml : mulN W rows.length ≤ 36 := Nat.mul_le_mul hW2 hl2
  have hla := HAL.out
  have HLW := Lib.hid hlw
  have HRW := Lib.hid hrw
  obtain ⟨a9, b9, o9, c9, e9, _, _, _, hcell⟩ := HI.out.opnN
  simp only [Value.slice.injEq] at e9
  obtain ⟨rfl, _, rfl⟩ := e9
  have HC := Lib.hid hcell
  obtain ⟨la, lb, lo, lc, e1, l1, l2, l3, lcell⟩ := hlw.opn
  simp only [Value.slice.injEq] at e1
  obtain ⟨rfl, _, rfl⟩ := e1
  have HL := Lib.hid lcell
  clear hcell lcell hlw hrw
  go_loopw [34] (fun i wr => ∃ q : Nat, q ≤ mulN W rows.length ∧ i = .int .i64 q ∧ Hid (allTo (sgB (alN W rows pss) (maskR W rows) ks P) q = true) ∧ ∃ x, wr = ext w' x) (fun i _ => mulN W rows.length - (intOf i).toNat)
  case atStart => exact ⟨0, Nat.zero_le _, rfl, Lib.hid rfl, (by repeat first | apply wxr | with_reducible assumption | apply wxe | apply wxa | apply wxd)⟩
  case round =>
    obtain ⟨q, hq, rfl, HQ, x, rfl⟩ := hrel
    by_cases hlt : q < mulN W rows.length
    · haveI : Le64 q := ⟨by omega⟩
      go_wp2_with fail
      go_loopw [11, 39] (fun s i wr => ∃ k : Nat, k ≤ (alN W rows pss).length ∧ i = .int .i64 k ∧ s = .int .i64 (sgTo (alN W rows pss) ks q k) ∧ ∃ x, wr = ext w' x) (fun _ i _ => (alN W rows pss).length - (intOf i).toNat)
      case atStart => exact ⟨0, Nat.zero_le _, rfl, rfl, (by repeat first | apply wxr | with_reducible assumption | apply wxe | apply wxa | apply wxd)⟩
      case round =>
        obtain ⟨k, hk, rfl, rfl, y, rfl⟩ := hrel
        by_cases hk2 : k < (alN W rows pss).length
        · obtain ⟨q1, q2, q3⟩ := HC.out k hk2
          have hkk : k < ks.length := by rw [HLEN.out]; exact hk2
          obtain ⟨r1, r2, r3⟩ := HL.out k hkk
          haveI := in_36 hk2
          have hbd := sgTo_bd (all := alN W rows pss) (b := q) HAR.out hP2 k (by omega)
          have hkb := arB_bd HAR.out hP2 hkk
          have hk14 : k ≤ 1440 := by omega
          cases hb : (nthN (alN W rows pss) k).testBit q
          · have HS := Lib.hid (sgTo_f (k := ks) hb)
            have hbi := bitN_f hb
            clear hb
            generalize sgTo (alN W rows pss) ks q k = s at hbd HS ⊢
            generalize nth ks k = c at r3 hkb
            have w1 : IntKind.i64.wrap (c * 0) = 0 := by rw [Int.mul_zero]; rfl
            have w2 : IntKind.i64.wrap s = s := IntWalk.i64_in _ (by omega)
            go_wp2_with fail
            refine wp_region_ext_lit (by kernel_rfl) (by kernel_rfl) ?_
            repeat (go_big_quiet_step (fail))
            refine wpQuiet_nil ?_
            intro _ hwq
            obtain ⟨xq, hwq⟩ := hwq
            subst hwq
            go_wp2_with fail
            go_roundw
            case rel => exact ⟨k + 1, hk2, int_succ k, by rw [HS.out], (by repeat first | apply wxr | with_reducible assumption | apply wxe | apply wxa | apply wxd)⟩
            case measure => simp [intOf]; omega
          · have HS := Lib.hid (sgTo_t (k := ks) hb)
            have hbi := bitN_t hb
            clear hb
            generalize sgTo (alN W rows pss) ks q k = s at hbd HS ⊢
            generalize nth ks k = c at r3 hkb HS
            have w1 : IntKind.i64.wrap c = c := IntWalk.i64_in _ (by omega)
            have w2 : IntKind.i64.wrap (s + c) = s + c := IntWalk.i64_in _ (by omega)
            go_wp2_with fail
            refine wp_region_ext_lit (by kernel_rfl) (by kernel_rfl) ?_
            repeat (go_big_quiet_step (fail))
            refine wpQuiet_nil ?_
            intro _ hwq
            obtain ⟨xq, hwq⟩ := hwq
            subst hwq
            go_wp2_with fail
            go_roundw
            case rel => exact ⟨k + 1, hk2, int_succ k, by rw [HS.out], (by repeat first | apply wxr | with_reducible assumption | apply wxe | apply wxa | apply wxd)⟩
            case measure => simp [intOf]; omega
        · have HK := Lib.hid (show k = (alN W rows pss).length by omega)
          have hbd := sgTo_bd (all := alN W rows pss) (b := q) HAR.out hP2 k (by rw [HLEN.out]; omega)
          have hk14 : k ≤ 1440 := by omega
          have HE := Lib.hid (show sgTo (alN W rows pss) ks q k = sgTo (alN W rows pss) ks q (alN W rows pss).length by rw [HK.out])
          have hrw := HRW.out
          generalize sgTo (alN W rows pss) ks q k = s at hbd HE ⊢
          have htm : (s : Int).tmod P = s % P := Int.tmod_eq_emod_of_nonneg hbd.1
          cases hb : (maskR W rows).testBit q
          · have HT := Lib.hid (sgB_out (pss := pss) (k := ks) (p := P) hb)
            have hbi := bitN_f hb
            clear hb
            go_wp2_with (first | (go_at_call 117; refine (mask_any _ rows _ _ (by with_reducible first|assumption|((first|refine wmI ‹_› ?_|refine wmC ‹_› ?_|refine wmP ‹_› ?_);repeat first|apply wxr|assumption|apply wxe|apply wxa|apply wxd)) HR.out).mono ?_; rintro e w' ⟨rfl, xe, rfl⟩))
            go_roundw
            case rel => exact ⟨q + 1, hlt, int_succ q, Lib.hid (allTo_succ HQ.out HT.out), (by repeat first | apply wxr | with_reducible assumption | apply wxe | apply wxa | apply wxd)⟩
            case measure => simp [intOf]; omega
          · have HT := Lib.hid (sgB_in (all := alN W rows pss) (k := ks) (p := P) hb)
            have hbi := bitN_t hb
            clear hb
            rw [← HE.out] at HT
            by_cases hs : s % P = 1
            · have hs2 : (s % (P : Int) != 1) = false := by simp [hs]
              have HT2 := Lib.hid (show sgB (alN W rows pss) (maskR W rows) ks P q = true by rw [HT.out, hs2]; rfl)
              clear hs HT
              go_wp2_with (first | (go_at_call 117; refine (mask_any _ rows _ _ (by with_reducible first|assumption|((first|refine wmI ‹_› ?_|refine wmC ‹_› ?_|refine wmP ‹_› ?_);repeat first|apply wxr|assumption|apply wxe|apply wxa|apply wxd)) HR.out).mono ?_; rintro e w' ⟨rfl, xe, rfl⟩))
              go_roundw
              case rel => exact ⟨q + 1, hlt, int_succ q, Lib.hid (allTo_succ HQ.out HT2.out), (by repeat first | apply wxr | with_reducible assumption | apply wxe | apply wxa | apply wxd)⟩
              case measure => simp [intOf]; omega
            · have hs2 : (s % (P : Int) != 1) = true := by simp [hs]
              have HF := Lib.hid (sgV_i (pss := pss) hlt (show sgB (alN W rows pss) (maskR W rows) ks P q = false by rw [HT.out, hs2]; rfl))
              clear hs HT
              go_wp2_with (first | (go_at_call 117; refine (mask_any _ rows _ _ (by with_reducible first|assumption|((first|refine wmI ‹_› ?_|refine wmC ‹_› ?_|refine wmP ‹_› ?_);repeat first|apply wxr|assumption|apply wxe|apply wxa|apply wxd)) HR.out).mono ?_; rintro e w' ⟨rfl, xe, rfl⟩))
              go_ret
              exact ⟨ret_bool HF.out.symm, (ext_trans (ext_trans (ext_alloc w _) hx2.out) (by repeat first | apply wxr | with_reducible assumption | apply wxe | apply wxa | apply wxd))⟩
    · have HK := Lib.hid (show q = mulN W rows.length by omega)
      have HF := Lib.hid (sgV_y HB.out HP.out HLEN.out HAR.out (by have := HQ.out; rwa [HK.out] at this))
      go_wp2_with fail
      go_ret
      exact ⟨ret_bool HF.out.symm, (ext_trans (ext_trans (ext_alloc w _) hx2.out) (by repeat first | apply wxr | with_reducible assumption | apply wxe | apply wxa | apply wxd))⟩
end
section
open Go.ChangeShapes Go.WideShapes Go.ChangeAt Go.RowKit
/-- the rows: a placement's bits -/
def bitM (all : List Nat) : Mat := fun i j => bitI (nthN all i) j
theorem bitI_bd (m b : Nat) : 0 ≤ bitI m b ∧ bitI m b ≤ 1 := by
  unfold bitI
  split <;> omega
theorem bitM_res {p : Int} (hp : primeP p) (all : List Nat) (m n : Nat) : Resid p m n (bitM all) := fun i _ j _ => by
  have := bitI_bd (nthN all i) j
  unfold bitM
  rcases hp with h | h | h <;> omega
/-- the weights of a column without a leading one -/
def wvTo (p : Int) (M : Mat) (piv : List Nat) (c : Nat) : Nat → Nat → Int := iter (fun k f => upd f (nthN piv k) ((p - M k c) % p)) (upd (fun _ => 0) c 1)
theorem wvTo_succ (p : Int) (M : Mat) (piv : List Nat) (c k : Nat) : wvTo p M piv c (k + 1) = upd (wvTo p M piv c k) (nthN piv k) ((p - M k c) % p) := rfl
theorem wvTo_bd {p : Int} (hp : primeP p) (M : Mat) (piv : List Nat) (c : Nat) : ∀ k j, 0 ≤ wvTo p M piv c k j ∧ wvTo p M piv c k j < p
  | 0, j => by
    show 0 ≤ upd (fun _ => (0 : Int)) c 1 j ∧ upd (fun _ => (0 : Int)) c 1 j < p
    simp only [upd]
    split <;> (rcases hp with h | h | h <;> omega)
  | k + 1, j => by
    have hp0 : 0 < p := by rcases hp with h | h | h <;> omega
    rw [wvTo_succ]
    unfold upd
    split
    · exact ⟨Int.emod_nonneg _ (by omega), Int.emod_lt_of_pos _ hp0⟩
    · exact wvTo_bd hp M piv c k j
def wvL (p : Int) (n : Nat) (M : Mat) (piv : List Nat) (c : Nat) : List Int := tab n (wvTo p M piv c piv.length)
theorem wvL_ar {P : Nat} (hp : primeP (P : Int)) (n : Nat) (M : Mat) (piv : List Nat) (c : Nat) : arB (wvL P n M piv c) P = true := by
  unfold arB
  rw [allTo_true]
  intro k hk
  rw [wvL, tab_len] at hk
  rw [wvL, tab_nth _ hk]
  have := wvTo_bd hp M piv c piv.length k
  exact btw_iff.2 (by omega)
/-- whether the column forbids -/
def fwOk (p : Int) (n : Nat) (mask : Nat) (M : Mat) (piv : List Nat) (c : Nat) : Bool := !hasL piv (c : Int) && decide (wsM mask (wvL p n M piv c) p ≠ 0)
def fwC (p : Int) (n : Nat) (mask : Nat) (M : Mat) (piv : List Nat) : Option (List Int) := ((List.range n).find? (fwOk p n mask M piv)).map (wvL p n M piv)
theorem fwC_none {p : Int} {n mask : Nat} {M : Mat} {piv : List Nat} (h : ∀ q, q < n → fwOk p n mask M piv q = false) : fwC p n mask M piv = none := by
  rw [fwC, List.find?_eq_none.2 fun q hq => by rw [h q (List.mem_range.1 hq)]; simp]; rfl
theorem fwC_some {p : Int} {n mask : Nat} {M : Mat} {piv : List Nat} {c : Nat} (hc : c < n) (h : ∀ q, q < c → fwOk p n mask M piv q = false) (h1 : fwOk p n mask M piv c = true) : fwC p n mask M piv = some (wvL p n M piv c) := by
  rw [fwC, List.find?_range_eq_some.2 ⟨h1, List.mem_range.2 hc, fun q hq => by rw [h q hq]; rfl⟩]; rfl
def fwV (wd : Int) (rows : List Int) (pss : List (List (Int × Int))) (p : Int) : Option (List Int) :=
  if probB wd rows pss && primeB p then fwC p (wd.toNat * rows.length) (maskR wd rows) (gsTo p (alN wd rows pss).length (bitM (alN wd rows pss)) (wd.toNat * rows.length)).1 (gsTo p (alN wd rows pss).length (bitM (alN wd rows pss)) (wd.toNat * rows.length)).2 else none
theorem fwV_b {wd : Int} {rows : List Int} {pss : List (List (Int × Int))} {p : Int} (h : probB wd rows pss = false) : fwV wd rows pss p = none := by simp [fwV, h]
theorem fwV_p {wd : Int} {rows : List Int} {pss : List (List (Int × Int))} {p : Int} (h : primeB p = false) : fwV wd rows pss p = none := by simp [fwV, h]
theorem fwV_yes {W : Nat} {rows : List Int} {pss : List (List (Int × Int))} {p : Int} (h : probB W rows pss = true) (h2 : primeB p = true) :
    fwV W rows pss p = fwC p (W * rows.length) (maskR W rows) (gsTo p (alN W rows pss).length (bitM (alN W rows pss)) (W * rows.length)).1 (gsTo p (alN W rows pss).length (bitM (alN W rows pss)) (W * rows.length)).2 := by simp [fwV, h, h2]
theorem fwOk_has {p : Int} {n mask : Nat} {M : Mat} {piv : List Nat} {c : Nat} (h : hasL piv (c : Int) = true) : fwOk p n mask M piv c = false := by simp [fwOk, h]
theorem fwOk_zero {p : Int} {n mask : Nat} {M : Mat} {piv : List Nat} {c : Nat} (h : wsM mask (wvL p n M piv c) p = 0) : fwOk p n mask M piv c = false := by simp [fwOk, h]
theorem fwOk_yes {p : Int} {n mask : Nat} {M : Mat} {piv : List Nat} {c : Nat} (h : hasL piv (c : Int) = false) (h2 : ¬ wsM mask (wvL p n M piv c) p = 0) : fwOk p n mask M piv c = true := by simp [fwOk, h, h2]
/-- a row that is filled with bits from the left -/
def btTo (m j : Nat) : Nat → Int := fun q => if q < j then bitI m q else 0
theorem btTo_step (m j n : Nat) : tab n (upd (btTo m j) j (bitI m j)) = tab n (btTo m (j + 1)) := tab_congr fun q _ => by
  by_cases e : q = j
  · subst e; simp [upd, btTo]
  · have : (q < j + 1) = (q < j) := propext ⟨fun _ => by omega, fun _ => by omega⟩
    simp [upd, btTo, e, this]
theorem btTo_all {m n j : Nat} (h : j = n) : tab n (btTo m j) = tab n (bitI m) := tab_congr fun q hq => by subst h; simp [btTo, hq]
theorem btTo_zero (m n : Nat) : (tab n fun _ => 0) = tab n (btTo m 0) := tab_congr fun q _ => by simp [btTo]
theorem gs_zero (p : Int) (M : Mat) (n : Nat) : gsTo p 0 M n = (M, []) := gs_stop (c := 0) (by simp [gsTo, iter]) (Nat.zero_le _)
theorem Held.nilM {W0 w : World} {L : List Row} (H : Held W0 w L) : Held W0 w (grpR (.slice none 0 0) [] [] ++ L) := ⟨H.bel, (fun r hr => by
  rcases List.mem_cons.1 hr with rfl | hr
  · exact World.ownsRow_nil _ _ _ _
  · exact H.own r hr), List.Pairwise.cons (fun r hr g hg => by simp [Value.ownBlock] at hg) H.apart⟩
theorem Held.snocM2 {W0 w : World} {L : List Row} {v r : Value} {vs : List Value} {xss : List (List Int)} {xs : List Int} (hl : vs.length = xss.length) (H : Held W0 w (⟨v, 24, 1, xss.length + 1, vs ++ [r]⟩ :: rowI r xs :: (rowsI vs xss ++ L))) :
    Held W0 w (grpR v (vs ++ [r]) (xss ++ [xs]) ++ L) := by
  have e : grpR v (vs ++ [r]) (xss ++ [xs]) ++ L = ⟨v, 24, 1, xss.length + 1, vs ++ [r]⟩ :: (rowsI vs xss ++ (rowI r xs :: L)) := by
    rw [grpR, rowsI_snoc _ _ _ _ hl]; simp
  rw [e]
  exact H.front (List.Perm.cons _ (List.perm_middle (a := rowI r xs) (l₁ := rowsI vs xss) (l₂ := L)).symm)
theorem one_rowM2 (a : Option Addr) (n c : Nat) : ∀ u ∈ [Value.slice a n c], u.oneCell' = true := by intro u hu; simp at hu; subst hu; rfl
/-- the matrix' cells behind two other rows -/
theorem MO_two {W0 wr : World} {g cap m n : Nat} {ρ κ : Nat → Nat} {M : Mat} {L : List Row} {r1 r2 : Row} (H : Held W0 wr (r1 :: r2 :: MO g cap m (slR ρ κ n) ρ κ n M L)) {i j : Nat} (hi : i < m) (hj : j < n) :
    (wr.cell? ⟨g, i, none⟩ = some (.slice (some ⟨ρ i, 0, none⟩) n (κ i)) ∧ Old wr g) ∧ wr.cell? ⟨ρ i, j, none⟩ = some (.int .i64 (M i j)) ∧ Old wr (ρ i) := by
  have H2 : Held W0 wr (MO g cap m (slR ρ κ n) ρ κ n M (r1 :: r2 :: L)) := H.front ((MO_last.trans (List.Perm.cons _ MO_last)).symm)
  obtain ⟨a1, _, a3⟩ := MO_cell H2 hi
  obtain ⟨b1, _, b3, _⟩ := MO_row H2 hi hj
  exact ⟨⟨a1, a3⟩, b1, b3⟩
theorem MO_join {W0 w w' : World} {g cap m n : Nat} {φ : Nat → Value} {ρ κ : Nat → Nat} {M : Mat} {L : List Row} {r : Row} (H : Held W0 w L) (K : Held w w' (MO g cap m φ ρ κ n M [r])) : Held W0 w' (MO g cap m φ ρ κ n M (r :: L)) := by
  have := H.join K
  have e : MO g cap m φ ρ κ n M [r] ++ L = MO g cap m φ ρ κ n M (r :: L) := by simp [MO]
  rwa [e] at this
end
section
open Go.ChangeShapes Go.WideShapes Go.ChangeAt Go.RowKit
/-- the system over all places -/
def sysR (all : List Nat) (mask : Nat) : Mat := fun j i => if i < all.length then bitI (nthN all i) j else bitI mask j
/-- the places of the region -/
def plc (mask n : Nat) : List Nat := (List.range n).filter fun b => mask.testBit b
/-- the system over the region's places alone -/
def sysP (all : List Nat) (mask n : Nat) : Mat := fun r i => sysR all mask (nthN (plc mask n) r) i
theorem sysR_res {p : Int} (hp : primeP p) (all : List Nat) (mask m n : Nat) : Resid p m n (sysR all mask) := fun j _ i _ => by
  have h1 := bitI_bd (nthN all i) j
  have h2 := bitI_bd mask j
  unfold sysR
  split <;> (rcases hp with h | h | h <;> omega)
theorem sysP_res {p : Int} (hp : primeP p) (all : List Nat) (mask m n k : Nat) : Resid p m k (sysP all mask n) := fun r hr i hi => sysR_res hp all mask (nthN (plc mask n) r + 1) k _ (Nat.lt_succ_self _) i hi
theorem plc_mem {mask n b : Nat} : b ∈ plc mask n ↔ b < n ∧ mask.testBit b = true := by
  rw [plc, List.mem_filter, List.mem_range]
theorem nul_sys {p : Int} {all : List Nat} {mask n k : Nat} (hz : ∀ b, b < n → mask.testBit b = false → ∀ i, i < all.length → (nthN all i).testBit b = false) (x : Nat → Int) :
    nul p (plc mask n).length k (sysP all mask n) x ↔ nul p n k (sysR all mask) x := by
  constructor
  · intro h b hb
    cases hm : mask.testBit b
    · rw [sumTo_zero fun i hi => ?_]
      · exact ⟨0, by simp⟩
      · have : sysR all mask b i = 0 := by
          unfold sysR
          split
          · rename_i h1
            rw [bitI, hz b hb hm i h1]; rfl
          · rw [bitI, hm]; rfl
        rw [this, Int.zero_mul]
    · obtain ⟨r, hr, e⟩ := List.getElem_of_mem (plc_mem.2 ⟨hb, hm⟩)
      have := h r hr
      have e2 : sysP all mask n r = sysR all mask b := by
        funext i
        rw [sysP, nthN_get hr, e]
      rwa [e2] at this
  · intro h r hr
    have hm := plc_mem.1 (List.getElem_mem hr)
    have := h _ hm.1
    have e2 : sysP all mask n r = sysR all mask (plc mask n)[r] := by
      funext i
      rw [sysP, nthN_get hr]
    rwa [e2]
/-- the numbers that the reduced system tells -/
def osTo (M : Mat) (piv : List Nat) (K : Nat) : Nat → Nat → Int := iter (fun i f => upd f (nthN piv i) (M i K)) (fun _ => 0)
theorem osTo_succ (M : Mat) (piv : List Nat) (K i : Nat) : osTo M piv K (i + 1) = upd (osTo M piv K i) (nthN piv i) (M i K) := rfl
theorem osTo_congr {M M' : Mat} {piv : List Nat} {K : Nat} (h : ∀ i, i < piv.length → M i K = M' i K) : ∀ i, i ≤ piv.length → osTo M piv K i = osTo M' piv K i
  | 0, _ => rfl
  | i + 1, hi => by rw [osTo_succ, osTo_succ, osTo_congr h i (by omega), h i (by omega)]
def fsC (M : Mat) (piv : List Nat) (K : Nat) : Option (List Int) := if hasL piv (K : Int) then none else some (tab K (osTo M piv K piv.length))
theorem hasL_mem {l : List Nat} {k : Nat} : hasL l (k : Int) = true ↔ k ∈ l := by
  unfold hasL
  rw [List.any_eq_true]
  constructor
  · rintro ⟨m, hm, e⟩
    have : (m : Int) = k := by simpa using e
    have : m = k := by omega
    exact this ▸ hm
  · intro h
    exact ⟨k, h, by simp⟩
/-- the program's way: columns ahead of the last; the last one is tested -/
theorem fs_none {p : Int} (hp : primeP p) {m m' K : Nat} {A A' M M' : Mat} {piv piv' : List Nat} (hR : Resid p m (K + 1) A) (hR' : Resid p m' (K + 1) A') (hs : ∀ x, nul p m (K + 1) A x ↔ nul p m' (K + 1) A' x)
    (hg : gsTo p m A (K + 1) = (M, piv)) (hg' : gsTo p m' A' K = (M', piv')) {i : Nat} (h1 : piv'.length ≤ i) (h2 : i < m') (h3 : M' i K ≠ 0) : fsC M piv K = none := by
  have r1 := gsTo_red hp hR (K + 1) (Nat.le_refl _)
  have r2 := gsTo_red hp hR' (K + 1) (Nat.le_refl _)
  have e := red_piv hp r1 r2 hs
  have hk : K ∈ (gsTo p m' A' (K + 1)).2 := by
    obtain ⟨k1, k2, k3, k4⟩ := nzF_spec M' K (m' - piv'.length) piv'.length
    have hlt : nzF M' K (m' - piv'.length) piv'.length < m' := by
      rcases Nat.lt_or_ge (nzF M' K (m' - piv'.length) piv'.length) m' with h | h
      · exact h
      · exact absurd (k3 i h1 (by omega)) h3
    rw [gsTo_succ, hg', colS]
    simp only
    rw [if_pos (by omega), if_pos hlt]
    simp
  rw [← e, hg] at hk
  rw [fsC, hasL_mem.2 hk]; rfl
theorem fs_some {p : Int} (hp : primeP p) {m m' K : Nat} {A A' M M' : Mat} {piv piv' : List Nat} (hR : Resid p m (K + 1) A) (hR' : Resid p m' (K + 1) A') (hs : ∀ x, nul p m (K + 1) A x ↔ nul p m' (K + 1) A' x)
    (hg : gsTo p m A (K + 1) = (M, piv)) (hg' : gsTo p m' A' K = (M', piv')) (h : ∀ i, piv'.length ≤ i → i < m' → M' i K = 0) : fsC M piv K = some (tab K (osTo M' piv' K piv'.length)) := by
  have r1 := gsTo_red hp hR (K + 1) (Nat.le_refl _)
  have r2 := gsTo_red hp hR' (K + 1) (Nat.le_refl _)
  have r3 := gsTo_red hp hR' K (Nat.le_succ _)
  have e0 : gsTo p m' A' (K + 1) = (M', piv') := by
    rw [gs_none (by rw [hg']; exact h), hg']
  have e := red_piv hp r1 r2 hs
  rw [hg, e0] at e
  simp only at e
  subst e
  rw [hg'] at r3
  have hn : ¬ hasL piv (K : Int) = true := fun hk => by
    have := r3.lt K (hasL_mem.1 hk)
    omega
  rw [fsC, if_neg hn, osTo_congr (M := M) (M' := M') (fun i hi => ?_) piv.length (Nat.le_refl _)]
  rw [hg] at r1
  rw [e0] at r2
  exact red_row hp r1 r2 hs hi (Nat.lt_succ_self K)
def fsV (wd : Int) (rows : List Int) (pss : List (List (Int × Int))) (p : Int) : Option (List Int) :=
  if probB wd rows pss && primeB p then fsC (gsTo p (wd.toNat * rows.length) (sysR (alN wd rows pss) (maskR wd rows)) ((alN wd rows pss).length + 1)).1 (gsTo p (wd.toNat * rows.length) (sysR (alN wd rows pss) (maskR wd rows)) ((alN wd rows pss).length + 1)).2 (alN wd rows pss).length else none
theorem fsV_b {wd : Int} {rows : List Int} {pss : List (List (Int × Int))} {p : Int} (h : probB wd rows pss = false) : fsV wd rows pss p = none := by simp [fsV, h]
theorem fsV_p {wd : Int} {rows : List Int} {pss : List (List (Int × Int))} {p : Int} (h : primeB p = false) : fsV wd rows pss p = none := by simp [fsV, h]
theorem fsV_yes {W : Nat} {rows : List Int} {pss : List (List (Int × Int))} {p : Int} (h : probB W rows pss = true) (h2 : primeB p = true) :
    fsV W rows pss p = fsC (gsTo p (W * rows.length) (sysR (alN W rows pss) (maskR W rows)) ((alN W rows pss).length + 1)).1 (gsTo p (W * rows.length) (sysR (alN W rows pss) (maskR W rows)) ((alN W rows pss).length + 1)).2 (alN W rows pss).length := by simp [fsV, h, h2]
end
section
open Go.ChangeShapes Go.WideShapes Go.ChangeAt Go.RowKit
theorem plc_t {mask b : Nat} (h : mask.testBit b = true) : plc mask (b + 1) = plc mask b ++ [b] := by
  simp [plc, List.range_succ, List.filter_append, h]
theorem plc_f {mask b : Nat} (h : mask.testBit b = false) : plc mask (b + 1) = plc mask b := by
  simp [plc, List.range_succ, List.filter_append, h]
theorem plc_len (mask n : Nat) : (plc mask n).length ≤ n := by
  have := List.length_filter_le (fun b => mask.testBit b) (List.range n)
  rwa [List.length_range] at this
def rwL (all : List Nat) (mask : Nat) (l : List Nat) : List (List Int) := l.map fun b => tab (all.length + 1) (sysR all mask b)
theorem rwL_len (all : List Nat) (mask : Nat) (l : List Nat) : (rwL all mask l).length = l.length := by simp [rwL]
theorem rwL_snoc (all : List Nat) (mask : Nat) (l : List Nat) (b : Nat) : rwL all mask (l ++ [b]) = rwL all mask l ++ [tab (all.length + 1) (sysR all mask b)] := by simp [rwL]
theorem rwL_all (all : List Nat) (mask n : Nat) : rwL all mask (plc mask n) = ftab (plc mask n).length fun r => tab (all.length + 1) (sysP all mask n r) := by
  apply List.ext_getElem
  · rw [rwL_len, ftab_len]
  · intro i h1 h2
    rw [ftab_getE]
    have hi : i < (plc mask n).length := by rwa [rwL_len] at h1
    have e : sysP all mask n i = sysR all mask (plc mask n)[i] := by
      funext j
      rw [sysP, nthN_get hi]
    rw [e]
    simp [rwL]
theorem sysR_lt {all : List Nat} {mask b k : Nat} (h : k < all.length) : sysR all mask b k = bitI (nthN all k) b := by rw [sysR, if_pos h]
theorem sysR_last {all : List Nat} {mask b k : Nat} (hk : k = all.length) (h : mask.testBit b = true) : sysR all mask b k = 1 := by
  rw [sysR, if_neg (by omega), bitI, h]; rfl
theorem osTo_min {M : Mat} {piv : List Nat} {K i : Nat} (h : i < piv.length) : osTo M piv K (min (i + 1) piv.length) = upd (osTo M piv K (min i piv.length)) (nthN piv i) (M i K) := by
  rw [show min (i + 1) piv.length = i + 1 by omega, show min i piv.length = i by omega, osTo_succ]
theorem osTo_stay {M : Mat} {piv : List Nat} {K i : Nat} (h : ¬ i < piv.length) : osTo M piv K (min (i + 1) piv.length) = osTo M piv K (min i piv.length) := by
  rw [show min (i + 1) piv.length = piv.length by omega, show min i piv.length = piv.length by omega]
end
section
open Go.ChangeShapes Go.WideShapes Go.ChangeAt Go.RowKit
def EchPost (W0 : World) (g cap m n : Nat) (p : Int) (M : Mat) (cols : Nat) (L : List Row) (e : Ending) (w' : World) : Prop := ∃ v' ρ κ, e = .returned v' ∧ MH W0 w' g cap ρ κ m n (gsTo p m M cols).1 (rowI v' (castL (gsTo p m M cols).2) :: L)
set_option maxRecDepth 100000 in
set_option maxHeartbeats 16000000 in
theorem ech_any (W0 : World) (g cap m n cols P : Nat) (M : Mat) (L : List Row) (hP : primeB P = true) (hP5 : P ≤ 5) (hR : Resid P m n M) (hc : cols ≤ n) (hm : m ≤ 100000) (hn : n ≤ 100000) (ρ κ : Nat → Nat) (w : World) (H : MH W0 w g cap ρ κ m n M L) :
    Calls Tryz.prog 132 #[.slice (some ⟨g, 0, none⟩) m cap, .int .i64 cols, .int .i64 P] w (EchPost W0 g cap m n P M cols L) := by
  have hpp := primeP_of hP
  have hP0 : (0 : Int) < P := by rcases hpp with h | h | h <;> omega
  have hP1 : 2 ≤ P := by rcases hpp with h | h | h <;> omega
  haveI : Pos1 P := ⟨by omega⟩
  have HPP := Lib.hid hpp
  have HRES := Lib.hid hR
  have HH := Lib.hid (Held.front H.nilI MO_last.symm)
  clear H hpp hR hP
  go_enter Tryz.func132, Tryz.ntmps132
  go_wp2_with fail
  go_loopw [7, 8] (fun u i wr => ∃ (pv : Value) (c : Nat) (ρ κ : Nat → Nat), pv = u ∧ c ≤ cols ∧ i = .int .i64 c ∧ MH W0 wr g cap ρ κ m n (gsTo P m M c).1 (rowI pv (castL (gsTo P m M c).2) :: L)) (fun _ i _ => cols - (intOf i).toNat)
  case atStart => exact ⟨_, 0, ρ, κ, rfl, Nat.zero_le _, rfl, HH.out⟩
  case round =>
    clear HH
    obtain ⟨pv, c, ρ, κ, rfl, hck, rfl, H⟩ := hrel
    have hred := gsTo_red HPP.out HRES.out c (by omega)
    obtain ⟨A, piv, hg⟩ : ∃ A piv, gsTo P m M c = (A, piv) := ⟨_, _, rfl⟩
    have HG := Lib.hid hg
    rw [hg] at hred H
    simp only at hred H
    have HRED := Lib.hid hred
    have hle := hred.le
    obtain ⟨pa, pc, epv⟩ := (H.front MO_last).rowVN
    have HEPV := Lib.hid epv
    by_cases hlt : c < cols
    · by_cases htm : piv.length < m
      · have HH := Lib.hid H
        have hcn : c < n := by omega
        clear hred hg H
        subst epv
        go_wp2_with fail
        go_loopw [10] (fun u w2 => ∃ k : Nat, u = .int .i64 k ∧ piv.length ≤ k ∧ k ≤ m ∧ Hid (∀ q, piv.length ≤ q → q < k → A q c = 0) ∧ w2 = wr) (fun u _ => m - (intOf u).toNat)
        case atStart => exact ⟨piv.length, rfl, Nat.le_refl _, by omega, Lib.hid (fun q h1 h2 => by omega), rfl⟩
        case round =>
          obtain ⟨k, rfl, hk1, hk2, HZ, rfl⟩ := hrel
          by_cases hkm : k < m
          · obtain ⟨a1, a2, a3⟩ := MO_cell HH.out hkm
            obtain ⟨b1, b2, b3, b4⟩ := MO_row HH.out hkm hcn
            obtain ⟨x, hx⟩ : ∃ x, A k c = x := ⟨_, rfl⟩
            rw [hx] at b1
            have HX := Lib.hid hx
            have hxb := HRED.out.res k hkm c hcn
            rw [hx] at hxb
            clear b4 hx
            by_cases hx0 : x = 0
            · have hz0 : (x == (0 : Int)) = true := beq_iff_eq.2 hx0
              have HX0 := Lib.hid hx0
              clear hx0
              go_wp2_with fail
              go_roundw
              case rel => exact ⟨k + 1, int_succ k, by omega, hkm, Lib.hid (fun q h1 h2 => by
                rcases Nat.lt_or_ge q k with e | e
                · exact HZ.out q h1 e
                · have e2 : q = k := by omega
                  rw [e2, HX.out, HX0.out]), by first | rfl | trivial⟩
              case measure => simp [intOf]; omega
            · have hz0 : (x == (0 : Int)) = false := beq_eq_false_iff_ne.2 hx0
              have hke : ((k : Int) == (m : Int)) = false := beq_eq_false_iff_ne.2 (by omega)
              have HGS := Lib.hid (gs_some HG.out hk1 hkm HZ.out (by rw [HX.out]; exact hx0))
              have hinv := invP_spec HPP.out hx0 hxb.1 hxb.2
              rw [HX.out] at HGS
              obtain ⟨V, hV⟩ : ∃ V, invP (P : Int) x = V := ⟨_, rfl⟩
              rw [hV] at HGS hinv
              have HINV := Lib.hid hinv
              obtain ⟨hv1, hv2, hv3⟩ : 1 ≤ V ∧ V ≤ 4 ∧ V < P := ⟨hinv.2.1, hinv.2.2.1, hinv.2.2.2.1⟩
              have HM1 := Lib.hid (swap_res HRED.out.res htm hkm)
              have HM1x := Lib.hid (show swapR A piv.length k piv.length c = x by rw [← HX.out]; simp [swapR])
              have HM2 := Lib.hid (scale_res (t := piv.length) (v := V) hP0 HM1.out)
              clear hx0 hV hinv a1 a2 a3 b1 b2 b3
              obtain ⟨a1, a2, a3⟩ := MO_cell HH.out hkm
              obtain ⟨b1, b2, b3, _⟩ := MO_row HH.out hkm hcn
              rw [HX.out] at b1
              go_wp2_with fail
              clear a1 a2 a3 b1 b2 b3
              refine wp_region_heldS (S := fun _ => True) (by kernel_rfl) ?_
              have HB := HH.out.to (w' := World.drew _) (ext_drew' (ext_refl _))
              clear HH
              generalize World.drew _ = wd at HB ⊢
              obtain ⟨a1, a2, a3⟩ := MO_cell HB hkm
              obtain ⟨t1, t2, t3⟩ := MO_cell HB htm
              refine' takeS (i := 0) (v := _) rfl (by kernel_rfl) (by kernel_rfl) (by kernel_rfl) (fun _ _ _ h => h) (by kernel_rfl) (fun wb hwb => ?_) trivial ?_
              rotate_left
              · (go_simp; try rfl)
              try simp only [List.getElem_toArray]
              try simp only [List.getElem_cons_succ]
              try simp only [List.getElem_cons_zero]
              try simp only [Act.put]
              try simp only [List.setIfInBounds_toArray]
              try simp only [List.set_cons_succ]
              try simp only [List.set_cons_zero]
              refine' takeS (i := 1) (v := _) rfl (by kernel_rfl) (by kernel_rfl) (by kernel_rfl) (fun _ _ _ h => h) (by kernel_rfl) (fun wb hwb => ?_) trivial ?_
              rotate_left
              · (go_simp; try rfl)
              try simp only [List.getElem_toArray]
              try simp only [List.getElem_cons_succ]
              try simp only [List.getElem_cons_zero]
              try simp only [Act.put]
              try simp only [List.setIfInBounds_toArray]
              try simp only [List.set_cons_succ]
              try simp only [List.set_cons_zero]
              refine' takeS (i := 2) (v := _) rfl (by kernel_rfl) (by kernel_rfl) (by kernel_rfl) (fun _ _ _ h => h) (by kernel_rfl) (fun wb hwb => ?_) trivial ?_
              rotate_left
              · (go_simp; try rfl)
              try simp only [List.getElem_toArray]
              try simp only [List.getElem_cons_succ]
              try simp only [List.getElem_cons_zero]
              try simp only [Act.put]
              try simp only [List.setIfInBounds_toArray]
              try simp only [List.set_cons_succ]
              try simp only [List.set_cons_zero]
              refine' takeS (i := 3) (v := _) rfl (by kernel_rfl) (by kernel_rfl) (by kernel_rfl) (fun _ _ _ h => h) (by kernel_rfl) (fun wb hwb => ?_) trivial ?_
              rotate_left
              · (go_simp; try rfl)
              try simp only [List.getElem_toArray]
              try simp only [List.getElem_cons_succ]
              try simp only [List.getElem_cons_zero]
              try simp only [Act.put]
              try simp only [List.setIfInBounds_toArray]
              try simp only [List.set_cons_succ]
              try simp only [List.set_cons_zero]
              refine' takeS (i := 4) (v := _) rfl (by kernel_rfl) (by kernel_rfl) (by kernel_rfl) (fun _ _ _ h => h) (by kernel_rfl) (fun wb hwb => ?_) trivial ?_
              rotate_left
              · (go_simp; try rfl)
              try simp only [List.getElem_toArray]
              try simp only [List.getElem_cons_succ]
              try simp only [List.getElem_cons_zero]
              try simp only [Act.put]
              try simp only [List.setIfInBounds_toArray]
              try simp only [List.set_cons_succ]
              try simp only [List.set_cons_zero]
              refine' takeS (i := 5) (v := _) rfl (by kernel_rfl) (by kernel_rfl) (by kernel_rfl) (fun _ _ _ h => h) (by kernel_rfl) (fun wb hwb => ?_) trivial ?_
              rotate_left
              · (go_simp; try rfl)
              try simp only [List.getElem_toArray]
              try simp only [List.getElem_cons_succ]
              try simp only [List.getElem_cons_zero]
              try simp only [Act.put]
              try simp only [List.setIfInBounds_toArray]
              try simp only [List.set_cons_succ]
              try simp only [List.set_cons_zero]
              refine' takeS (i := 6) (v := _) rfl (by kernel_rfl) (by kernel_rfl) (by kernel_rfl) (fun _ _ _ h => h) (by kernel_rfl) (fun wb hwb => ?_) trivial ?_
              rotate_left
              · (go_simp; try rfl)
              try simp only [List.getElem_toArray]
              try simp only [List.getElem_cons_succ]
              try simp only [List.getElem_cons_zero]
              try simp only [Act.put]
              try simp only [List.setIfInBounds_toArray]
              try simp only [List.set_cons_succ]
              try simp only [List.set_cons_zero]
              refine' takeS (i := 8) (v := _) rfl (by kernel_rfl) (by kernel_rfl) (by kernel_rfl) (fun _ _ _ h => h) (by kernel_rfl) (fun wb hwb => ?_) trivial ?_
              rotate_left
              · (go_simp; try rfl)
              try simp only [List.getElem_toArray]
              try simp only [List.getElem_cons_succ]
              try simp only [List.getElem_cons_zero]
              try simp only [Act.put]
              try simp only [List.setIfInBounds_toArray]
              try simp only [List.set_cons_succ]
              try simp only [List.set_cons_zero]
              refine' takeS (i := 9) (v := _) rfl (by kernel_rfl) (by kernel_rfl) (by kernel_rfl) (fun _ _ _ h => h) (by kernel_rfl) (fun wb hwb => ?_) trivial ?_
              rotate_left
              · (go_simp; try rfl)
              try simp only [List.getElem_toArray]
              try simp only [List.getElem_cons_succ]
              try simp only [List.getElem_cons_zero]
              try simp only [Act.put]
              try simp only [List.setIfInBounds_toArray]
              try simp only [List.set_cons_succ]
              try simp only [List.set_cons_zero]
              refine' takeS (i := 10) (v := _) rfl (by kernel_rfl) (by kernel_rfl) (by kernel_rfl) (fun _ _ _ h => h) (by kernel_rfl) (fun wb hwb => ?_) trivial ?_
              rotate_left
              · (go_simp; try rfl)
              try simp only [List.getElem_toArray]
              try simp only [List.getElem_cons_succ]
              try simp only [List.getElem_cons_zero]
              try simp only [Act.put]
              try simp only [List.setIfInBounds_toArray]
              try simp only [List.set_cons_succ]
              try simp only [List.set_cons_zero]
              refine forkE (i := 7) (j := 11) rfl rfl (by kernel_rfl) (by kernel_rfl) (by kernel_rfl) (fun K' hK' => ?_) (fun K' hK' => ?_)
              · go_wp2_with fail
                refine hK'.out _ _ trivial ?_
                clear hK' K'
                refine nextE (i := 11) rfl (by kernel_rfl) (by kernel_rfl) (fun K' hK' => ?_)
                go_wp2_with fail
                refine hK'.out _ _ trivial ?_
                clear hK' K'
                refine' takeS (i := 12) (v := _) rfl (by kernel_rfl) (by kernel_rfl) (by kernel_rfl) (fun _ _ _ h => h) (by kernel_rfl) (fun wb hwb => ?_) trivial ?_
                rotate_left
                · (go_simp; try rfl)
                try simp only [List.getElem_toArray]
                try simp only [List.getElem_cons_succ]
                try simp only [List.getElem_cons_zero]
                try simp only [Act.put]
                try simp only [List.setIfInBounds_toArray]
                try simp only [List.set_cons_succ]
                try simp only [List.set_cons_zero]
                have HB2 := MO_put HB piv.length (slR ρ κ n k)
                obtain ⟨u1, u2, u3⟩ := MO_cell HB2 hkm
                have HB3 : MH W0 _ g cap (sw piv.length k ρ) (sw piv.length k κ) m n (swapR A piv.length k) _ := MO_swap htm hkm (MO_put HB2 k (slR ρ κ n piv.length))
                have HB4 := Lib.hid HB3
                clear HB HB2 HB3
                refine nextE (i := 13) rfl (by kernel_rfl) (by kernel_rfl) (fun K' hK' => ?_)
                go_wp2_with fail
                refine hK'.out _ _ trivial ?_
                clear hK' K'
                refine' takeS (i := 14) (v := _) rfl (by kernel_rfl) (by kernel_rfl) (by kernel_rfl) (fun _ _ _ h => h) (by kernel_rfl) (fun wb hwb => ?_) trivial ?_
                rotate_left
                · (go_simp; try rfl)
                try simp only [List.getElem_toArray]
                try simp only [List.getElem_cons_succ]
                try simp only [List.getElem_cons_zero]
                try simp only [Act.put]
                try simp only [List.setIfInBounds_toArray]
                try simp only [List.set_cons_succ]
                try simp only [List.set_cons_zero]
                refine nextE (i := 15) rfl (by kernel_rfl) (by kernel_rfl) (fun K' hK' => ?_)
                go_wp2_with fail
                refine hK'.out _ _ trivial ?_
                clear hK' K'
                refine wpAnyH_done (by kernel_rfl) ?_ _
                clear a1 a2 a3 t1 t2 t3 u1 u2 u3
                generalize World.setCell (World.setCell _ _ _) _ _ = w2 at HB4 ⊢
                obtain ⟨ρ2, hρ⟩ : ∃ ρ2, sw piv.length k ρ = ρ2 := ⟨_, rfl⟩
                obtain ⟨κ2, hκ⟩ : ∃ κ2, sw piv.length k κ = κ2 := ⟨_, rfl⟩
                obtain ⟨M1, hM1⟩ : ∃ M1, swapR A piv.length k = M1 := ⟨_, rfl⟩
                rw [hρ, hκ, hM1] at HB4
                rw [hM1] at HM1 HM1x HGS HM2
                clear hρ hκ hM1
                obtain ⟨a1, a2, a3⟩ := MO_cell HB4.out htm
                obtain ⟨b1, b2, b3, _⟩ := MO_row HB4.out htm hcn
                rw [HM1x.out] at b1
                go_wp2_with fail
                go_loopw [11] (fun u w3 => ∃ y : Int, u = .int .i64 y ∧ 1 ≤ y ∧ y ≤ V ∧ w3 = w2) (fun u _ => 5 - (intOf u).toNat)
                case atStart => exact ⟨1, rfl, by omega, hv1, rfl⟩
                case round =>
                  obtain ⟨y, rfl, hy1, hy2, rfl⟩ := hrel
                  have hms := mul_small (a := y) (b := x) (by omega) (by omega) (by omega) (by omega)
                  have w1 : IntKind.i64.wrap (y * x) = y * x := IntWalk.i64_in _ (by omega)
                  have htm' : (y * x).tmod (P : Int) = x * y % (P : Int) := by rw [Int.tmod_eq_emod_of_nonneg hms.1, Int.mul_comm]
                  by_cases hyV : y = V
                  · have hne : (x * y % (P : Int) != 1) = false := by rw [hyV, HINV.out.1]; rfl
                    obtain rfl : V = y := hyV.symm
                    clear hyV
                    go_wp2_with fail
                    clear w1 htm' hne hms hy1 hy2 a1 a2 a3 b1 b2 b3
                    go_loopw [84] (fun u w3 => ∃ j : Nat, u = .int .i64 j ∧ j ≤ n ∧ MH W0 w3 g cap ρ2 κ2 m n (scTo P M1 piv.length V j) (rowI (.slice pa piv.length pc) (castL piv) :: L)) (fun u _ => n - (intOf u).toNat)
                    case atStart => exact ⟨0, rfl, Nat.zero_le _, by rw [scTo_zero]; exact HB4.out⟩
                    case round =>
                      clear HB4
                      obtain ⟨j, rfl, hjn, H⟩ := hrel
                      by_cases hj : j < n
                      · obtain ⟨z, hz⟩ : ∃ z, M1 piv.length j = z := ⟨_, rfl⟩
                        have hzb := HM1.out piv.length htm j hj
                        rw [hz] at hzb
                        have HZV := Lib.hid hz
                        obtain ⟨a1, a2, a3⟩ := MO_cell H htm
                        obtain ⟨b1, b2, b3, _⟩ := MO_row H htm hj
                        rw [scTo_at, hz] at b1
                        have hms := mul_small (a := z) (b := V) (by omega) (by omega) (by omega) (by omega)
                        have w1 : IntKind.i64.wrap (z * V) = z * V := IntWalk.i64_in _ (by omega)
                        have w1' : wrap64 (z * V) = z * V := by simp only [wrap64]; omega
                        have htm' : (z * V).tmod (P : Int) = z * V % (P : Int) := Int.tmod_eq_emod_of_nonneg hms.1
                        clear hz
                        go_wp2_with fail
                        have hPz : ((P : Int) == 0) = false := beq_eq_false_iff_ne.2 (by omega)
                        have hPz2 : ¬ ((P : Int) = 0) := by omega
                        go_still_tail 17, (by kernel_rfl)
                        change wpList _ _ _ _ _ wr.drew
                        have H2 := H.to (w' := wr.drew) (by repeat first | apply wxr | with_reducible assumption | apply wxe | apply wxa | apply wxd)
                        clear a1 a2 a3 b1 b2 b3 H
                        generalize wr.drew = w4 at H2 ⊢
                        obtain ⟨a1, a2, a3⟩ := MO_cell H2 htm
                        obtain ⟨b1, b2, b3, b4⟩ := MO_row H2 htm hj
                        have H3 := Lib.hid (b4 (z * V % P))
                        clear b4 H2
                        go_wp2_with fail
                        go_roundw
                        case rel => exact ⟨j + 1, int_succ j, hj, by rw [← scTo_step, HZV.out]; exact H3.out⟩
                        case measure => simp [intOf]; omega
                      · have HJ := Lib.hid (show j = n by omega)
                        have HC := Lib.hid (show MH W0 wr g cap ρ2 κ2 m n (scaleR P M1 piv.length V) (rowI (.slice pa piv.length pc) (castL piv) :: L) by
                          have e := MO_congr (g := g) (cap := cap) (φ := slR ρ2 κ2 n) (ρ := ρ2) (κ := κ2) (L := rowI (.slice pa piv.length pc) (castL piv) :: L) (M := scTo P M1 piv.length V j) (M' := scaleR P M1 piv.length V) (m := m) (n := n) fun i _ j' hj' => by rw [HJ.out]; exact scTo_all hj'
                          rw [MH, ← e]; exact H)
                        clear H
                        obtain ⟨M2, hM2⟩ : ∃ M2, scaleR (P : Int) M1 piv.length V = M2 := ⟨_, rfl⟩
                        rw [hM2] at HC HGS HM2
                        clear hM2
                        go_wp2_with fail
                        go_loopw [107] (fun u w5 => ∃ i : Nat, u = .int .i64 i ∧ i ≤ m ∧ MH W0 w5 g cap ρ2 κ2 m n (elIn P M2 piv.length c i 0) (rowI (.slice pa piv.length pc) (castL piv) :: L)) (fun u _ => m - (intOf u).toNat)
                        case atStart => exact ⟨0, rfl, Nat.zero_le _, by rw [elIn_zero]; exact HC.out⟩
                        case round =>
                          clear HC
                          obtain ⟨i, rfl, him, H⟩ := hrel
                          by_cases hi : i < m
                          · obtain ⟨f, hf⟩ : ∃ f, M2 i c = f := ⟨_, rfl⟩
                            have hfb := HM2.out i hi c hcn
                            rw [hf] at hfb
                            have HFF := Lib.hid hf
                            obtain ⟨a1, a2, a3⟩ := MO_cell H hi
                            obtain ⟨b1, b2, b3, _⟩ := MO_row H hi hcn
                            rw [elIn_lo, hf] at b1
                            clear hf
                            have HFB := Lib.hid hfb
                            by_cases hit : i = piv.length
                            · have hbt : ((i : Int) == (piv.length : Int)) = true := beq_iff_eq.2 (by omega)
                              have HC := Lib.hid (show MH W0 wr g cap ρ2 κ2 m n (elIn P M2 piv.length c (i + 1) 0) (rowI (.slice pa piv.length pc) (castL piv) :: L) by
                                have e := MO_congr (g := g) (cap := cap) (φ := slR ρ2 κ2 n) (ρ := ρ2) (κ := κ2) (L := rowI (.slice pa piv.length pc) (castL piv) :: L) (M := elIn P M2 piv.length c i 0) (M' := elIn P M2 piv.length c (i + 1) 0) (m := m) (n := n) fun i' _ j' hj' => elIn_skip HM2.out hP0 hi (.inl hit) hj'
                                rw [MH, ← e]; exact H)
                              clear H hit
                              go_wp2_with fail
                              go_roundw
                              case rel => exact ⟨i + 1, int_succ i, hi, HC.out⟩
                              case measure => simp [intOf]; omega
                            · have hbt : ((i : Int) == (piv.length : Int)) = false := beq_eq_false_iff_ne.2 (by omega)
                              by_cases hf0 : f = 0
                              · have hbf : (f == (0 : Int)) = true := beq_iff_eq.2 hf0
                                have HC := Lib.hid (show MH W0 wr g cap ρ2 κ2 m n (elIn P M2 piv.length c (i + 1) 0) (rowI (.slice pa piv.length pc) (castL piv) :: L) by
                                  have e := MO_congr (g := g) (cap := cap) (φ := slR ρ2 κ2 n) (ρ := ρ2) (κ := κ2) (L := rowI (.slice pa piv.length pc) (castL piv) :: L) (M := elIn P M2 piv.length c i 0) (M' := elIn P M2 piv.length c (i + 1) 0) (m := m) (n := n) fun i' _ j' hj' => elIn_skip HM2.out hP0 hi (.inr (HFF.out.trans hf0)) hj'
                                  rw [MH, ← e]; exact H)
                                clear H hf0 hfb
                                go_wp2_with fail
                                go_roundw
                                case rel => exact ⟨i + 1, int_succ i, hi, HC.out⟩
                                case measure => simp [intOf]; omega
                              · have hbf : (f == (0 : Int)) = false := beq_eq_false_iff_ne.2 hf0
                                have HIT := Lib.hid hit
                                have HH := Lib.hid H
                                clear H hf0
                                go_wp2_with fail
                                clear a1 a2 a3 b1 b2 b3
                                go_loopw [129] (fun u w6 => ∃ j : Nat, u = .int .i64 j ∧ j ≤ n ∧ MH W0 w6 g cap ρ2 κ2 m n (elIn P M2 piv.length c i j) (rowI (.slice pa piv.length pc) (castL piv) :: L)) (fun u _ => n - (intOf u).toNat)
                                case atStart => exact ⟨0, rfl, Nat.zero_le _, HH.out⟩
                                case round =>
                                  clear HH
                                  obtain ⟨j, rfl, hjn, H⟩ := hrel
                                  by_cases hj : j < n
                                  · obtain ⟨a, ha⟩ : ∃ a, M2 i j = a := ⟨_, rfl⟩
                                    obtain ⟨b, hb⟩ : ∃ b, M2 piv.length j = b := ⟨_, rfl⟩
                                    have hab := HM2.out i hi j hj
                                    have hbb := HM2.out piv.length htm j hj
                                    rw [ha] at hab
                                    rw [hb] at hbb
                                    have HAV := Lib.hid ha
                                    have HBV := Lib.hid hb
                                    obtain ⟨a1, a2, a3⟩ := MO_cell H hi
                                    obtain ⟨t1, t2, t3⟩ := MO_cell H htm
                                    obtain ⟨b1, b2, b3, _⟩ := MO_row H hi hj
                                    obtain ⟨d1, d2, d3, _⟩ := MO_row H htm hj
                                    rw [elIn_at, ha] at b1
                                    rw [elIn_t, hb] at d1
                                    have hfb := HFB.out
                                    have hms := mul_small (a := (P : Int) - f) (b := b) (by omega) (by omega) (by omega) (by omega)
                                    have w1 : IntKind.i64.wrap ((P : Int) - f) = (P : Int) - f := IntWalk.i64_in _ (by omega)
                                    have w2 : IntKind.i64.wrap (((P : Int) - f) * b) = ((P : Int) - f) * b := IntWalk.i64_in _ (by omega)
                                    have w3 : IntKind.i64.wrap (a + ((P : Int) - f) * b) = a + ((P : Int) - f) * b := IntWalk.i64_in _ (by omega)
                                    have w1' : wrap64 ((P : Int) - f) = (P : Int) - f := by simp only [wrap64]; omega
                                    have w2' : wrap64 (((P : Int) - f) * b) = ((P : Int) - f) * b := by simp only [wrap64]; omega
                                    have w3' : wrap64 (a + ((P : Int) - f) * b) = a + ((P : Int) - f) * b := by simp only [wrap64]; omega
                                    have htm' : (a + ((P : Int) - f) * b).tmod (P : Int) = (a + ((P : Int) - f) * b) % (P : Int) := Int.tmod_eq_emod_of_nonneg (by omega)
                                    clear ha hb hfb
                                    go_wp2_with fail
                                    have hPz : ((P : Int) == 0) = false := beq_eq_false_iff_ne.2 (by omega)
                                    have hPz2 : ¬ ((P : Int) = 0) := by omega
                                    go_still_tail 27, (by kernel_rfl)
                                    change wpList _ _ _ _ _ wr.drew
                                    have H2 := H.to (w' := wr.drew) (by repeat first | apply wxr | with_reducible assumption | apply wxe | apply wxa | apply wxd)
                                    clear a1 a2 a3 b1 b2 b3 t1 t2 t3 d1 d2 d3 H
                                    generalize wr.drew = w4 at H2 ⊢
                                    obtain ⟨a1, a2, a3⟩ := MO_cell H2 hi
                                    obtain ⟨t1, t2, t3⟩ := MO_cell H2 htm
                                    obtain ⟨b1, b2, b3, b4⟩ := MO_row H2 hi hj
                                    obtain ⟨d1, d2, d3, _⟩ := MO_row H2 htm hj
                                    have H3 := Lib.hid (b4 ((a + ((P : Int) - f) * b) % P))
                                    clear b4 H2
                                    go_wp2_with fail
                                    go_roundw
                                    case rel => exact ⟨j + 1, int_succ j, hj, by rw [← elIn_step HIT.out, HAV.out, HBV.out, HFF.out]; exact H3.out⟩
                                    case measure => simp [intOf]; omega
                                  · have HJ := Lib.hid (show j = n by omega)
                                    have HC := Lib.hid (show MH W0 wr g cap ρ2 κ2 m n (elIn P M2 piv.length c (i + 1) 0) (rowI (.slice pa piv.length pc) (castL piv) :: L) by
                                      have e := MO_congr (g := g) (cap := cap) (φ := slR ρ2 κ2 n) (ρ := ρ2) (κ := κ2) (L := rowI (.slice pa piv.length pc) (castL piv) :: L) (M := elIn P M2 piv.length c i j) (M' := elIn P M2 piv.length c (i + 1) 0) (m := m) (n := n) fun i' _ j' hj' => by rw [HJ.out]; exact elIn_next hj'
                                      rw [MH, ← e]; exact H)
                                    clear H
                                    go_wp2_with fail
                                    go_roundw
                                    case rel => exact ⟨i + 1, int_succ i, hi, HC.out⟩
                                    case measure => simp [intOf]; omega
                          · have HI := Lib.hid (show i = m by omega)
                            have HC := Lib.hid (show MH W0 wr g cap ρ2 κ2 m n (elimR P M2 piv.length c) (rowI (.slice pa piv.length pc) (castL piv) :: L) by
                              have e := MO_congr (g := g) (cap := cap) (φ := slR ρ2 κ2 n) (ρ := ρ2) (κ := κ2) (L := rowI (.slice pa piv.length pc) (castL piv) :: L) (M := elIn P M2 piv.length c i 0) (M' := elimR P M2 piv.length c) (m := m) (n := n) fun i' hi' j' _ => by rw [HI.out]; exact elIn_all hi'
                              rw [MH, ← e]; exact H)
                            have HR := Lib.hid (HC.out.front MO_last)
                            clear H HC
                            have hpl : piv.length ≤ 100000 := by omega
                            go_wp2_with (first | (at_builtin; refine wpList_append_held (m := 1) rfl _ _ _ rfl elemInt (HR.out.to (by repeat first | apply wxr | with_reducible assumption | apply wxe | apply wxa | apply wxd)) rfl rfl (Sl_new1 _ _ _) (one_lit _) (by rw [castL_len]; unfold maxLen; omega) (by rw [castL_len]; omega) ?_; intro v' w' H7; have H8 := Lib.hid (Held.front H7.snocN MO_last.symm); clear H7))
                            go_roundw
                            case rel => exact ⟨v', c + 1, ρ2, κ2, rfl, hlt, int_succ c, by rw [HGS.out]; exact H8.out⟩
                            case measure => simp [intOf]; omega
                  · have hne : (x * y % (P : Int) != 1) = true := bne_iff_ne.2 (HINV.out.2.2.2.2 y hy1 (by omega))
                    have hyV2 : y + 1 ≤ V := by omega
                    clear hyV
                    go_wp2_with fail
                    go_roundw
                    case rel => exact ⟨y + 1, rfl, by omega, hyV2, by first | rfl | trivial⟩
                    case measure => simp [intOf]; omega
              · go_wp2_with fail
                refine hK'.out _ _ trivial ?_
                clear hK' K'
                refine nextE (i := 7) rfl (by kernel_rfl) (by kernel_rfl) (fun K' hK' => ?_)
                go_wp2_with fail
                refine hK'.out _ _ trivial ?_
                clear hK' K'
                refine' takeS (i := 12) (v := _) rfl (by kernel_rfl) (by kernel_rfl) (by kernel_rfl) (fun _ _ _ h => h) (by kernel_rfl) (fun wb hwb => ?_) trivial ?_
                rotate_left
                · (go_simp; try rfl)
                try simp only [List.getElem_toArray]
                try simp only [List.getElem_cons_succ]
                try simp only [List.getElem_cons_zero]
                try simp only [Act.put]
                try simp only [List.setIfInBounds_toArray]
                try simp only [List.set_cons_succ]
                try simp only [List.set_cons_zero]
                have HB2 := MO_put HB piv.length (slR ρ κ n k)
                obtain ⟨u1, u2, u3⟩ := MO_cell HB2 hkm
                have HB3 : MH W0 _ g cap (sw piv.length k ρ) (sw piv.length k κ) m n (swapR A piv.length k) _ := MO_swap htm hkm (MO_put HB2 k (slR ρ κ n piv.length))
                have HB4 := Lib.hid HB3
                clear HB HB2 HB3
                refine nextE (i := 13) rfl (by kernel_rfl) (by kernel_rfl) (fun K' hK' => ?_)
                go_wp2_with fail
                refine hK'.out _ _ trivial ?_
                clear hK' K'
                refine' takeS (i := 14) (v := _) rfl (by kernel_rfl) (by kernel_rfl) (by kernel_rfl) (fun _ _ _ h => h) (by kernel_rfl) (fun wb hwb => ?_) trivial ?_
                rotate_left
                · (go_simp; try rfl)
                try simp only [List.getElem_toArray]
                try simp only [List.getElem_cons_succ]
                try simp only [List.getElem_cons_zero]
                try simp only [Act.put]
                try simp only [List.setIfInBounds_toArray]
                try simp only [List.set_cons_succ]
                try simp only [List.set_cons_zero]
                refine nextE (i := 15) rfl (by kernel_rfl) (by kernel_rfl) (fun K' hK' => ?_)
                go_wp2_with fail
                refine hK'.out _ _ trivial ?_
                clear hK' K'
                refine wpAnyH_done (by kernel_rfl) ?_ _
                clear a1 a2 a3 t1 t2 t3 u1 u2 u3
                generalize World.setCell (World.setCell _ _ _) _ _ = w2 at HB4 ⊢
                obtain ⟨ρ2, hρ⟩ : ∃ ρ2, sw piv.length k ρ = ρ2 := ⟨_, rfl⟩
                obtain ⟨κ2, hκ⟩ : ∃ κ2, sw piv.length k κ = κ2 := ⟨_, rfl⟩
                obtain ⟨M1, hM1⟩ : ∃ M1, swapR A piv.length k = M1 := ⟨_, rfl⟩
                rw [hρ, hκ, hM1] at HB4
                rw [hM1] at HM1 HM1x HGS HM2
                clear hρ hκ hM1
                obtain ⟨a1, a2, a3⟩ := MO_cell HB4.out htm
                obtain ⟨b1, b2, b3, _⟩ := MO_row HB4.out htm hcn
                rw [HM1x.out] at b1
                go_wp2_with fail
                go_loopw [11] (fun u w3 => ∃ y : Int, u = .int .i64 y ∧ 1 ≤ y ∧ y ≤ V ∧ w3 = w2) (fun u _ => 5 - (intOf u).toNat)
                case atStart => exact ⟨1, rfl, by omega, hv1, rfl⟩
                case round =>
                  obtain ⟨y, rfl, hy1, hy2, rfl⟩ := hrel
                  have hms := mul_small (a := y) (b := x) (by omega) (by omega) (by omega) (by omega)
                  have w1 : IntKind.i64.wrap (y * x) = y * x := IntWalk.i64_in _ (by omega)
                  have htm' : (y * x).tmod (P : Int) = x * y % (P : Int) := by rw [Int.tmod_eq_emod_of_nonneg hms.1, Int.mul_comm]
                  by_cases hyV : y = V
                  · have hne : (x * y % (P : Int) != 1) = false := by rw [hyV, HINV.out.1]; rfl
                    obtain rfl : V = y := hyV.symm
                    clear hyV
                    go_wp2_with fail
                    clear w1 htm' hne hms hy1 hy2 a1 a2 a3 b1 b2 b3
                    go_loopw [84] (fun u w3 => ∃ j : Nat, u = .int .i64 j ∧ j ≤ n ∧ MH W0 w3 g cap ρ2 κ2 m n (scTo P M1 piv.length V j) (rowI (.slice pa piv.length pc) (castL piv) :: L)) (fun u _ => n - (intOf u).toNat)
                    case atStart => exact ⟨0, rfl, Nat.zero_le _, by rw [scTo_zero]; exact HB4.out⟩
                    case round =>
                      clear HB4
                      obtain ⟨j, rfl, hjn, H⟩ := hrel
                      by_cases hj : j < n
                      · obtain ⟨z, hz⟩ : ∃ z, M1 piv.length j = z := ⟨_, rfl⟩
                        have hzb := HM1.out piv.length htm j hj
                        rw [hz] at hzb
                        have HZV := Lib.hid hz
                        obtain ⟨a1, a2, a3⟩ := MO_cell H htm
                        obtain ⟨b1, b2, b3, _⟩ := MO_row H htm hj
                        rw [scTo_at, hz] at b1
                        have hms := mul_small (a := z) (b := V) (by omega) (by omega) (by omega) (by omega)
                        have w1 : IntKind.i64.wrap (z * V) = z * V := IntWalk.i64_in _ (by omega)
                        have w1' : wrap64 (z * V) = z * V := by simp only [wrap64]; omega
                        have htm' : (z * V).tmod (P : Int) = z * V % (P : Int) := Int.tmod_eq_emod_of_nonneg hms.1
                        clear hz
                        go_wp2_with fail
                        have hPz : ((P : Int) == 0) = false := beq_eq_false_iff_ne.2 (by omega)
                        have hPz2 : ¬ ((P : Int) = 0) := by omega
                        go_still_tail 17, (by kernel_rfl)
                        change wpList _ _ _ _ _ wr.drew
                        have H2 := H.to (w' := wr.drew) (by repeat first | apply wxr | with_reducible assumption | apply wxe | apply wxa | apply wxd)
                        clear a1 a2 a3 b1 b2 b3 H
                        generalize wr.drew = w4 at H2 ⊢
                        obtain ⟨a1, a2, a3⟩ := MO_cell H2 htm
                        obtain ⟨b1, b2, b3, b4⟩ := MO_row H2 htm hj
                        have H3 := Lib.hid (b4 (z * V % P))
                        clear b4 H2
                        go_wp2_with fail
                        go_roundw
                        case rel => exact ⟨j + 1, int_succ j, hj, by rw [← scTo_step, HZV.out]; exact H3.out⟩
                        case measure => simp [intOf]; omega
                      · have HJ := Lib.hid (show j = n by omega)
                        have HC := Lib.hid (show MH W0 wr g cap ρ2 κ2 m n (scaleR P M1 piv.length V) (rowI (.slice pa piv.length pc) (castL piv) :: L) by
                          have e := MO_congr (g := g) (cap := cap) (φ := slR ρ2 κ2 n) (ρ := ρ2) (κ := κ2) (L := rowI (.slice pa piv.length pc) (castL piv) :: L) (M := scTo P M1 piv.length V j) (M' := scaleR P M1 piv.length V) (m := m) (n := n) fun i _ j' hj' => by rw [HJ.out]; exact scTo_all hj'
                          rw [MH, ← e]; exact H)
                        clear H
                        obtain ⟨M2, hM2⟩ : ∃ M2, scaleR (P : Int) M1 piv.length V = M2 := ⟨_, rfl⟩
                        rw [hM2] at HC HGS HM2
                        clear hM2
                        go_wp2_with fail
                        go_loopw [107] (fun u w5 => ∃ i : Nat, u = .int .i64 i ∧ i ≤ m ∧ MH W0 w5 g cap ρ2 κ2 m n (elIn P M2 piv.length c i 0) (rowI (.slice pa piv.length pc) (castL piv) :: L)) (fun u _ => m - (intOf u).toNat)
                        case atStart => exact ⟨0, rfl, Nat.zero_le _, by rw [elIn_zero]; exact HC.out⟩
                        case round =>
                          clear HC
                          obtain ⟨i, rfl, him, H⟩ := hrel
                          by_cases hi : i < m
                          · obtain ⟨f, hf⟩ : ∃ f, M2 i c = f := ⟨_, rfl⟩
                            have hfb := HM2.out i hi c hcn
                            rw [hf] at hfb
                            have HFF := Lib.hid hf
                            obtain ⟨a1, a2, a3⟩ := MO_cell H hi
                            obtain ⟨b1, b2, b3, _⟩ := MO_row H hi hcn
                            rw [elIn_lo, hf] at b1
                            clear hf
                            have HFB := Lib.hid hfb
                            by_cases hit : i = piv.length
                            · have hbt : ((i : Int) == (piv.length : Int)) = true := beq_iff_eq.2 (by omega)
                              have HC := Lib.hid (show MH W0 wr g cap ρ2 κ2 m n (elIn P M2 piv.length c (i + 1) 0) (rowI (.slice pa piv.length pc) (castL piv) :: L) by
                                have e := MO_congr (g := g) (cap := cap) (φ := slR ρ2 κ2 n) (ρ := ρ2) (κ := κ2) (L := rowI (.slice pa piv.length pc) (castL piv) :: L) (M := elIn P M2 piv.length c i 0) (M' := elIn P M2 piv.length c (i + 1) 0) (m := m) (n := n) fun i' _ j' hj' => elIn_skip HM2.out hP0 hi (.inl hit) hj'
                                rw [MH, ← e]; exact H)
                              clear H hit
                              go_wp2_with fail
                              go_roundw
                              case rel => exact ⟨i + 1, int_succ i, hi, HC.out⟩
                              case measure => simp [intOf]; omega
                            · have hbt : ((i : Int) == (piv.length : Int)) = false := beq_eq_false_iff_ne.2 (by omega)
                              by_cases hf0 : f = 0
                              · have hbf : (f == (0 : Int)) = true := beq_iff_eq.2 hf0
                                have HC := Lib.hid (show MH W0 wr g cap ρ2 κ2 m n (elIn P M2 piv.length c (i + 1) 0) (rowI (.slice pa piv.length pc) (castL piv) :: L) by
                                  have e := MO_congr (g := g) (cap := cap) (φ := slR ρ2 κ2 n) (ρ := ρ2) (κ := κ2) (L := rowI (.slice pa piv.length pc) (castL piv) :: L) (M := elIn P M2 piv.length c i 0) (M' := elIn P M2 piv.length c (i + 1) 0) (m := m) (n := n) fun i' _ j' hj' => elIn_skip HM2.out hP0 hi (.inr (HFF.out.trans hf0)) hj'
                                  rw [MH, ← e]; exact H)
                                clear H hf0 hfb
                                go_wp2_with fail
                                go_roundw
                                case rel => exact ⟨i + 1, int_succ i, hi, HC.out⟩
                                case measure => simp [intOf]; omega
                              · have hbf : (f == (0 : Int)) = false := beq_eq_false_iff_ne.2 hf0
                                have HIT := Lib.hid hit
                                have HH := Lib.hid H
                                clear H hf0
                                go_wp2_with fail
                                clear a1 a2 a3 b1 b2 b3
                                go_loopw [129] (fun u w6 => ∃ j : Nat, u = .int .i64 j ∧ j ≤ n ∧ MH W0 w6 g cap ρ2 κ2 m n (elIn P M2 piv.length c i j) (rowI (.slice pa piv.length pc) (castL piv) :: L)) (fun u _ => n - (intOf u).toNat)
                                case atStart => exact ⟨0, rfl, Nat.zero_le _, HH.out⟩
                                case round =>
                                  clear HH
                                  obtain ⟨j, rfl, hjn, H⟩ := hrel
                                  by_cases hj : j < n
                                  · obtain ⟨a, ha⟩ : ∃ a, M2 i j = a := ⟨_, rfl⟩
                                    obtain ⟨b, hb⟩ : ∃ b, M2 piv.length j = b := ⟨_, rfl⟩
                                    have hab := HM2.out i hi j hj
                                    have hbb := HM2.out piv.length htm j hj
                                    rw [ha] at hab
                                    rw [hb] at hbb
                                    have HAV := Lib.hid ha
                                    have HBV := Lib.hid hb
                                    obtain ⟨a1, a2, a3⟩ := MO_cell H hi
                                    obtain ⟨t1, t2, t3⟩ := MO_cell H htm
                                    obtain ⟨b1, b2, b3, _⟩ := MO_row H hi hj
                                    obtain ⟨d1, d2, d3, _⟩ := MO_row H htm hj
                                    rw [elIn_at, ha] at b1
                                    rw [elIn_t, hb] at d1
                                    have hfb := HFB.out
                                    have hms := mul_small (a := (P : Int) - f) (b := b) (by omega) (by omega) (by omega) (by omega)
                                    have w1 : IntKind.i64.wrap ((P : Int) - f) = (P : Int) - f := IntWalk.i64_in _ (by omega)
                                    have w2 : IntKind.i64.wrap (((P : Int) - f) * b) = ((P : Int) - f) * b := IntWalk.i64_in _ (by omega)
                                    have w3 : IntKind.i64.wrap (a + ((P : Int) - f) * b) = a + ((P : Int) - f) * b := IntWalk.i64_in _ (by omega)
                                    have w1' : wrap64 ((P : Int) - f) = (P : Int) - f := by simp only [wrap64]; omega
                                    have w2' : wrap64 (((P : Int) - f) * b) = ((P : Int) - f) * b := by simp only [wrap64]; omega
                                    have w3' : wrap64 (a + ((P : Int) - f) * b) = a + ((P : Int) - f) * b := by simp only [wrap64]; omega
                                    have htm' : (a + ((P : Int) - f) * b).tmod (P : Int) = (a + ((P : Int) - f) * b) % (P : Int) := Int.tmod_eq_emod_of_nonneg (by omega)
                                    clear ha hb hfb
                                    go_wp2_with fail
                                    have hPz : ((P : Int) == 0) = false := beq_eq_false_iff_ne.2 (by omega)
                                    have hPz2 : ¬ ((P : Int) = 0) := by omega
                                    go_still_tail 27, (by kernel_rfl)
                                    change wpList _ _ _ _ _ wr.drew
                                    have H2 := H.to (w' := wr.drew) (by repeat first | apply wxr | with_reducible assumption | apply wxe | apply wxa | apply wxd)
                                    clear a1 a2 a3 b1 b2 b3 t1 t2 t3 d1 d2 d3 H
                                    generalize wr.drew = w4 at H2 ⊢
                                    obtain ⟨a1, a2, a3⟩ := MO_cell H2 hi
                                    obtain ⟨t1, t2, t3⟩ := MO_cell H2 htm
                                    obtain ⟨b1, b2, b3, b4⟩ := MO_row H2 hi hj
                                    obtain ⟨d1, d2, d3, _⟩ := MO_row H2 htm hj
                                    have H3 := Lib.hid (b4 ((a + ((P : Int) - f) * b) % P))
                                    clear b4 H2
                                    go_wp2_with fail
                                    go_roundw
                                    case rel => exact ⟨j + 1, int_succ j, hj, by rw [← elIn_step HIT.out, HAV.out, HBV.out, HFF.out]; exact H3.out⟩
                                    case measure => simp [intOf]; omega
                                  · have HJ := Lib.hid (show j = n by omega)
                                    have HC := Lib.hid (show MH W0 wr g cap ρ2 κ2 m n (elIn P M2 piv.length c (i + 1) 0) (rowI (.slice pa piv.length pc) (castL piv) :: L) by
                                      have e := MO_congr (g := g) (cap := cap) (φ := slR ρ2 κ2 n) (ρ := ρ2) (κ := κ2) (L := rowI (.slice pa piv.length pc) (castL piv) :: L) (M := elIn P M2 piv.length c i j) (M' := elIn P M2 piv.length c (i + 1) 0) (m := m) (n := n) fun i' _ j' hj' => by rw [HJ.out]; exact elIn_next hj'
                                      rw [MH, ← e]; exact H)
                                    clear H
                                    go_wp2_with fail
                                    go_roundw
                                    case rel => exact ⟨i + 1, int_succ i, hi, HC.out⟩
                                    case measure => simp [intOf]; omega
                          · have HI := Lib.hid (show i = m by omega)
                            have HC := Lib.hid (show MH W0 wr g cap ρ2 κ2 m n (elimR P M2 piv.length c) (rowI (.slice pa piv.length pc) (castL piv) :: L) by
                              have e := MO_congr (g := g) (cap := cap) (φ := slR ρ2 κ2 n) (ρ := ρ2) (κ := κ2) (L := rowI (.slice pa piv.length pc) (castL piv) :: L) (M := elIn P M2 piv.length c i 0) (M' := elimR P M2 piv.length c) (m := m) (n := n) fun i' hi' j' _ => by rw [HI.out]; exact elIn_all hi'
                              rw [MH, ← e]; exact H)
                            have HR := Lib.hid (HC.out.front MO_last)
                            clear H HC
                            have hpl : piv.length ≤ 100000 := by omega
                            go_wp2_with (first | (at_builtin; refine wpList_append_held (m := 1) rfl _ _ _ rfl elemInt (HR.out.to (by repeat first | apply wxr | with_reducible assumption | apply wxe | apply wxa | apply wxd)) rfl rfl (Sl_new1 _ _ _) (one_lit _) (by rw [castL_len]; unfold maxLen; omega) (by rw [castL_len]; omega) ?_; intro v' w' H7; have H8 := Lib.hid (Held.front H7.snocN MO_last.symm); clear H7))
                            go_roundw
                            case rel => exact ⟨v', c + 1, ρ2, κ2, rfl, hlt, int_succ c, by rw [HGS.out]; exact H8.out⟩
                            case measure => simp [intOf]; omega
                  · have hne : (x * y % (P : Int) != 1) = true := bne_iff_ne.2 (HINV.out.2.2.2.2 y hy1 (by omega))
                    have hyV2 : y + 1 ≤ V := by omega
                    clear hyV
                    go_wp2_with fail
                    go_roundw
                    case rel => exact ⟨y + 1, rfl, by omega, hyV2, by first | rfl | trivial⟩
                    case measure => simp [intOf]; omega
          · have hke : ((k : Int) == (m : Int)) = true := beq_iff_eq.2 (by omega)
            have HGN := Lib.hid (gs_none (p := (P : Int)) (m := m) (M := M) (c := c) (by rw [HG.out]; exact fun q h1 h2 => HZ.out q h1 (by omega)))
            go_wp2_with fail
            go_roundw
            case rel => exact ⟨_, c + 1, ρ, κ, rfl, hlt, int_succ c, by rw [HGN.out, HG.out]; exact HH.out⟩
            case measure => simp [intOf]; omega
      · have HGS := Lib.hid (gs_stop (p := (P : Int)) (m := m) (M := M) (c := c) (n := cols) (by rw [HG.out]; exact htm) hck)
        have HH := Lib.hid H
        clear hred hg H
        subst epv
        go_wp2_with fail
        go_ret
        exact ⟨_, ρ, κ, rfl, by rw [HGS.out, HG.out]; exact HH.out⟩
    · have HK := Lib.hid (show c = cols by omega)
      have HH := Lib.hid H
      clear hred hg H
      subst epv
      go_wp2_with fail
      go_ret
      exact ⟨_, ρ, κ, rfl, by rw [← HK.out, HG.out]; exact HH.out⟩
end
section
open Go.ChangeShapes Go.WideShapes Go.ChangeAt Go.RowKit
theorem l10I_any (x : Int) (P : Nat) (hP : primeB P = true) (h0 : x ≠ 0) (h1 : 0 ≤ x) (h2 : x < P) (w : World) :
    Calls Tryz.prog 169 #[.int .i64 x, .int .i64 P] w fun e w' => e = .returned (.int .i64 (invP P x)) ∧ ∃ x, w' = ext w x := by
  have hpp := primeP_of hP
  have hP5 : P ≤ 5 := by rcases hpp with h | h | h <;> omega
  have hP2 : 2 ≤ P := by rcases hpp with h | h | h <;> omega
  haveI : Pos1 P := ⟨by omega⟩
  have hinv := invP_spec hpp h0 h1 h2
  obtain ⟨V, hV⟩ : ∃ V, invP (P : Int) x = V := ⟨_, rfl⟩
  rw [hV] at hinv ⊢
  have HINV := Lib.hid hinv
  obtain ⟨hv1, hv2, hv3⟩ : 1 ≤ V ∧ V ≤ 4 ∧ V < P := ⟨hinv.2.1, hinv.2.2.1, hinv.2.2.2.1⟩
  clear hpp hinv hV h0
  go_enter Tryz.func169, Tryz.ntmps169
  go_wp2_with fail
  go_loopw [5] (fun u wr => ∃ y : Int, u = .int .i64 y ∧ 1 ≤ y ∧ y ≤ V ∧ ∃ x, wr = ext w x) (fun u _ => 5 - (intOf u).toNat)
  case atStart => exact ⟨1, rfl, by omega, hv1, (by repeat first | apply wxr | with_reducible assumption | apply wxe | apply wxa | apply wxd)⟩
  case round =>
    obtain ⟨y, rfl, hy1, hy2, xr, rfl⟩ := hrel
    have hms := mul_small (a := x) (b := y) (by omega) (by omega) (by omega) (by omega)
    have w1 : IntKind.i64.wrap (x * y) = x * y := IntWalk.i64_in _ (by omega)
    have htm' : (x * y).tmod (P : Int) = x * y % (P : Int) := Int.tmod_eq_emod_of_nonneg hms.1
    by_cases hyV : y = V
    · have hne : (x * y % (P : Int) != 1) = false := by rw [hyV, HINV.out.1]; rfl
      have HYV := Lib.hid hyV
      clear hyV
      go_wp2_with fail
      go_ret
      exact ⟨ret_int HYV.out, (by repeat first | apply wxr | with_reducible assumption | apply wxe | apply wxa | apply wxd)⟩
    · have hne : (x * y % (P : Int) != 1) = true := bne_iff_ne.2 (HINV.out.2.2.2.2 y hy1 (by omega))
      have hyV2 : y + 1 ≤ V := by omega
      clear hyV
      go_wp2_with fail
      go_roundw
      case rel => exact ⟨y + 1, rfl, by omega, hyV2, (by repeat first | apply wxr | with_reducible assumption | apply wxe | apply wxa | apply wxd)⟩
      case measure => simp [intOf]; omega
theorem l10B_any (q n : Nat) [Lt63 q] (hn : n ≤ 64) (w : World) :
    Calls Tryz.prog 136 #[.int .i64 q, .int .i64 n] w fun e w' => ∃ v', e = .returned v' ∧ Held w w' [rowI v' (tab n (bitI q))] := by
  have H0 := (Held.start w).empty 3 1
  go_enter Tryz.func136, Tryz.ntmps136
  go_wp2_with fail
  generalize World.alloc w _ = w1 at H0 ⊢
  have HH := Lib.hid H0
  clear H0
  go_loopw [5, 6] (fun u i wr => ∃ (v : Value) (k : Nat), v = u ∧ k ≤ n ∧ i = .int .i64 k ∧ Held w wr [rowI v (tab k (bitI q))]) (fun _ i _ => n - (intOf i).toNat)
  case atStart => exact ⟨_, 0, rfl, Nat.zero_le _, rfl, HH.out⟩
  case round =>
    clear HH
    obtain ⟨v, k, rfl, hk, rfl, H⟩ := hrel
    have HH := Lib.hid H
    clear H
    by_cases hlt : k < n
    · haveI : Le64 k := ⟨by omega⟩
      have hbi := bit_int q k
      have htl := tab_len k (bitI q)
      go_wp2_with (first | (at_builtin; refine wpList_append_held (m := 1) rfl _ _ _ rfl elemInt (HH.out.to (by repeat first | apply wxr | with_reducible assumption | apply wxe | apply wxa | apply wxd)) rfl rfl (Sl_new1 _ _ _) (one_lit _) (by rw [tab_len]; unfold maxLen; omega) (by rw [tab_len]; omega) ?_; intro v' w' H7; have H8 := Lib.hid H7.snoc; clear H7))
      go_roundw
      case rel => exact ⟨v', k + 1, rfl, hlt, int_succ k, by rw [tab_snoc]; exact H8.out⟩
      case measure => simp [intOf]; omega
    · have HK := Lib.hid (show k = n by omega)
      go_wp2_with fail
      go_ret
      exact ⟨_, rfl, by rw [← HK.out]; exact HH.out⟩
end
section
open Go.ChangeShapes Go.WideShapes Go.ChangeAt Go.RowKit
/-- the reference's result: a matrix of its own and the leading columns -/
def RedPost (W0 : World) (m n : Nat) (p : Int) (M : Mat) (e : Ending) (w' : World) : Prop := ∃ g cap ρ κ v', e = .returned (.tuple #[.slice (some ⟨g, 0, none⟩) m cap, v']) ∧ MH W0 w' g cap ρ κ m n (gsTo p m M n).1 [rowI v' (castL (gsTo p m M n).2)]
theorem Held.snocM {W0 w : World} {L : List Row} {v r : Value} {vs : List Value} {xss : List (List Int)} {xs : List Int} (hl : vs.length = xss.length) (H : Held W0 w (⟨v, 24, 1, xss.length + 1, vs ++ [r]⟩ :: rowI r xs :: (rowsI vs xss ++ L))) :
    Held W0 w (grpR v (vs ++ [r]) (xss ++ [xs]) ++ L) := by
  have e : grpR v (vs ++ [r]) (xss ++ [xs]) ++ L = ⟨v, 24, 1, xss.length + 1, vs ++ [r]⟩ :: (rowsI vs xss ++ (rowI r xs :: L)) := by
    rw [grpR, rowsI_snoc _ _ _ _ hl]; simp
  rw [e]
  exact H.front (List.Perm.cons _ (List.perm_middle (a := rowI r xs) (l₁ := rowsI vs xss) (l₂ := L)).symm)
theorem one_rowM (a : Option Addr) (n c : Nat) : ∀ u ∈ [Value.slice a n c], u.oneCell' = true := by intro u hu; simp at hu; subst hu; rfl
set_option maxRecDepth 100000 in
set_option maxHeartbeats 16000000 in
theorem redu_any (m n P : Nat) (M : Mat) (hP : primeB P = true) (hR : Resid P m n M) (hm0 : 0 < m) (hn0 : 0 < n) (hm : m ≤ 100000) (hn : n ≤ 100000) (v : Value) (w : World) (h : RowsAt w v (ftab m fun i => tab n (M i))) :
    Calls Tryz.prog 137 #[v, .int .i64 n, .int .i64 P] w (RedPost w m n P M) := by
  have hpp := primeP_of hP
  have hP0 : (0 : Int) < P := by rcases hpp with h | h | h <;> omega
  have hP1 : 2 ≤ P := by rcases hpp with h | h | h <;> omega
  have hP5 : P ≤ 5 := by rcases hpp with h | h | h <;> omega
  haveI : Pos1 P := ⟨by omega⟩
  have HPP := Lib.hid hpp
  have HPB := Lib.hid hP
  have HRES := Lib.hid hR
  have hlm : (ftab m fun i => tab n (M i)).length = m := ftab_len _ _
  obtain ⟨a0, b0, o0, c0, us, rfl, hc1, hc2, hc3, hcell⟩ := h.opn
  rw [hlm] at hcell hc1 ⊢
  have HC := Lib.hid hcell
  have H0 := (Held.start w).empty 24 1
  clear hpp hR hP h hcell hlm
  go_enter Tryz.func137, Tryz.ntmps137
  go_wp2_with fail
  generalize World.alloc w _ = w1 at H0 ⊢
  have HE := Lib.hid H0
  clear H0
  go_loopw [8, 9] (fun u i wr => ∃ (av : Value) (k : Nat) (avs : List Value), av = u ∧ k ≤ m ∧ i = .int .i64 k ∧ Hid (avs.length = k) ∧ Held w wr (grpR av avs (ftab k fun i => tab n (M i)) ++ [])) (fun _ i _ => m - (intOf i).toNat)
  case atStart => exact ⟨_, 0, [], rfl, Nat.zero_le _, rfl, Lib.hid rfl, HE.out⟩
  case round =>
    clear HE
    obtain ⟨av, k, avs, rfl, hk, rfl, HAV, H⟩ := hrel
    have HAL := Lib.hid (show avs.length = (ftab k fun i => tab n (M i)).length by rw [ftab_len]; exact HAV.out)
    by_cases hlt : k < m
    · obtain ⟨q1, q2, q3, q4⟩ := HC.out k hlt
      have e : rAt (ftab m fun i => tab n (M i)) k = tab n (M k) := by rw [rAt, List.getD, ftab_get _ hlt]; rfl
      rw [e] at q4
      obtain ⟨ra, rb, ro, rc, er, _, _, _, _⟩ := q4.opn
      rw [er] at q3 q4
      rw [tab_len] at q3 q4
      have q3' := H.cellO q1 q3
      have q1' : Old wr b0 := ⟨Nat.lt_of_lt_of_le q1.lt H.bel.size⟩
      have Q4 := Lib.hid q4
      have HH := Lib.hid H
      have hfl := ftab_len k fun i => tab n (M i)
      clear q4 q3 q1 H e er
      go_wp2_with (first | (at_builtin; (refine wpList_append_held rfl _ _ _ rfl elemInt ((HH.out.to (by repeat first | apply wxr | with_reducible assumption | apply wxe | apply wxa | apply wxd)).empty _ _) rfl rfl (IntsAt.mono Q4.out (HH.out.to (by repeat first | apply wxr | with_reducible assumption | apply wxe | apply wxa | apply wxd)).bel) (ints_oneCell _ _) (by rw [tab_len]; unfold maxLen; omega) (by rw [tab_len]; omega) ?_; intro v' w' H7; have H8a := H7.whole; obtain ⟨xa, xc, rfl⟩ := H8a.rowV; have H8 := Lib.hid H8a; clear H7 H8a)) | (at_builtin; refine wpList_append_held (m := 1) rfl _ _ _ rfl elemInts ((H8.out.swap).to (by repeat first | apply wxr | with_reducible assumption | apply wxe | apply wxa | apply wxd)) rfl rfl (Sl_new1 _ _ _) (one_rowM _ _ _) (by rw [ftab_len]; unfold maxLen; omega) (by rw [ftab_len]; omega) ?_; intro v2' w2' H9; have H10 := Lib.hid H9; clear H9))
      go_roundw
      case rel => exact ⟨v2', k + 1, avs ++ [.slice xa (tab n (M k)).length xc], rfl, hlt, int_succ k, Lib.hid (by rw [List.length_append, HAV.out]; rfl), by rw [ftab_succ]; exact Held.snocM HAL.out H10.out⟩
      case measure => simp [intOf]; omega
    · have HK := Lib.hid (show k = m by omega)
      rw [HK.out] at H HAL
      rw [ftab_len] at HAL
      obtain ⟨g, cap, ρ, κ, rfl, H2⟩ := MH_of HAL.out hm0 hn0 H
      have HH := Lib.hid (Held.front (Held.empty H2 3 1) MO_last.symm)
      clear H H2
      go_wp2_with fail
      generalize World.alloc wr _ = w0 at HH ⊢
      go_loopw [10, 11] (fun u i wr => ∃ (pv : Value) (c : Nat) (ρ κ : Nat → Nat), pv = u ∧ c ≤ n ∧ i = .int .i64 c ∧ MH w wr g cap ρ κ m n (gsTo P m M c).1 [rowI pv (castL (gsTo P m M c).2)]) (fun _ i _ => n - (intOf i).toNat)
      case atStart => exact ⟨_, 0, ρ, κ, rfl, Nat.zero_le _, rfl, HH.out⟩
      case round =>
        clear HH
        obtain ⟨pv, c, ρ, κ, rfl, hck, rfl, H⟩ := hrel
        have hred := gsTo_red HPP.out HRES.out c (by omega)
        obtain ⟨A, piv, hg⟩ : ∃ A piv, gsTo P m M c = (A, piv) := ⟨_, _, rfl⟩
        have HG := Lib.hid hg
        rw [hg] at hred H
        simp only at hred H
        have HRED := Lib.hid hred
        have hle := hred.le
        obtain ⟨pa, pc, epv⟩ := (H.front MO_last).rowVN
        by_cases hlt : c < n
        · by_cases htm : piv.length < m
          · have HH := Lib.hid H
            clear hred hg H
            subst epv
            go_wp2_with fail
            go_loopw [13, 14] (fun u i w2 => ∃ (t : Int) (d : Nat), u = .int .i64 t ∧ i = .int .i64 ((m : Int) - 1 - (d : Nat)) ∧ d ≤ m - piv.length ∧ Hid (Seen A c m ((m : Int) - 1 - (d : Nat)) t) ∧ w2 = wr) (fun _ i _ => (intOf i + 1 - piv.length).toNat)
            case atStart => exact ⟨-1, 0, rfl, by simp, Nat.zero_le _, Lib.hid (by have := Seen.start A c m; simpa using this), rfl⟩
            case round =>
              obtain ⟨t, d, rfl, rfl, hd, HS, rfl⟩ := hrel
              by_cases hdm : d < m - piv.length
              · obtain ⟨ii, hii⟩ : ∃ ii : Nat, (m : Int) - 1 - (d : Nat) = ii := ⟨m - 1 - d, by omega⟩
                have hiim : ii < m := by omega
                have hit : (piv.length : Int) ≤ ii := by omega
                have HII := Lib.hid hii
                rw [hii] at HS ⊢
                obtain ⟨a1, a2, a3⟩ := MO_cell HH.out hiim
                obtain ⟨b1, b2, b3, _⟩ := MO_row HH.out hiim hlt
                obtain ⟨x, hx⟩ : ∃ x, A ii c = x := ⟨_, rfl⟩
                rw [hx] at b1
                have HX := Lib.hid hx
                have hnx : Hid ((ii : Int) - 1 = (m : Int) - 1 - ((d + 1 : Nat) : Int)) := Lib.hid (by omega)
                clear hx hii
                by_cases hx0 : x = 0
                · have hz0 : (x != (0 : Int)) = false := by rw [hx0]; rfl
                  have HX0 := Lib.hid hx0
                  clear hx0
                  go_wp2_with fail
                  go_roundw
                  case rel => exact ⟨t, d + 1, rfl, congrArg (Value.int .i64) hnx.out, by omega, Lib.hid (by rw [← hnx.out]; exact HS.out.zero (HX.out.trans HX0.out)), by first | rfl | trivial⟩
                  case measure => simp [intOf]; omega
                · have hz0 : (x != (0 : Int)) = true := bne_iff_ne.2 hx0
                  have HX0 := Lib.hid hx0
                  clear hx0
                  go_wp2_with fail
                  go_roundw
                  case rel => exact ⟨ii, d + 1, rfl, congrArg (Value.int .i64) hnx.out, by omega, Lib.hid (by rw [← hnx.out]; exact Seen.here hiim (by rw [HX.out]; exact HX0.out)), by first | rfl | trivial⟩
                  case measure => simp [intOf]; omega
              · have HD := Lib.hid (show (m : Int) - 1 - (d : Nat) = (piv.length : Int) - 1 by omega)
                have hs := HS.out
                rw [HD.out] at hs
                rcases hs with ⟨e, hz⟩ | ⟨k, e, hk1, hk2, hk3, hk4⟩
                · subst e
                  have HGN := Lib.hid (gs_none (p := (P : Int)) (m := m) (M := M) (c := c) (by rw [HG.out]; exact fun q h1 h2 => hz q (by have h3 : piv.length ≤ q := h1; omega) h2))
                  clear hz HS
                  go_wp2_with fail
                  go_roundw
                  case rel => exact ⟨_, c + 1, ρ, κ, rfl, hlt, int_succ c, by rw [HGN.out, HG.out]; exact HH.out⟩
                  case measure => simp [intOf]; omega
                · subst e
                  have hk1' : piv.length ≤ k := by omega
                  obtain ⟨x, hx⟩ : ∃ x, A k c = x := ⟨_, rfl⟩
                  have HGS := Lib.hid (gs_some HG.out hk1' hk2 (fun q h1 h2 => hk4 q (by omega) h2) hk3)
                  have hxb := HRED.out.res k hk2 c hlt
                  rw [hx] at HGS hk3 hxb
                  have HX := Lib.hid hx
                  have hinv := invP_spec HPP.out hk3 hxb.1 hxb.2
                  obtain ⟨V, hV⟩ : ∃ V, invP (P : Int) x = V := ⟨_, rfl⟩
                  have hcall := l10I_any x P HPB.out hk3 hxb.1 hxb.2
                  rw [hV] at HGS hinv hcall
                  have HCALL := Lib.hid hcall
                  obtain ⟨hv1, hv2, hv3⟩ : 1 ≤ V ∧ V ≤ 4 ∧ V < P := ⟨hinv.2.1, hinv.2.2.1, hinv.2.2.2.1⟩
                  have HM1 := Lib.hid (swap_res HRED.out.res htm hk2)
                  have HM1x := Lib.hid (show swapR A piv.length k piv.length c = x by rw [← HX.out]; simp [swapR])
                  have HM2 := Lib.hid (scale_res (t := piv.length) (v := V) hP0 HM1.out)
                  have hneg : ¬ ((k : Int) < 0) := by omega
                  clear hV hinv hk3 hk4 hcall HS hx
                  obtain ⟨a1, a2, a3⟩ := MO_cell HH.out hk2
                  obtain ⟨t1, t2, t3⟩ := MO_cell HH.out htm
                  have HB2 := MO_put HH.out piv.length (slR ρ κ n k)
                  obtain ⟨_, u2, u3⟩ := MO_cell HB2 hk2
                  have HB3 : MH w _ g cap (sw piv.length k ρ) (sw piv.length k κ) m n (swapR A piv.length k) _ := MO_swap htm hk2 (MO_put HB2 k (slR ρ κ n piv.length))
                  clear HB2 HH
                  obtain ⟨ρ2, hρ⟩ : ∃ ρ2, sw piv.length k ρ = ρ2 := ⟨_, rfl⟩
                  obtain ⟨κ2, hκ⟩ : ∃ κ2, sw piv.length k κ = κ2 := ⟨_, rfl⟩
                  obtain ⟨M1, hM1⟩ : ∃ M1, swapR A piv.length k = M1 := ⟨_, rfl⟩
                  rw [hρ, hκ, hM1] at HB3
                  rw [hM1] at HM1 HM1x HGS HM2
                  clear hρ hκ hM1
                  obtain ⟨s1, s2, s3⟩ := MO_cell HB3 htm
                  obtain ⟨r1, r2, r3, _⟩ := MO_row HB3 htm hlt
                  rw [HM1x.out] at r1
                  have HB4 := Lib.hid HB3
                  clear HB3
                  go_wp2_with (first | (go_at_call 169; refine (HCALL.out _).mono ?_; rintro e w' ⟨rfl, xe, rfl⟩; have H5 := Lib.hid (HB4.out.ext xe)))
                  clear a1 a2 a3 t1 t2 t3 u2 u3 s1 s2 s3 r1 r2 r3 HB4
                  generalize ext _ xe = w3 at H5 ⊢
                  go_loopw [17] (fun u wr => ∃ j : Nat, u = .int .i64 j ∧ j ≤ n ∧ MH w wr g cap ρ2 κ2 m n (scTo P M1 piv.length V j) [rowI (.slice pa piv.length pc) (castL piv)]) (fun u _ => n - (intOf u).toNat)
                  case atStart => exact ⟨0, rfl, Nat.zero_le _, by rw [scTo_zero]; exact H5.out⟩
                  case round =>
                    clear H5
                    obtain ⟨j, rfl, hjn, H⟩ := hrel
                    by_cases hj : j < n
                    · obtain ⟨z, hz⟩ : ∃ z, M1 piv.length j = z := ⟨_, rfl⟩
                      have hzb := HM1.out piv.length htm j hj
                      rw [hz] at hzb
                      have HZV := Lib.hid hz
                      obtain ⟨a1, a2, a3⟩ := MO_cell H htm
                      obtain ⟨b1, b2, b3, _⟩ := MO_row H htm hj
                      rw [scTo_at, hz] at b1
                      have hms := mul_small (a := z) (b := V) (by omega) (by omega) (by omega) (by omega)
                      have w1 : IntKind.i64.wrap (z * V) = z * V := IntWalk.i64_in _ (by omega)
                      have w1' : wrap64 (z * V) = z * V := by simp only [wrap64]; omega
                      have htm' : (z * V).tmod (P : Int) = z * V % (P : Int) := Int.tmod_eq_emod_of_nonneg hms.1
                      clear hz
                      go_wp2_with fail
                      go_still_tail 17, (by kernel_rfl)
                      change wpList _ _ _ _ _ wr.drew
                      have H2 := H.to (w' := wr.drew) (by repeat first | apply wxr | with_reducible assumption | apply wxe | apply wxa | apply wxd)
                      clear a1 a2 a3 b1 b2 b3 H
                      generalize wr.drew = w4 at H2 ⊢
                      obtain ⟨a1, a2, a3⟩ := MO_cell H2 htm
                      obtain ⟨b1, b2, b3, b4⟩ := MO_row H2 htm hj
                      have H3 := Lib.hid (b4 (z * V % P))
                      clear b4 H2
                      go_wp2_with fail
                      go_roundw
                      case rel => exact ⟨j + 1, int_succ j, hj, by rw [← scTo_step, HZV.out]; exact H3.out⟩
                      case measure => simp [intOf]; omega
                    · have HJ := Lib.hid (show j = n by omega)
                      have HC := Lib.hid (show MH w wr g cap ρ2 κ2 m n (scaleR P M1 piv.length V) [rowI (.slice pa piv.length pc) (castL piv)] by
                        have e := MO_congr (g := g) (cap := cap) (φ := slR ρ2 κ2 n) (ρ := ρ2) (κ := κ2) (L := [rowI (.slice pa piv.length pc) (castL piv)]) (M := scTo P M1 piv.length V j) (M' := scaleR P M1 piv.length V) (m := m) (n := n) fun i _ j' hj' => by rw [HJ.out]; exact scTo_all hj'
                        rw [MH, ← e]; exact H)
                      clear H
                      obtain ⟨M2, hM2⟩ : ∃ M2, scaleR (P : Int) M1 piv.length V = M2 := ⟨_, rfl⟩
                      rw [hM2] at HC HGS HM2
                      clear hM2
                      go_wp2_with fail
                      go_loopw [18] (fun u w5 => ∃ i : Nat, u = .int .i64 i ∧ i ≤ m ∧ MH w w5 g cap ρ2 κ2 m n (elIn P M2 piv.length c i 0) [rowI (.slice pa piv.length pc) (castL piv)]) (fun u _ => m - (intOf u).toNat)
                      case atStart => exact ⟨0, rfl, Nat.zero_le _, by rw [elIn_zero]; exact HC.out⟩
                      case round =>
                        clear HC
                        obtain ⟨i, rfl, him, H⟩ := hrel
                        by_cases hi : i < m
                        · obtain ⟨f, hf⟩ : ∃ f, M2 i c = f := ⟨_, rfl⟩
                          have hfb := HM2.out i hi c hlt
                          rw [hf] at hfb
                          have HFF := Lib.hid hf
                          have HFB := Lib.hid hfb
                          obtain ⟨a1, a2, a3⟩ := MO_cell H hi
                          obtain ⟨b1, b2, b3, _⟩ := MO_row H hi hlt
                          rw [elIn_lo, hf] at b1
                          have HH := Lib.hid H
                          clear hf H hfb
                          go_wp2_with fail
                          clear a1 a2 a3 b1 b2 b3
                          go_loopw [20] (fun u w6 => ∃ j : Nat, u = .int .i64 j ∧ j ≤ n ∧ Hid (i = piv.length → j = 0) ∧ MH w w6 g cap ρ2 κ2 m n (elIn P M2 piv.length c i j) [rowI (.slice pa piv.length pc) (castL piv)]) (fun u _ => n - (intOf u).toNat)
                          case atStart => exact ⟨0, rfl, Nat.zero_le _, Lib.hid (fun _ => rfl), HH.out⟩
                          case round =>
                            clear HH
                            obtain ⟨j, rfl, hjn, HIJ, H⟩ := hrel
                            by_cases hit : i = piv.length
                            · have hbt : ((i : Int) != (piv.length : Int)) = false := by rw [hit]; simp
                              have hj0 := HIJ.out hit
                              have HC := Lib.hid (show MH w wr g cap ρ2 κ2 m n (elIn P M2 piv.length c (i + 1) 0) [rowI (.slice pa piv.length pc) (castL piv)] by
                                have e := MO_congr (g := g) (cap := cap) (φ := slR ρ2 κ2 n) (ρ := ρ2) (κ := κ2) (L := [rowI (.slice pa piv.length pc) (castL piv)]) (M := elIn P M2 piv.length c i 0) (M' := elIn P M2 piv.length c (i + 1) 0) (m := m) (n := n) fun i' _ j' hj' => elIn_skip HM2.out hP0 hi (.inl hit) hj'
                                rw [MH, ← e, ← hj0]; exact H)
                              have HIT := Lib.hid hit
                              clear H hit hj0
                              by_cases hjn2 : j < n
                              all_goals
                                go_wp2_with fail
                                go_roundw
                                case rel => exact ⟨i + 1, int_succ i, hi, HC.out⟩
                                case measure => simp [intOf]; omega
                            · have hbt : ((i : Int) != (piv.length : Int)) = true := bne_iff_ne.2 (by omega)
                              have HIT := Lib.hid hit
                              by_cases hj : j < n
                              · obtain ⟨a, ha⟩ : ∃ a, M2 i j = a := ⟨_, rfl⟩
                                obtain ⟨b, hb⟩ : ∃ b, M2 piv.length j = b := ⟨_, rfl⟩
                                have hab := HM2.out i hi j hj
                                have hbb := HM2.out piv.length htm j hj
                                rw [ha] at hab
                                rw [hb] at hbb
                                have HAV2 := Lib.hid ha
                                have HBV := Lib.hid hb
                                obtain ⟨a1, a2, a3⟩ := MO_cell H hi
                                obtain ⟨t1, t2, t3⟩ := MO_cell H htm
                                obtain ⟨b1, b2, b3, _⟩ := MO_row H hi hj
                                obtain ⟨d1, d2, d3, _⟩ := MO_row H htm hj
                                rw [elIn_at, ha] at b1
                                rw [elIn_t, hb] at d1
                                have hfb := HFB.out
                                have hms := mul_small (a := f) (b := b) (by omega) (by omega) (by omega) (by omega)
                                have hmid := red_mid (u := a - f * b) hP0 (by omega)
                                have w1' : wrap64 (f * b) = f * b := by simp only [wrap64]; omega
                                have w2' : wrap64 (a - f * b) = a - f * b := by simp only [wrap64]; omega
                                have w3' : wrap64 ((a - f * b).tmod (P : Int) + P) = (a - f * b).tmod (P : Int) + P := by simp only [wrap64]; omega
                                have htm' := red_val (a := a) (f := f) (b := b) hP0 hab.1 hab.2 hfb.1 hfb.2 hbb.1 hbb.2
                                clear ha hb hfb hmid
                                go_wp2_with fail
                                go_still_tail 29, (by kernel_rfl)
                                change wpList _ _ _ _ _ wr.drew
                                have H2 := H.to (w' := wr.drew) (by repeat first | apply wxr | with_reducible assumption | apply wxe | apply wxa | apply wxd)
                                clear a1 a2 a3 b1 b2 b3 t1 t2 t3 d1 d2 d3 H
                                generalize wr.drew = w4 at H2 ⊢
                                obtain ⟨a1, a2, a3⟩ := MO_cell H2 hi
                                obtain ⟨t1, t2, t3⟩ := MO_cell H2 htm
                                obtain ⟨b1, b2, b3, b4⟩ := MO_row H2 hi hj
                                obtain ⟨d1, d2, d3, _⟩ := MO_row H2 htm hj
                                have H3 := Lib.hid (b4 ((a + ((P : Int) - f) * b) % P))
                                clear b4 H2
                                go_wp2_with fail
                                go_roundw
                                case rel => exact ⟨j + 1, int_succ j, hj, Lib.hid (fun h => absurd h HIT.out), by rw [← elIn_step HIT.out, HAV2.out, HBV.out, HFF.out]; exact H3.out⟩
                                case measure => simp [intOf]; omega
                              · have HJ := Lib.hid (show j = n by omega)
                                have HC := Lib.hid (show MH w wr g cap ρ2 κ2 m n (elIn P M2 piv.length c (i + 1) 0) [rowI (.slice pa piv.length pc) (castL piv)] by
                                  have e := MO_congr (g := g) (cap := cap) (φ := slR ρ2 κ2 n) (ρ := ρ2) (κ := κ2) (L := [rowI (.slice pa piv.length pc) (castL piv)]) (M := elIn P M2 piv.length c i j) (M' := elIn P M2 piv.length c (i + 1) 0) (m := m) (n := n) fun i' _ j' hj' => by rw [HJ.out]; exact elIn_next hj'
                                  rw [MH, ← e]; exact H)
                                clear H
                                go_wp2_with fail
                                go_roundw
                                case rel => exact ⟨i + 1, int_succ i, hi, HC.out⟩
                                case measure => simp [intOf]; omega
                        · have HI := Lib.hid (show i = m by omega)
                          have HC := Lib.hid (show MH w wr g cap ρ2 κ2 m n (elimR P M2 piv.length c) [rowI (.slice pa piv.length pc) (castL piv)] by
                            have e := MO_congr (g := g) (cap := cap) (φ := slR ρ2 κ2 n) (ρ := ρ2) (κ := κ2) (L := [rowI (.slice pa piv.length pc) (castL piv)]) (M := elIn P M2 piv.length c i 0) (M' := elimR P M2 piv.length c) (m := m) (n := n) fun i' hi' j' _ => by rw [HI.out]; exact elIn_all hi'
                            rw [MH, ← e]; exact H)
                          have HR := Lib.hid (HC.out.front MO_last)
                          clear H HC
                          have hpl : piv.length ≤ 100000 := by omega
                          go_wp2_with (first | (at_builtin; refine wpList_append_held (m := 1) rfl _ _ _ rfl elemInt (HR.out.to (by repeat first | apply wxr | with_reducible assumption | apply wxe | apply wxa | apply wxd)) rfl rfl (Sl_new1 _ _ _) (one_lit _) (by rw [castL_len]; unfold maxLen; omega) (by rw [castL_len]; omega) ?_; intro v' w' H7; have H8 := Lib.hid (Held.front H7.snocN MO_last.symm); clear H7))
                          go_roundw
                          case rel => exact ⟨v', c + 1, ρ2, κ2, rfl, hlt, int_succ c, by rw [HGS.out]; exact H8.out⟩
                          case measure => simp [intOf]; omega
          · have HGS := Lib.hid (gs_stop (p := (P : Int)) (m := m) (M := M) (c := c) (n := n) (by rw [HG.out]; exact htm) hck)
            have HH := Lib.hid H
            clear hred hg H
            subst epv
            go_wp2_with fail
            go_ret2
            exact ⟨g, cap, ρ, κ, _, rfl, by rw [HGS.out, HG.out]; exact HH.out⟩
        · have HK := Lib.hid (show c = n by omega)
          have HH := Lib.hid H
          clear hred hg H
          subst epv
          go_wp2_with fail
          go_ret2
          exact ⟨g, cap, ρ, κ, _, rfl, by have e := HG.out; rw [HK.out] at e; rw [e]; exact HH.out⟩
end
end Go.Proofs.YtchcepihmphdmaaGreatDoor
